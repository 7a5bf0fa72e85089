/- FairKnown: one part of its run. Conditions: the parts ahead. -/
import Derived.Test.YtlomlkoimmpemaaGreatDoorFairKnownMs
import Derived.KernelRfl
namespace Go.Proofs.YtlomlkoimmpemaaGreatDoor.FairKnownRun
open Go Go.RowKit Am EkEnv
set_option linter.unusedVariables false
set_option maxRecDepth 100000
theorem run5 (el : Nat → TypeId) : endMemo begin0 memo5 (F.runF Tryz.prog ext pm4 60000 memo5.fid memo5.args (heapOf el begin0 memo5.inn memo5.next)) = (true, F.mapL (fun x => el x.1) begin0) := by kernel_rfl
theorem q5 (h1 : MemoOK Tryz.prog begin0 memo1) (h2 : MemoOK Tryz.prog begin0 memo2) (h3 : MemoOK Tryz.prog begin0 memo3) (h4 : MemoOK Tryz.prog begin0 memo4) : MemoOK Tryz.prog begin0 memo5 := memo_run mixed namesOK extOK (pm4OK h1 h2 h3 h4) (m := memo5) Tryz.func71 rfl run5
end Go.Proofs.YtlomlkoimmpemaaGreatDoor.FairKnownRun
