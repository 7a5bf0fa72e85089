/- FairKnown: one part of its run. Conditions: the parts ahead. -/
import Derived.Test.YtlomlkoimmpemaaGreatDoorFairKnownMs
import Derived.KernelRfl
namespace Go.Proofs.YtlomlkoimmpemaaGreatDoor.FairKnownRun
open Go Go.RowKit Am EkEnv
set_option linter.unusedVariables false
set_option maxRecDepth 100000
theorem run6 (el : Nat → TypeId) : endMemo begin0 memo6 (F.runF Tryz.prog ext pm5 60000 memo6.fid memo6.args (heapOf el begin0 memo6.inn memo6.next)) = (true, F.mapL (fun x => el x.1) begin0) := by kernel_rfl
theorem q6 (h1 : MemoOK Tryz.prog begin0 memo1) (h2 : MemoOK Tryz.prog begin0 memo2) (h3 : MemoOK Tryz.prog begin0 memo3) (h4 : MemoOK Tryz.prog begin0 memo4) (h5 : MemoOK Tryz.prog begin0 memo5) : MemoOK Tryz.prog begin0 memo6 := memo_run mixed namesOK extOK (pm5OK h1 h2 h3 h4 h5) (m := memo6) Tryz.func71 rfl run6
end Go.Proofs.YtlomlkoimmpemaaGreatDoor.FairKnownRun
