/- FairKnown: one part of its run. Conditions: the parts ahead. -/
import Derived.Test.YtlomlkoimmpemaaGreatDoorFairKnownMs
import Derived.KernelRfl
namespace Go.Proofs.YtlomlkoimmpemaaGreatDoor.FairKnownRun
open Go Go.RowKit Am EkEnv
set_option linter.unusedVariables false
set_option maxRecDepth 100000
theorem run4 (el : Nat → TypeId) : endMemo begin0 memo4 (F.runF Tryz.prog ext pm3 60000 memo4.fid memo4.args (heapOf el begin0 memo4.inn memo4.next)) = (true, F.mapL (fun x => el x.1) begin0) := by kernel_rfl
theorem q4 (h1 : MemoOK Tryz.prog begin0 memo1) (h2 : MemoOK Tryz.prog begin0 memo2) (h3 : MemoOK Tryz.prog begin0 memo3) : MemoOK Tryz.prog begin0 memo4 := memo_run mixed namesOK extOK (pm3OK h1 h2 h3) (m := memo4) Tryz.func32 rfl run4
end Go.Proofs.YtlomlkoimmpemaaGreatDoor.FairKnownRun
