/- FairKnown: one part of its run. Conditions: the parts ahead. -/
import Derived.Test.YtlomlkoimmpemaaGreatDoorFairKnownMs
import Derived.KernelRfl
namespace Go.Proofs.YtlomlkoimmpemaaGreatDoor.FairKnownRun
open Go Go.RowKit Am EkEnv
set_option linter.unusedVariables false
set_option maxRecDepth 100000
theorem run2 (el : Nat → TypeId) : endMemo begin0 memo2 (F.runF Tryz.prog ext pm1 60000 memo2.fid memo2.args (heapOf el begin0 memo2.inn memo2.next)) = (true, F.mapL (fun x => el x.1) begin0) := by kernel_rfl
theorem q2 (h1 : MemoOK Tryz.prog begin0 memo1) : MemoOK Tryz.prog begin0 memo2 := memo_run mixed namesOK extOK (pm1OK h1) (m := memo2) Tryz.func30 rfl run2
end Go.Proofs.YtlomlkoimmpemaaGreatDoor.FairKnownRun
