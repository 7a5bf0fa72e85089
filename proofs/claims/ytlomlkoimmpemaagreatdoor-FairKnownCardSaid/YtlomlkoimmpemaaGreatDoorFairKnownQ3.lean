/- FairKnown: one part of its run. Conditions: the parts ahead. -/
import Derived.Test.YtlomlkoimmpemaaGreatDoorFairKnownMs
import Derived.KernelRfl
namespace Go.Proofs.YtlomlkoimmpemaaGreatDoor.FairKnownRun
open Go Go.RowKit Am EkEnv
set_option linter.unusedVariables false
set_option maxRecDepth 100000
theorem run3 (el : Nat → TypeId) : endMemo begin0 memo3 (F.runF Tryz.prog ext pm2 60000 memo3.fid memo3.args (heapOf el begin0 memo3.inn memo3.next)) = (true, F.mapL (fun x => el x.1) begin0) := by kernel_rfl
theorem q3 (h1 : MemoOK Tryz.prog begin0 memo1) (h2 : MemoOK Tryz.prog begin0 memo2) : MemoOK Tryz.prog begin0 memo3 := memo_run mixed namesOK extOK (pm2OK h1 h2) (m := memo3) Tryz.func30 rfl run3
end Go.Proofs.YtlomlkoimmpemaaGreatDoor.FairKnownRun
