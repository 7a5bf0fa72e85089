/- FairKnown: one part of its run. Conditions: the parts ahead. -/
import Derived.Test.YtlomlkoimmpemaaGreatDoorFairKnownMs
import Derived.KernelRfl
namespace Go.Proofs.YtlomlkoimmpemaaGreatDoor.FairKnownRun
open Go Go.RowKit Am EkEnv
set_option linter.unusedVariables false
set_option maxRecDepth 100000
theorem run7 (el : Nat → TypeId) : endMemo begin0 memo7 (F.runF Tryz.prog ext pm6 60000 memo7.fid memo7.args (heapOf el begin0 memo7.inn memo7.next)) = (true, F.mapL (fun x => el x.1) begin0) := by kernel_rfl
theorem q7 (h1 : MemoOK Tryz.prog begin0 memo1) (h2 : MemoOK Tryz.prog begin0 memo2) (h3 : MemoOK Tryz.prog begin0 memo3) (h4 : MemoOK Tryz.prog begin0 memo4) (h5 : MemoOK Tryz.prog begin0 memo5) (h6 : MemoOK Tryz.prog begin0 memo6) : MemoOK Tryz.prog begin0 memo7 := memo_run mixed namesOK extOK (pm6OK h1 h2 h3 h4 h5 h6) (m := memo7) Tryz.func71 rfl run7
end Go.Proofs.YtlomlkoimmpemaaGreatDoor.FairKnownRun
