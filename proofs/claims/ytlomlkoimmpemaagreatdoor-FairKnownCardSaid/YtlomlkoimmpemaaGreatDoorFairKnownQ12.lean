/- FairKnown: one part of its run. Conditions: the parts ahead. -/
import Derived.Test.YtlomlkoimmpemaaGreatDoorFairKnownMs2
import Derived.KernelRfl
namespace Go.Proofs.YtlomlkoimmpemaaGreatDoor.FairKnownRun
open Go Go.RowKit Am EkEnv
set_option linter.unusedVariables false
set_option maxRecDepth 100000
theorem run12 (el : Nat → TypeId) : endMemo begin0 memo12 (F.runF Tryz.prog ext pm11 60000 memo12.fid memo12.args (heapOf el begin0 memo12.inn memo12.next)) = (true, F.mapL (fun x => el x.1) begin0) := by kernel_rfl
theorem q12 (h1 : MemoOK Tryz.prog begin0 memo1) (h2 : MemoOK Tryz.prog begin0 memo2) (h3 : MemoOK Tryz.prog begin0 memo3) (h4 : MemoOK Tryz.prog begin0 memo4) (h5 : MemoOK Tryz.prog begin0 memo5) (h6 : MemoOK Tryz.prog begin0 memo6) (h7 : MemoOK Tryz.prog begin0 memo7) (h8 : MemoOK Tryz.prog begin0 memo8) (h9 : MemoOK Tryz.prog begin0 memo9) (h10 : MemoOK Tryz.prog begin0 memo10) (h11 : MemoOK Tryz.prog begin0 memo11) : MemoOK Tryz.prog begin0 memo12 := memo_run mixed namesOK extOK (pm11OK h1 h2 h3 h4 h5 h6 h7 h8 h9 h10 h11) (m := memo12) Tryz.func30 rfl run12
end Go.Proofs.YtlomlkoimmpemaaGreatDoor.FairKnownRun
