/- FairKnown: one part of its run. Conditions: the parts ahead. -/
import Derived.Test.YtlomlkoimmpemaaGreatDoorFairKnownMs
import Derived.KernelRfl
namespace Go.Proofs.YtlomlkoimmpemaaGreatDoor.FairKnownRun
open Go Go.RowKit Am EkEnv
set_option linter.unusedVariables false
set_option maxRecDepth 100000
theorem run8 (el : Nat → TypeId) : endMemo begin0 memo8 (F.runF Tryz.prog ext pm7 60000 memo8.fid memo8.args (heapOf el begin0 memo8.inn memo8.next)) = (true, F.mapL (fun x => el x.1) begin0) := by kernel_rfl
theorem q8 (h1 : MemoOK Tryz.prog begin0 memo1) (h2 : MemoOK Tryz.prog begin0 memo2) (h3 : MemoOK Tryz.prog begin0 memo3) (h4 : MemoOK Tryz.prog begin0 memo4) (h5 : MemoOK Tryz.prog begin0 memo5) (h6 : MemoOK Tryz.prog begin0 memo6) (h7 : MemoOK Tryz.prog begin0 memo7) : MemoOK Tryz.prog begin0 memo8 := memo_run mixed namesOK extOK (pm7OK h1 h2 h3 h4 h5 h6 h7) (m := memo8) Tryz.func26 rfl run8
end Go.Proofs.YtlomlkoimmpemaaGreatDoor.FairKnownRun
