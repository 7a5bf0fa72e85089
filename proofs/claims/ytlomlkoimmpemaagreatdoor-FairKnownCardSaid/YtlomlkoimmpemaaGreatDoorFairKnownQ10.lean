/- FairKnown: one part of its run. Conditions: the parts ahead. -/
import Derived.Test.YtlomlkoimmpemaaGreatDoorFairKnownMs
import Derived.KernelRfl
namespace Go.Proofs.YtlomlkoimmpemaaGreatDoor.FairKnownRun
open Go Go.RowKit Am EkEnv
set_option linter.unusedVariables false
set_option maxRecDepth 100000
theorem run10 (el : Nat → TypeId) : endMemo begin0 memo10 (F.runF Tryz.prog ext pm9 60000 memo10.fid memo10.args (heapOf el begin0 memo10.inn memo10.next)) = (true, F.mapL (fun x => el x.1) begin0) := by kernel_rfl
theorem q10 (h1 : MemoOK Tryz.prog begin0 memo1) (h2 : MemoOK Tryz.prog begin0 memo2) (h3 : MemoOK Tryz.prog begin0 memo3) (h4 : MemoOK Tryz.prog begin0 memo4) (h5 : MemoOK Tryz.prog begin0 memo5) (h6 : MemoOK Tryz.prog begin0 memo6) (h7 : MemoOK Tryz.prog begin0 memo7) (h8 : MemoOK Tryz.prog begin0 memo8) (h9 : MemoOK Tryz.prog begin0 memo9) : MemoOK Tryz.prog begin0 memo10 := memo_run mixed namesOK extOK (pm9OK h1 h2 h3 h4 h5 h6 h7 h8 h9) (m := memo10) Tryz.func31 rfl run10
end Go.Proofs.YtlomlkoimmpemaaGreatDoor.FairKnownRun
