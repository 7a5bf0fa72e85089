/- TaleKnown: one part of its run. Conditions: the parts within it. -/
import Derived.Test.YtehhgkgeldinkaaGreatDoorTaleKnownMs2
import Derived.KernelRfl
namespace Go.Proofs.YtehhgkgeldinkaaGreatDoor.TaleKnownRun
open Go Go.RowKit Am EkEnv
set_option linter.unusedVariables false
set_option maxRecDepth 100000
theorem run1 (el : Nat → TypeId) : endMemo begin0 memo1 (F.runF Tryz.prog ext prim0 60000 memo1.fid memo1.args (heapOf el begin0 memo1.inn memo1.next)) = (true, F.mapL (fun x => el x.1) begin0) := by kernel_rfl
theorem q1  : MemoOK Tryz.prog begin0 memo1 := memo_run mixed namesOK extOK (prim0OK) (m := memo1) Tryz.func6 rfl run1
end Go.Proofs.YtehhgkgeldinkaaGreatDoor.TaleKnownRun
