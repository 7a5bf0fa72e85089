/- TaleKnown: parts of its run. Conditions: none. -/
import Derived.Test.YtehhgkgeldinkaaGreatDoorTaleKnownMs2
import Derived.KernelRfl
namespace Go.Proofs.YtehhgkgeldinkaaGreatDoor.TaleKnownRun
open Go Go.RowKit Am EkEnv
set_option linter.unusedVariables false
set_option maxRecDepth 100000
theorem run2 (el : Nat → TypeId) : endMemo begin0 memo2 (F.runF Tryz.prog ext prim0 60000 memo2.fid memo2.args (heapOf el begin0 memo2.inn memo2.next)) = (true, F.mapL (fun x => el x.1) begin0) := by kernel_rfl
theorem q2  : MemoOK Tryz.prog begin0 memo2 := memo_run mixed namesOK extOK (prim0OK) (m := memo2) Tryz.func15 rfl run2
theorem run3 (el : Nat → TypeId) : endMemo begin0 memo3 (F.runF Tryz.prog ext prim0 60000 memo3.fid memo3.args (heapOf el begin0 memo3.inn memo3.next)) = (true, F.mapL (fun x => el x.1) begin0) := by kernel_rfl
theorem q3  : MemoOK Tryz.prog begin0 memo3 := memo_run mixed namesOK extOK (prim0OK) (m := memo3) Tryz.func15 rfl run3
theorem run4 (el : Nat → TypeId) : endMemo begin0 memo4 (F.runF Tryz.prog ext prim0 60000 memo4.fid memo4.args (heapOf el begin0 memo4.inn memo4.next)) = (true, F.mapL (fun x => el x.1) begin0) := by kernel_rfl
theorem q4  : MemoOK Tryz.prog begin0 memo4 := memo_run mixed namesOK extOK (prim0OK) (m := memo4) Tryz.func15 rfl run4
theorem run5 (el : Nat → TypeId) : endMemo begin0 memo5 (F.runF Tryz.prog ext prim0 60000 memo5.fid memo5.args (heapOf el begin0 memo5.inn memo5.next)) = (true, F.mapL (fun x => el x.1) begin0) := by kernel_rfl
theorem q5  : MemoOK Tryz.prog begin0 memo5 := memo_run mixed namesOK extOK (prim0OK) (m := memo5) Tryz.func15 rfl run5
end Go.Proofs.YtehhgkgeldinkaaGreatDoor.TaleKnownRun
