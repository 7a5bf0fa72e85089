/- TaleKnown: parts of its run. Conditions: none. -/
import Derived.Test.YtehhgkgeldinkaaGreatDoorTaleKnownMs2
import Derived.KernelRfl
namespace Go.Proofs.YtehhgkgeldinkaaGreatDoor.TaleKnownRun
open Go Go.RowKit Am EkEnv
set_option linter.unusedVariables false
set_option maxRecDepth 100000
theorem run26 (el : Nat → TypeId) : endMemo begin0 memo26 (F.runF Tryz.prog ext prim0 60000 memo26.fid memo26.args (heapOf el begin0 memo26.inn memo26.next)) = (true, F.mapL (fun x => el x.1) begin0) := by kernel_rfl
theorem q26  : MemoOK Tryz.prog begin0 memo26 := memo_run mixed namesOK extOK (prim0OK) (m := memo26) Tryz.func15 rfl run26
theorem run27 (el : Nat → TypeId) : endMemo begin0 memo27 (F.runF Tryz.prog ext prim0 60000 memo27.fid memo27.args (heapOf el begin0 memo27.inn memo27.next)) = (true, F.mapL (fun x => el x.1) begin0) := by kernel_rfl
theorem q27  : MemoOK Tryz.prog begin0 memo27 := memo_run mixed namesOK extOK (prim0OK) (m := memo27) Tryz.func15 rfl run27
theorem run28 (el : Nat → TypeId) : endMemo begin0 memo28 (F.runF Tryz.prog ext prim0 60000 memo28.fid memo28.args (heapOf el begin0 memo28.inn memo28.next)) = (true, F.mapL (fun x => el x.1) begin0) := by kernel_rfl
theorem q28  : MemoOK Tryz.prog begin0 memo28 := memo_run mixed namesOK extOK (prim0OK) (m := memo28) Tryz.func15 rfl run28
theorem run29 (el : Nat → TypeId) : endMemo begin0 memo29 (F.runF Tryz.prog ext prim0 60000 memo29.fid memo29.args (heapOf el begin0 memo29.inn memo29.next)) = (true, F.mapL (fun x => el x.1) begin0) := by kernel_rfl
theorem q29  : MemoOK Tryz.prog begin0 memo29 := memo_run mixed namesOK extOK (prim0OK) (m := memo29) Tryz.func15 rfl run29
end Go.Proofs.YtehhgkgeldinkaaGreatDoor.TaleKnownRun
