/- TaleKnown: parts of its run. Conditions: none. -/
import Derived.Test.YtehhgkgeldinkaaGreatDoorTaleKnownMs2
import Derived.KernelRfl
namespace Go.Proofs.YtehhgkgeldinkaaGreatDoor.TaleKnownRun
open Go Go.RowKit Am EkEnv
set_option linter.unusedVariables false
set_option maxRecDepth 100000
theorem run10 (el : Nat → TypeId) : endMemo begin0 memo10 (F.runF Tryz.prog ext prim0 60000 memo10.fid memo10.args (heapOf el begin0 memo10.inn memo10.next)) = (true, F.mapL (fun x => el x.1) begin0) := by kernel_rfl
theorem q10  : MemoOK Tryz.prog begin0 memo10 := memo_run mixed namesOK extOK (prim0OK) (m := memo10) Tryz.func15 rfl run10
theorem run11 (el : Nat → TypeId) : endMemo begin0 memo11 (F.runF Tryz.prog ext prim0 60000 memo11.fid memo11.args (heapOf el begin0 memo11.inn memo11.next)) = (true, F.mapL (fun x => el x.1) begin0) := by kernel_rfl
theorem q11  : MemoOK Tryz.prog begin0 memo11 := memo_run mixed namesOK extOK (prim0OK) (m := memo11) Tryz.func15 rfl run11
theorem run12 (el : Nat → TypeId) : endMemo begin0 memo12 (F.runF Tryz.prog ext prim0 60000 memo12.fid memo12.args (heapOf el begin0 memo12.inn memo12.next)) = (true, F.mapL (fun x => el x.1) begin0) := by kernel_rfl
theorem q12  : MemoOK Tryz.prog begin0 memo12 := memo_run mixed namesOK extOK (prim0OK) (m := memo12) Tryz.func15 rfl run12
theorem run13 (el : Nat → TypeId) : endMemo begin0 memo13 (F.runF Tryz.prog ext prim0 60000 memo13.fid memo13.args (heapOf el begin0 memo13.inn memo13.next)) = (true, F.mapL (fun x => el x.1) begin0) := by kernel_rfl
theorem q13  : MemoOK Tryz.prog begin0 memo13 := memo_run mixed namesOK extOK (prim0OK) (m := memo13) Tryz.func15 rfl run13
end Go.Proofs.YtehhgkgeldinkaaGreatDoor.TaleKnownRun
