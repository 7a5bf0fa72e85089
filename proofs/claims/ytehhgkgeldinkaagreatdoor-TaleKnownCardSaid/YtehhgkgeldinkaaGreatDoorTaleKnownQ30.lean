/- TaleKnown: parts of its run. Conditions: none. -/
import Derived.Test.YtehhgkgeldinkaaGreatDoorTaleKnownMs2
import Derived.KernelRfl
namespace Go.Proofs.YtehhgkgeldinkaaGreatDoor.TaleKnownRun
open Go Go.RowKit Am EkEnv
set_option linter.unusedVariables false
set_option maxRecDepth 100000
theorem run30 (el : Nat → TypeId) : endMemo begin0 memo30 (F.runF Tryz.prog ext prim0 60000 memo30.fid memo30.args (heapOf el begin0 memo30.inn memo30.next)) = (true, F.mapL (fun x => el x.1) begin0) := by kernel_rfl
theorem q30  : MemoOK Tryz.prog begin0 memo30 := memo_run mixed namesOK extOK (prim0OK) (m := memo30) Tryz.func15 rfl run30
theorem run31 (el : Nat → TypeId) : endMemo begin0 memo31 (F.runF Tryz.prog ext prim0 60000 memo31.fid memo31.args (heapOf el begin0 memo31.inn memo31.next)) = (true, F.mapL (fun x => el x.1) begin0) := by kernel_rfl
theorem q31  : MemoOK Tryz.prog begin0 memo31 := memo_run mixed namesOK extOK (prim0OK) (m := memo31) Tryz.func15 rfl run31
theorem run32 (el : Nat → TypeId) : endMemo begin0 memo32 (F.runF Tryz.prog ext prim0 60000 memo32.fid memo32.args (heapOf el begin0 memo32.inn memo32.next)) = (true, F.mapL (fun x => el x.1) begin0) := by kernel_rfl
theorem q32  : MemoOK Tryz.prog begin0 memo32 := memo_run mixed namesOK extOK (prim0OK) (m := memo32) Tryz.func15 rfl run32
theorem run33 (el : Nat → TypeId) : endMemo begin0 memo33 (F.runF Tryz.prog ext prim0 60000 memo33.fid memo33.args (heapOf el begin0 memo33.inn memo33.next)) = (true, F.mapL (fun x => el x.1) begin0) := by kernel_rfl
theorem q33  : MemoOK Tryz.prog begin0 memo33 := memo_run mixed namesOK extOK (prim0OK) (m := memo33) Tryz.func15 rfl run33
end Go.Proofs.YtehhgkgeldinkaaGreatDoor.TaleKnownRun
