/- TaleKnown: parts of its run. Conditions: none. -/
import Derived.Test.YtehhgkgeldinkaaGreatDoorTaleKnownMs2
import Derived.KernelRfl
namespace Go.Proofs.YtehhgkgeldinkaaGreatDoor.TaleKnownRun
open Go Go.RowKit Am EkEnv
set_option linter.unusedVariables false
set_option maxRecDepth 100000
theorem run6 (el : Nat → TypeId) : endMemo begin0 memo6 (F.runF Tryz.prog ext prim0 60000 memo6.fid memo6.args (heapOf el begin0 memo6.inn memo6.next)) = (true, F.mapL (fun x => el x.1) begin0) := by kernel_rfl
theorem q6  : MemoOK Tryz.prog begin0 memo6 := memo_run mixed namesOK extOK (prim0OK) (m := memo6) Tryz.func15 rfl run6
theorem run7 (el : Nat → TypeId) : endMemo begin0 memo7 (F.runF Tryz.prog ext prim0 60000 memo7.fid memo7.args (heapOf el begin0 memo7.inn memo7.next)) = (true, F.mapL (fun x => el x.1) begin0) := by kernel_rfl
theorem q7  : MemoOK Tryz.prog begin0 memo7 := memo_run mixed namesOK extOK (prim0OK) (m := memo7) Tryz.func15 rfl run7
theorem run8 (el : Nat → TypeId) : endMemo begin0 memo8 (F.runF Tryz.prog ext prim0 60000 memo8.fid memo8.args (heapOf el begin0 memo8.inn memo8.next)) = (true, F.mapL (fun x => el x.1) begin0) := by kernel_rfl
theorem q8  : MemoOK Tryz.prog begin0 memo8 := memo_run mixed namesOK extOK (prim0OK) (m := memo8) Tryz.func15 rfl run8
theorem run9 (el : Nat → TypeId) : endMemo begin0 memo9 (F.runF Tryz.prog ext prim0 60000 memo9.fid memo9.args (heapOf el begin0 memo9.inn memo9.next)) = (true, F.mapL (fun x => el x.1) begin0) := by kernel_rfl
theorem q9  : MemoOK Tryz.prog begin0 memo9 := memo_run mixed namesOK extOK (prim0OK) (m := memo9) Tryz.func15 rfl run9
end Go.Proofs.YtehhgkgeldinkaaGreatDoor.TaleKnownRun
