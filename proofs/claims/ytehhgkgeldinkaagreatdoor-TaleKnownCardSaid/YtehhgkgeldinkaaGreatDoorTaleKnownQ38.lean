/- TaleKnown: parts of its run. Conditions: none. -/
import Derived.Test.YtehhgkgeldinkaaGreatDoorTaleKnownMs2
import Derived.KernelRfl
namespace Go.Proofs.YtehhgkgeldinkaaGreatDoor.TaleKnownRun
open Go Go.RowKit Am EkEnv
set_option linter.unusedVariables false
set_option maxRecDepth 100000
theorem run38 (el : Nat → TypeId) : endMemo begin0 memo38 (F.runF Tryz.prog ext prim0 60000 memo38.fid memo38.args (heapOf el begin0 memo38.inn memo38.next)) = (true, F.mapL (fun x => el x.1) begin0) := by kernel_rfl
theorem q38  : MemoOK Tryz.prog begin0 memo38 := memo_run mixed namesOK extOK (prim0OK) (m := memo38) Tryz.func15 rfl run38
theorem run39 (el : Nat → TypeId) : endMemo begin0 memo39 (F.runF Tryz.prog ext prim0 60000 memo39.fid memo39.args (heapOf el begin0 memo39.inn memo39.next)) = (true, F.mapL (fun x => el x.1) begin0) := by kernel_rfl
theorem q39  : MemoOK Tryz.prog begin0 memo39 := memo_run mixed namesOK extOK (prim0OK) (m := memo39) Tryz.func15 rfl run39
theorem run40 (el : Nat → TypeId) : endMemo begin0 memo40 (F.runF Tryz.prog ext prim0 60000 memo40.fid memo40.args (heapOf el begin0 memo40.inn memo40.next)) = (true, F.mapL (fun x => el x.1) begin0) := by kernel_rfl
theorem q40  : MemoOK Tryz.prog begin0 memo40 := memo_run mixed namesOK extOK (prim0OK) (m := memo40) Tryz.func15 rfl run40
theorem run41 (el : Nat → TypeId) : endMemo begin0 memo41 (F.runF Tryz.prog ext prim0 60000 memo41.fid memo41.args (heapOf el begin0 memo41.inn memo41.next)) = (true, F.mapL (fun x => el x.1) begin0) := by kernel_rfl
theorem q41  : MemoOK Tryz.prog begin0 memo41 := memo_run mixed namesOK extOK (prim0OK) (m := memo41) Tryz.func15 rfl run41
end Go.Proofs.YtehhgkgeldinkaaGreatDoor.TaleKnownRun
