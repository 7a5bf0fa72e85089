/- TaleKnown: parts of its run. Conditions: none. -/
import Derived.Test.YtehhgkgeldinkaaGreatDoorTaleKnownMs2
import Derived.KernelRfl
namespace Go.Proofs.YtehhgkgeldinkaaGreatDoor.TaleKnownRun
open Go Go.RowKit Am EkEnv
set_option linter.unusedVariables false
set_option maxRecDepth 100000
theorem run34 (el : Nat → TypeId) : endMemo begin0 memo34 (F.runF Tryz.prog ext prim0 60000 memo34.fid memo34.args (heapOf el begin0 memo34.inn memo34.next)) = (true, F.mapL (fun x => el x.1) begin0) := by kernel_rfl
theorem q34  : MemoOK Tryz.prog begin0 memo34 := memo_run mixed namesOK extOK (prim0OK) (m := memo34) Tryz.func15 rfl run34
theorem run35 (el : Nat → TypeId) : endMemo begin0 memo35 (F.runF Tryz.prog ext prim0 60000 memo35.fid memo35.args (heapOf el begin0 memo35.inn memo35.next)) = (true, F.mapL (fun x => el x.1) begin0) := by kernel_rfl
theorem q35  : MemoOK Tryz.prog begin0 memo35 := memo_run mixed namesOK extOK (prim0OK) (m := memo35) Tryz.func15 rfl run35
theorem run36 (el : Nat → TypeId) : endMemo begin0 memo36 (F.runF Tryz.prog ext prim0 60000 memo36.fid memo36.args (heapOf el begin0 memo36.inn memo36.next)) = (true, F.mapL (fun x => el x.1) begin0) := by kernel_rfl
theorem q36  : MemoOK Tryz.prog begin0 memo36 := memo_run mixed namesOK extOK (prim0OK) (m := memo36) Tryz.func15 rfl run36
theorem run37 (el : Nat → TypeId) : endMemo begin0 memo37 (F.runF Tryz.prog ext prim0 60000 memo37.fid memo37.args (heapOf el begin0 memo37.inn memo37.next)) = (true, F.mapL (fun x => el x.1) begin0) := by kernel_rfl
theorem q37  : MemoOK Tryz.prog begin0 memo37 := memo_run mixed namesOK extOK (prim0OK) (m := memo37) Tryz.func15 rfl run37
end Go.Proofs.YtehhgkgeldinkaaGreatDoor.TaleKnownRun
