/- TaleKnown: parts of its run. Conditions: none. -/
import Derived.Test.YtehhgkgeldinkaaGreatDoorTaleKnownMs2
import Derived.KernelRfl
namespace Go.Proofs.YtehhgkgeldinkaaGreatDoor.TaleKnownRun
open Go Go.RowKit Am EkEnv
set_option linter.unusedVariables false
set_option maxRecDepth 100000
theorem run22 (el : Nat → TypeId) : endMemo begin0 memo22 (F.runF Tryz.prog ext prim0 60000 memo22.fid memo22.args (heapOf el begin0 memo22.inn memo22.next)) = (true, F.mapL (fun x => el x.1) begin0) := by kernel_rfl
theorem q22  : MemoOK Tryz.prog begin0 memo22 := memo_run mixed namesOK extOK (prim0OK) (m := memo22) Tryz.func15 rfl run22
theorem run23 (el : Nat → TypeId) : endMemo begin0 memo23 (F.runF Tryz.prog ext prim0 60000 memo23.fid memo23.args (heapOf el begin0 memo23.inn memo23.next)) = (true, F.mapL (fun x => el x.1) begin0) := by kernel_rfl
theorem q23  : MemoOK Tryz.prog begin0 memo23 := memo_run mixed namesOK extOK (prim0OK) (m := memo23) Tryz.func15 rfl run23
theorem run24 (el : Nat → TypeId) : endMemo begin0 memo24 (F.runF Tryz.prog ext prim0 60000 memo24.fid memo24.args (heapOf el begin0 memo24.inn memo24.next)) = (true, F.mapL (fun x => el x.1) begin0) := by kernel_rfl
theorem q24  : MemoOK Tryz.prog begin0 memo24 := memo_run mixed namesOK extOK (prim0OK) (m := memo24) Tryz.func15 rfl run24
theorem run25 (el : Nat → TypeId) : endMemo begin0 memo25 (F.runF Tryz.prog ext prim0 60000 memo25.fid memo25.args (heapOf el begin0 memo25.inn memo25.next)) = (true, F.mapL (fun x => el x.1) begin0) := by kernel_rfl
theorem q25  : MemoOK Tryz.prog begin0 memo25 := memo_run mixed namesOK extOK (prim0OK) (m := memo25) Tryz.func15 rfl run25
end Go.Proofs.YtehhgkgeldinkaaGreatDoor.TaleKnownRun
