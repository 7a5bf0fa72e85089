/- TaleKnown: parts of its run. Conditions: none. -/
import Derived.Test.YtehhgkgeldinkaaGreatDoorTaleKnownMs2
import Derived.KernelRfl
namespace Go.Proofs.YtehhgkgeldinkaaGreatDoor.TaleKnownRun
open Go Go.RowKit Am EkEnv
set_option linter.unusedVariables false
set_option maxRecDepth 100000
theorem run14 (el : Nat → TypeId) : endMemo begin0 memo14 (F.runF Tryz.prog ext prim0 60000 memo14.fid memo14.args (heapOf el begin0 memo14.inn memo14.next)) = (true, F.mapL (fun x => el x.1) begin0) := by kernel_rfl
theorem q14  : MemoOK Tryz.prog begin0 memo14 := memo_run mixed namesOK extOK (prim0OK) (m := memo14) Tryz.func15 rfl run14
theorem run15 (el : Nat → TypeId) : endMemo begin0 memo15 (F.runF Tryz.prog ext prim0 60000 memo15.fid memo15.args (heapOf el begin0 memo15.inn memo15.next)) = (true, F.mapL (fun x => el x.1) begin0) := by kernel_rfl
theorem q15  : MemoOK Tryz.prog begin0 memo15 := memo_run mixed namesOK extOK (prim0OK) (m := memo15) Tryz.func15 rfl run15
theorem run16 (el : Nat → TypeId) : endMemo begin0 memo16 (F.runF Tryz.prog ext prim0 60000 memo16.fid memo16.args (heapOf el begin0 memo16.inn memo16.next)) = (true, F.mapL (fun x => el x.1) begin0) := by kernel_rfl
theorem q16  : MemoOK Tryz.prog begin0 memo16 := memo_run mixed namesOK extOK (prim0OK) (m := memo16) Tryz.func15 rfl run16
end Go.Proofs.YtehhgkgeldinkaaGreatDoor.TaleKnownRun
