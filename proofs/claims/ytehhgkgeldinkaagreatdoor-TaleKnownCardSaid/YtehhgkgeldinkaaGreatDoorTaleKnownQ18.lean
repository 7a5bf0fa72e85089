/- TaleKnown: parts of its run. Conditions: none. -/
import Derived.Test.YtehhgkgeldinkaaGreatDoorTaleKnownMs2
import Derived.KernelRfl
namespace Go.Proofs.YtehhgkgeldinkaaGreatDoor.TaleKnownRun
open Go Go.RowKit Am EkEnv
set_option linter.unusedVariables false
set_option maxRecDepth 100000
theorem run18 (el : Nat → TypeId) : endMemo begin0 memo18 (F.runF Tryz.prog ext prim0 60000 memo18.fid memo18.args (heapOf el begin0 memo18.inn memo18.next)) = (true, F.mapL (fun x => el x.1) begin0) := by kernel_rfl
theorem q18  : MemoOK Tryz.prog begin0 memo18 := memo_run mixed namesOK extOK (prim0OK) (m := memo18) Tryz.func15 rfl run18
theorem run19 (el : Nat → TypeId) : endMemo begin0 memo19 (F.runF Tryz.prog ext prim0 60000 memo19.fid memo19.args (heapOf el begin0 memo19.inn memo19.next)) = (true, F.mapL (fun x => el x.1) begin0) := by kernel_rfl
theorem q19  : MemoOK Tryz.prog begin0 memo19 := memo_run mixed namesOK extOK (prim0OK) (m := memo19) Tryz.func15 rfl run19
theorem run20 (el : Nat → TypeId) : endMemo begin0 memo20 (F.runF Tryz.prog ext prim0 60000 memo20.fid memo20.args (heapOf el begin0 memo20.inn memo20.next)) = (true, F.mapL (fun x => el x.1) begin0) := by kernel_rfl
theorem q20  : MemoOK Tryz.prog begin0 memo20 := memo_run mixed namesOK extOK (prim0OK) (m := memo20) Tryz.func15 rfl run20
theorem run21 (el : Nat → TypeId) : endMemo begin0 memo21 (F.runF Tryz.prog ext prim0 60000 memo21.fid memo21.args (heapOf el begin0 memo21.inn memo21.next)) = (true, F.mapL (fun x => el x.1) begin0) := by kernel_rfl
theorem q21  : MemoOK Tryz.prog begin0 memo21 := memo_run mixed namesOK extOK (prim0OK) (m := memo21) Tryz.func15 rfl run21
end Go.Proofs.YtehhgkgeldinkaaGreatDoor.TaleKnownRun
