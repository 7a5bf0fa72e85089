/- EngineKnown by the evaluator: its run, joined of its parts. Conditions: what the row lists. -/
import Derived.Test.YtlomlkoimmpemaaGreatDoorEngineKnownMs
import Derived.KernelRfl
namespace Go.Proofs.YtlomlkoimmpemaaGreatDoor.EngineKnownRun
open Go Go.RowKit Am EkEnv
set_option linter.unusedVariables false
set_option maxRecDepth 100000
theorem runF (el : Nat → TypeId) : F.endTrue (F.runF Tryz.prog ext pm2 60000 4 [] ⟨layO el begin0, 11⟩) = true := by kernel_rfl
theorem join (h1 : MemoOK Tryz.prog begin0 memo1) (h2 : MemoOK Tryz.prog begin0 memo2) {W : World} (h : laidMet Tryz.prog laid W) (hsz : 8 ≤ W.heap.size) : Calls Tryz.prog 4 #[] W fun en w' => en = .returned (.bool true) ∧ Below W.heap.size W w' := by
  obtain ⟨e, hR, _, _⟩ := begins h hsz (fun _ => 0) (fun _ => 0) (fun _ => 0) (N := 11) (Nat.le_refl _) (PO := []) (fun i o hm => by cases hm)
  exact closed_true mixed namesOK extOK (pm2OK h1 h2) Tryz.func4 rfl (F.run_true (runF _)) hR
end Go.Proofs.YtlomlkoimmpemaaGreatDoor.EngineKnownRun
