/- FairKnown by the evaluator: its run, joined of its parts. Conditions: what the row lists. -/
import Derived.Test.YtlomlkoimmpemaaGreatDoorFairKnownMs2
import Derived.KernelRfl
namespace Go.Proofs.YtlomlkoimmpemaaGreatDoor.FairKnownRun
open Go Go.RowKit Am EkEnv
set_option linter.unusedVariables false
set_option maxRecDepth 100000
theorem runF (el : Nat → TypeId) : F.endTrue (F.runF Tryz.prog ext pm14 60000 6 [] ⟨layO el begin0, 11⟩) = true := by kernel_rfl
theorem join (h1 : MemoOK Tryz.prog begin0 memo1) (h2 : MemoOK Tryz.prog begin0 memo2) (h3 : MemoOK Tryz.prog begin0 memo3) (h4 : MemoOK Tryz.prog begin0 memo4) (h5 : MemoOK Tryz.prog begin0 memo5) (h6 : MemoOK Tryz.prog begin0 memo6) (h7 : MemoOK Tryz.prog begin0 memo7) (h8 : MemoOK Tryz.prog begin0 memo8) (h9 : MemoOK Tryz.prog begin0 memo9) (h10 : MemoOK Tryz.prog begin0 memo10) (h11 : MemoOK Tryz.prog begin0 memo11) (h12 : MemoOK Tryz.prog begin0 memo12) (h13 : MemoOK Tryz.prog begin0 memo13) (h14 : MemoOK Tryz.prog begin0 memo14) {W : World} (h : laidMet Tryz.prog laid W) (hsz : 8 ≤ W.heap.size) : Calls Tryz.prog 6 #[] W fun en w' => en = .returned (.bool true) ∧ Below W.heap.size W w' := by
  obtain ⟨e, hR, _, _⟩ := begins h hsz (fun _ => 0) (fun _ => 0) (fun _ => 0) (N := 11) (Nat.le_refl _) (PO := []) (fun i o hm => by cases hm)
  exact closed_true mixed namesOK extOK (pm14OK h1 h2 h3 h4 h5 h6 h7 h8 h9 h10 h11 h12 h13 h14) Tryz.func6 rfl (F.run_true (runF _)) hR
end Go.Proofs.YtlomlkoimmpemaaGreatDoor.FairKnownRun
