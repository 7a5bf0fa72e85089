/- TaleKnown by the evaluator: its run, joined of its parts. Conditions: what the row lists. -/
import Derived.Test.YtehhgkgeldinkaaGreatDoorTaleKnownMs2
import Derived.KernelRfl
namespace Go.Proofs.YtehhgkgeldinkaaGreatDoor.TaleKnownRun
open Go Go.RowKit Am EkEnv
set_option linter.unusedVariables false
set_option maxRecDepth 100000
noncomputable def pmO (g : Nat) : Option Prim := bif Nat.beq g 6 then some (memoP begin0 (fun args H => F.runF Tryz.prog ext prim0 60000 6 args H) [memo1, memo17, memo42]) else prim0 g
theorem pmOOK (h1 : MemoOK Tryz.prog begin0 memo1) (h17 : MemoOK Tryz.prog begin0 memo17) (h42 : MemoOK Tryz.prog begin0 memo42) : PrimOK Tryz.prog pmO := by
  intro fid p h args H v H' hp
  unfold pmO at h
  cases hq : Nat.beq fid 6 with
  | true =>
    rw [hq] at h
    cases h
    obtain rfl := Nat.eq_of_beq_eq_true hq
    refine memoP_ok (run_one mixed namesOK extOK prim0OK Tryz.func6 rfl) _ ?_ args H v H' hp
    intro m hm
    simp only [List.mem_cons, List.mem_nil_iff, or_false] at hm
    rcases hm with rfl | rfl | rfl
    · exact ⟨rfl, h1⟩
    · exact ⟨rfl, h17⟩
    · exact ⟨rfl, h42⟩
  | false =>
    rw [hq] at h
    exact prim0OK fid p h args H v H' hp
theorem runF (el : Nat → TypeId) : F.endTrue (F.runF Tryz.prog ext pmO 60000 3 [] ⟨layO el begin0, 11⟩) = true := by kernel_rfl
theorem join (h1 : MemoOK Tryz.prog begin0 memo1) (h17 : MemoOK Tryz.prog begin0 memo17) (h42 : MemoOK Tryz.prog begin0 memo42) {W : World} (h : laidMet Tryz.prog laid W) (hsz : 8 ≤ W.heap.size) : Calls Tryz.prog 3 #[] W fun en w' => en = .returned (.bool true) ∧ Below W.heap.size W w' := by
  obtain ⟨e, hR, _, _⟩ := begins h hsz (fun _ => 0) (fun _ => 0) (fun _ => 0) (N := 11) (Nat.le_refl _) (PO := []) (fun i o hm => by cases hm)
  exact closed_true mixed namesOK extOK (pmOOK h1 h17 h42) Tryz.func3 rfl (F.run_true (runF _)) hR
end Go.Proofs.YtehhgkgeldinkaaGreatDoor.TaleKnownRun
