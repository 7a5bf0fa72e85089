/- What def.Parse does, as a contract over the symbolic heap: a task's words, all of it. Conditions: the listed variables hold what the row says. -/
import Derived.Test.YthljbjokonglhaaGreatDoorDfD4
namespace Go.Proofs.YthljbjokonglhaaGreatDoor.DfK
open Go Am Am.K DfEnv DfM LibP DfG
set_option linter.unusedVariables false
set_option linter.unusedSimpArgs false
set_option maxRecDepth 10000
theorem stAll {H : Hp} {i n el : Nat} {l vs : List AV} (h : Cs H i l el 0) (hn : n = vs.length) (hl : l.length = vs.length) (hv : vs.all oneC = true) : ∃ H', st n (.ptr i 0) (.agg vs) H = some H' ∧ Cs H' i vs el 0 ∧ Out [i] H H' ∧ H'.next = H.next := by
  obtain ⟨hi, c, hc, hg⟩ := h
  obtain ⟨H', c', q1, q2, q3, q4, q5⟩ := setCells_get vs H i 0 c 0 l.length el 0 hc (by omega) (Nat.le_refl _) (by omega) (fun k hk => by rw [Nat.zero_add, hg k (l[k]'(by omega)) (List.getElem?_eq_getElem (by omega))]; rfl) (List.all_eq_true.1 hv)
  refine ⟨H', ?_, ⟨by omega, c', ?_, fun k v hk => ?_⟩, ⟨by omega, fun j hj hn => q4 j (by simpa using hn)⟩, q2⟩
  · unfold st
    have : Nat.beq n vs.length = true := by subst hn; exact Nat.beq_refl _
    simp only [cellsV_agg, this, cond_true]
    exact q1
  · rw [q3, hl]
  · have := (List.getElem?_eq_some_iff.1 hk).1
    rw [q5, if_pos (by omega), Nat.sub_zero]; exact hk
end Go.Proofs.YthljbjokonglhaaGreatDoor.DfK
