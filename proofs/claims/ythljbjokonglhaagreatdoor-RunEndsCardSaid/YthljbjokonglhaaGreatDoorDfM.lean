/- Plain law: parts of texts. No conditions. -/
import Derived.Test.YthljbjokonglhaaGreatDoorDfKb
import Derived.Test.YthljbjokonglhaaGreatDoorAm16
namespace Go.Proofs.YthljbjokonglhaaGreatDoor.DfM
open Go Am
set_option linter.unusedVariables false
set_option linter.unusedSimpArgs false
abbrev Str := List Nat
/-- the parts of a text -/
def spl (c : Nat) : Str → List Str
  | [] => [[]]
  | b :: s => if b = c then [] :: spl c s else match spl c s with | [] => [[b]] | h :: t => (b :: h) :: t
theorem spl_ne (c : Nat) : ∀ s, spl c s ≠ []
  | [] => by simp [spl]
  | b :: s => by
    unfold spl
    split
    · simp
    · split <;> simp
theorem spl_no {c : Nat} : ∀ {s : Str}, c ∉ s → spl c s = [s]
  | [], _ => rfl
  | b :: s, h => by
    rw [List.mem_cons, not_or] at h
    unfold spl
    rw [if_neg (fun e => h.1 e.symm), spl_no h.2]
theorem spl_app {c : Nat} : ∀ {a : Str} (r : Str), c ∉ a → spl c (a ++ c :: r) = a :: spl c r
  | [], r, _ => by
    show spl c (c :: r) = _
    unfold spl
    rw [if_pos rfl]
    cases r <;> rfl
  | b :: a, r, h => by
    rw [List.mem_cons, not_or] at h
    show spl c (b :: (a ++ c :: r)) = _
    have := spl_app r h.2
    rw [spl, if_neg (fun e => h.1 e.symm), this]
theorem idxB_none {c : Nat} : ∀ {s : Str} {k : Nat}, idxB c s k = none → c ∉ s
  | [], k, _ => by simp
  | b :: s, k, h => by
    unfold idxB at h
    cases hb : Nat.beq b c with
    | true => rw [hb] at h; cases h
    | false =>
      rw [hb] at h
      have h1 : b ≠ c := fun e => by subst e; rw [Nat.beq_refl] at hb; cases hb
      rw [List.mem_cons, not_or]
      exact ⟨fun e => h1 e.symm, idxB_none h⟩
theorem idxB_some {c : Nat} : ∀ {s : Str} {k i : Nat}, idxB c s k = some i → ∃ a r, s = a ++ c :: r ∧ i = k + a.length ∧ c ∉ a
  | [], k, i, h => by cases h
  | b :: s, k, i, h => by
    unfold idxB at h
    cases hb : Nat.beq b c with
    | true =>
      rw [hb] at h
      cases h
      have : b = c := Nat.eq_of_beq_eq_true hb
      subst this
      exact ⟨[], s, rfl, rfl, by simp⟩
    | false =>
      rw [hb] at h
      have h1 : b ≠ c := fun e => by subst e; rw [Nat.beq_refl] at hb; cases hb
      obtain ⟨a, r, rfl, rfl, h3⟩ := idxB_some h
      refine ⟨b :: a, r, rfl, by simp; omega, ?_⟩
      rw [List.mem_cons, not_or]
      exact ⟨fun e => h1 e.symm, h3⟩
theorem spl_len (c : Nat) : ∀ s, (spl c s).length = cntB c s + 1
  | [] => rfl
  | b :: s => by
    have ih := spl_len c s
    unfold spl cntB
    by_cases h : b = c
    · subst h
      rw [if_pos rfl, Nat.beq_refl, cond_true, List.length_cons, ih]
    · have hb : Nat.beq b c = false := by
        rw [← Bool.not_eq_true]; exact fun e => h (Nat.eq_of_beq_eq_true e)
      rw [if_neg h, hb, cond_false]
      cases hs : spl c s with
      | nil => exact absurd hs (spl_ne c s)
      | cons x y => rw [hs] at ih; exact ih
theorem cnt_le (c : Nat) : ∀ s : Str, cntB c s ≤ s.length
  | [] => Nat.le_refl _
  | b :: s => by
    have := cnt_le c s
    unfold cntB
    cases Nat.beq b c <;> simp <;> omega
theorem spl_mem {c : Nat} : ∀ {s : Str} {p : Str}, p ∈ spl c s → (∀ b ∈ p, b ∈ s) ∧ c ∉ p ∧ p.length ≤ s.length
  | [], p, h => by
    have : p = [] := by simpa [spl] using h
    subst this; simp
  | b :: s, p, h => by
    unfold spl at h
    by_cases hb : b = c
    · rw [if_pos hb] at h
      rcases List.mem_cons.1 h with rfl | h
      · simp
      · obtain ⟨h1, h2, h3⟩ := spl_mem h
        exact ⟨fun x hx => .tail _ (h1 x hx), h2, by simp; omega⟩
    · rw [if_neg hb] at h
      cases hs : spl c s with
      | nil => exact absurd hs (spl_ne c s)
      | cons x y =>
        rw [hs] at h
        rcases List.mem_cons.1 h with rfl | h
        · obtain ⟨h1, h2, h3⟩ := spl_mem (c := c) (s := s) (p := x) (by rw [hs]; exact .head _)
          refine ⟨fun z hz => ?_, ?_, by simp; omega⟩
          · rcases List.mem_cons.1 hz with rfl | hz
            · exact .head _
            · exact .tail _ (h1 z hz)
          · rw [List.mem_cons, not_or]; exact ⟨fun e => hb e.symm, h2⟩
        · obtain ⟨h1, h2, h3⟩ := spl_mem (c := c) (s := s) (p := p) (by rw [hs]; exact .tail _ h)
          exact ⟨fun z hz => .tail _ (h1 z hz), h2, by simp; omega⟩
end Go.Proofs.YthljbjokonglhaaGreatDoor.DfM
