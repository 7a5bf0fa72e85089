/- What a law's argument is, off its reading as data: slices of plain values as lists. -/
import Derived.Test.YtgcmklheifjciaaHp
import Derived.ProofKit
import Derived.Deep.Slices
import Derived.Lib.SmallJoins
set_option linter.unusedVariables false
namespace Go.Proofs.Ytgcmklheifjciaa.Cf
open Go Go.RowKit Go.Deep Hp

section
variable {H : Type} {enc : TypeId × Value → H} {P : Program} {w : World} {base : Nat} {spare : Nat → Bool} {held : Bool}

theorem exists_list {α : Type} {p : Nat → α → Prop} : ∀ (n : Nat), (∀ i, i < n → ∃ x, p i x) → ∃ l : List α, l.length = n ∧ ∀ i (h : i < l.length), p i l[i]
  | 0, _ => ⟨[], rfl, fun i h => by simp at h⟩
  | n + 1, h => by
    obtain ⟨l, hl, hp⟩ := exists_list n (fun i hi => h i (by omega))
    obtain ⟨x, hx⟩ := h n (by omega)
    refine ⟨l ++ [x], by simp [hl], fun i hi => ?_⟩
    by_cases e : i < n
    · rw [List.getElem_append_left (by omega)]; exact hp i (by omega)
    · have : i = n := by simp at hi; omega
      subst this
      rw [List.getElem_append_right (by omega)]
      simpa [hl] using hx

theorem flat_len {α : Type} (f : α → List Value) (n : Nat) (hf : ∀ x, (f x).length = n) (l : List α) : (l.flatMap f).length = l.length * n := by
  induction l with
  | nil => simp
  | cons x l ih => rw [List.flatMap_cons, List.length_append, hf, ih, List.length_cons, Nat.succ_mul]; omega
/-- the cells of element k -/
theorem flat_get {α : Type} (f : α → List Value) (n : Nat) (hf : ∀ x, (f x).length = n) : ∀ (l : List α) (k : Nat) (hk : k < l.length) (j : Nat), j < n → (l.flatMap f)[k * n + j]? = (f l[k])[j]?
  | [], k, hk, _, _ => by simp at hk
  | x :: l, 0, hk, j, hj => by
    rw [List.flatMap_cons, List.getElem?_append_left (by rw [hf]; omega)]
    simp
  | x :: l, k + 1, hk, j, hj => by
    rw [List.flatMap_cons, List.getElem?_append_right (by rw [hf, Nat.succ_mul]; omega), hf]
    rw [show (k + 1) * n + j - n = k * n + j by rw [Nat.succ_mul]; omega]
    rw [flat_get f n hf l k (by simpa using hk) j hj]
    simp

/-- a slice of plain values, as a list -/
theorem open_list {α : Type} {t e : TypeId} {sz fuel : Nat} {v : Value} {x : DataW H × List MemPlace} (ht : P.underlying t = some (.slice e)) (hsz : P.cellsOf e = sz) (h0 : 0 < sz) (en : α → List Value) (hen : ∀ z, (en z).length = sz)
    (h : DataW.trod enc P w base spare held fuel t [v] = some x) (hE : ∀ f cs y, DataW.trod enc P w base spare held f e cs = some y → ∃ z, cs = en z) :
    ∃ l : List α, RdS w sz v l.length (l.flatMap en) := by
  subst hsz
  rcases open_slice ht h with ⟨hv, _⟩ | ⟨a, len, cap, m, n, D, Pl, hv, hb, hl, hm, hmm, _, hx⟩
  · simp at hv; subst hv
    exact ⟨[], RdS.nil _ _⟩
  · simp at hv; subst hv
    have hml : len ≤ m := by rw [hmm]; split <;> omega
    obtain ⟨l, hl1, hl2⟩ := exists_list (α := α) (p := fun i z => w.cells? base (a.add (i * P.cellsOf e)) (P.cellsOf e) = some (en z)) len (fun i hi => by
      obtain ⟨cs, h1, h2⟩ := hx i (by omega)
      obtain ⟨z, rfl⟩ := hE _ _ _ h2
      exact ⟨z, h1⟩)
    refine ⟨l, flat_len en _ hen l, some a, cap, by rw [hl1], by omega, hm, fun hpos => ?_⟩
    have hc : ∀ i (hi : i < l.length) j, j < P.cellsOf e → w.cell? ((a.add (i * P.cellsOf e)).add j) = (en l[i])[j]? := fun i hi j hj => (World.cells?_some (hl2 i hi)).2.2 j hj
    have hspot : a.spot = none := by
      have := hc 0 hpos 0 h0
      simp only [Nat.zero_mul] at this
      have e0 : (a.add 0).add 0 = a := by simp [Addr.add]
      rw [e0] at this
      cases hs : a.spot with
      | none => rfl
      | some y =>
        exfalso
        have hlen := hen l[0]
        have : (en l[0])[0]? = none := by
          rw [← this]
          unfold World.cell?
          split <;> simp [hs]
        rw [List.getElem?_eq_none_iff] at this
        omega
    obtain ⟨b, off, sp⟩ := a
    simp only at hspot
    subst hspot
    refine ⟨b, off, rfl, ?_, fun j u hj => ?_⟩
    · have := hc 0 hpos 0 h0
      simp only [Nat.zero_mul] at this
      have e0 : ((⟨b, off, none⟩ : Addr).add 0).add 0 = ⟨b, off, none⟩ := by simp [Addr.add]
      rw [e0, List.getElem?_eq_getElem (by rw [hen]; exact h0)] at this
      exact World.block_lt_of_cell? w _ this
    · have hjl : j < (l.flatMap en).length := (List.getElem?_eq_some_iff.1 hj).1
      rw [flat_len en _ hen l] at hjl
      have hi : j / P.cellsOf e < l.length := Nat.div_lt_of_lt_mul (by rw [Nat.mul_comm]; exact hjl)
      have hr : j % P.cellsOf e < P.cellsOf e := Nat.mod_lt _ h0
      have hjd : j / P.cellsOf e * P.cellsOf e + j % P.cellsOf e = j := by rw [Nat.mul_comm]; exact Nat.div_add_mod _ _
      have h1 := hc _ hi _ hr
      rw [addr_add, addr_add, Nat.add_assoc, hjd] at h1
      rw [h1, ← flat_get en _ hen l _ hi _ hr, hjd]
      exact hj
end
end Go.Proofs.Ytgcmklheifjciaa.Cf
