/- What a law's argument is, off its reading as data: slices of plain values as lists. -/
import Derived.Test.YtgcmklheifjciaaHp
import Derived.ProofKit
import Derived.Deep.Slices
import Derived.Lib.SmallJoins
set_option linter.unusedVariables false
namespace Go.Proofs.Ytgcmklheifjciaa.Cf
open Go Go.RowKit Go.Deep Hp

section
variable {H : Type} {enc : TypeId × Value → H} {P : Program} {w : World} {base : Nat} {spare : Nat → Bool} {held : Bool}

theorem exists_list {α : Type} {p : Nat → α → Prop} : ∀ (n : Nat), (∀ i, i < n → ∃ x, p i x) → ∃ l : List α, l.length = n ∧ ∀ i (h : i < l.length), p i l[i]
  | 0, _ => ⟨[], rfl, fun i h => by simp at h⟩
  | n + 1, h => by
    obtain ⟨l, hl, hp⟩ := exists_list n (fun i hi => h i (by omega))
    obtain ⟨x, hx⟩ := h n (by omega)
    refine ⟨l ++ [x], by simp [hl], fun i hi => ?_⟩
    by_cases e : i < n
    · rw [List.getElem_append_left (by omega)]; exact hp i (by omega)
    · have : i = n := by simp at hi; omega
      subst this
      rw [List.getElem_append_right (by omega)]
      simpa [hl] using hx

theorem flat_len {α : Type} (f : α → List Value) (n : Nat) (hf : ∀ x, (f x).length = n) (l : List α) : (l.flatMap f).length = l.length * n := by
  induction l with
  | nil => simp
  | cons x l ih => rw [List.flatMap_cons, List.length_append, hf, ih, List.length_cons, Nat.succ_mul]; omega
/-- the cells of element k -/
theorem flat_get {α : Type} (f : α → List Value) (n : Nat) (hf : ∀ x, (f x).length = n) : ∀ (l : List α) (k : Nat) (hk : k < l.length) (j : Nat), j < n → (l.flatMap f)[k * n + j]? = (f l[k])[j]?
  | [], k, hk, _, _ => by simp at hk
  | x :: l, 0, hk, j, hj => by
    rw [List.flatMap_cons, List.getElem?_append_left (by rw [hf]; omega)]
    simp
  | x :: l, k + 1, hk, j, hj => by
    rw [List.flatMap_cons, List.getElem?_append_right (by rw [hf, Nat.succ_mul]; omega), hf]
    rw [show (k + 1) * n + j - n = k * n + j by rw [Nat.succ_mul]; omega]
    rw [flat_get f n hf l k (by simpa using hk) j hj]
    simp

/-- a slice of plain values, as a list -/
theorem open_list {α : Type} {t e : TypeId} {sz fuel : Nat} {v : Value} {x : DataW H × List MemPlace} (ht : P.underlying t = some (.slice e)) (hsz : P.cellsOf e = sz) (h0 : 0 < sz) (en : α → List Value) (hen : ∀ z, (en z).length = sz)
    (h : DataW.trod enc P w base spare held fuel t [v] = some x) (hE : ∀ f cs y, DataW.trod enc P w base spare held f e cs = some y → ∃ z, cs = en z) :
    ∃ l : List α, RdS w sz v l.length (l.flatMap en) := by
  subst hsz
  rcases open_slice ht h with ⟨hv, _⟩ | ⟨a, len, cap, m, n, D, Pl, hv, hb, hl, hm, hmm, _, hx⟩
  · simp at hv; subst hv
    exact ⟨[], RdS.nil _ _⟩
  · simp at hv; subst hv
    have hml : len ≤ m := by rw [hmm]; split <;> omega
    obtain ⟨l, hl1, hl2⟩ := exists_list (α := α) (p := fun i z => w.cells? base (a.add (i * P.cellsOf e)) (P.cellsOf e) = some (en z)) len (fun i hi => by
      obtain ⟨cs, h1, h2⟩ := hx i (by omega)
      obtain ⟨z, rfl⟩ := hE _ _ _ h2
      exact ⟨z, h1⟩)
    refine ⟨l, flat_len en _ hen l, some a, cap, by rw [hl1], by omega, hm, fun hpos => ?_⟩
    have hc : ∀ i (hi : i < l.length) j, j < P.cellsOf e → w.cell? ((a.add (i * P.cellsOf e)).add j) = (en l[i])[j]? := fun i hi j hj => (World.cells?_some (hl2 i hi)).2.2 j hj
    have hspot : a.spot = none := by
      have := hc 0 hpos 0 h0
      simp only [Nat.zero_mul] at this
      have e0 : (a.add 0).add 0 = a := by simp [Addr.add]
      rw [e0] at this
      cases hs : a.spot with
      | none => rfl
      | some y =>
        exfalso
        have hlen := hen l[0]
        have : (en l[0])[0]? = none := by
          rw [← this]
          unfold World.cell?
          split <;> simp [hs]
        rw [List.getElem?_eq_none_iff] at this
        omega
    obtain ⟨b, off, sp⟩ := a
    simp only at hspot
    subst hspot
    refine ⟨b, off, rfl, ?_, fun j u hj => ?_⟩
    · have := hc 0 hpos 0 h0
      simp only [Nat.zero_mul] at this
      have e0 : ((⟨b, off, none⟩ : Addr).add 0).add 0 = ⟨b, off, none⟩ := by simp [Addr.add]
      rw [e0, List.getElem?_eq_getElem (by rw [hen]; exact h0)] at this
      exact World.block_lt_of_cell? w _ this
    · have hjl : j < (l.flatMap en).length := (List.getElem?_eq_some_iff.1 hj).1
      rw [flat_len en _ hen l] at hjl
      have hi : j / P.cellsOf e < l.length := Nat.div_lt_of_lt_mul (by rw [Nat.mul_comm]; exact hjl)
      have hr : j % P.cellsOf e < P.cellsOf e := Nat.mod_lt _ h0
      have hjd : j / P.cellsOf e * P.cellsOf e + j % P.cellsOf e = j := by rw [Nat.mul_comm]; exact Nat.div_add_mod _ _
      have h1 := hc _ hi _ hr
      rw [addr_add, addr_add, Nat.add_assoc, hjd] at h1
      rw [h1, ← flat_get en _ hen l _ hi _ hr, hjd]
      exact hj

/-- a struct's field, off its reading -/
theorem field_of {t ty off sz fuel : Nat} {fs : Array Field} {cs : List Value} {x : DataW H × List MemPlace} (ht : P.underlying t = some (.struct fs)) (h : DataW.trod enc P w base spare held fuel t cs = some x) (i : Nat)
    (hf : (fs[i]?).map (fun f => (f.type, f.offset)) = some (ty, off)) (hc : P.cellsOf ty = sz) : ∃ n y, DataW.trod enc P w base spare held n ty ((cs.drop off).take sz) = some y := by
  obtain ⟨xs, n, _, _, _, hl, hall⟩ := DataW.trod_struct ht h
  cases e : fs[i]? with
  | none => rw [e] at hf; simp at hf
  | some f =>
    rw [e] at hf
    simp only [Option.map_some, Option.some.injEq, Prod.mk.injEq] at hf
    obtain ⟨rfl, rfl⟩ := hf
    have h1 := hall i f e
    have hi : i < fs.size := (Array.getElem?_eq_some_iff.1 e).1
    rw [hc, List.getElem?_eq_getElem (by omega)] at h1
    exact ⟨n, _, h1⟩
theorem struct_len {t fuel : Nat} {fs : Array Field} {cs : List Value} {x : DataW H × List MemPlace} {sz : Nat} (ht : P.underlying t = some (.struct fs)) (hc : P.cellsOf t = sz) (h : DataW.trod enc P w base spare held fuel t cs = some x) : cs.length = sz := by
  obtain ⟨xs, n, _, _, hlen, _⟩ := DataW.trod_struct ht h
  rw [← hc]; exact hlen
theorem leaf_int {t fuel : Nat} {k : IntKind} {c : Value} {x : DataW H × List MemPlace} (ht : P.underlying t = some (.int k)) (h : DataW.trod enc P w base spare held fuel t [c] = some x) : ∃ a : Int, c = .int k a ∧ (Lit.int k a).wf = true := by
  obtain ⟨a, e, _, hw⟩ := DataW.trod_int ht h
  simp at e
  exact ⟨a, e, hw⟩
theorem leaf_str {t fuel : Nat} {c : Value} {x : DataW H × List MemPlace} (ht : P.underlying t = some .string) (h : DataW.trod enc P w base spare held fuel t [c] = some x) : ∃ s : ByteArray, c = .string s ∧ s.size ≤ maxLen := by
  obtain ⟨a, e, _, hw⟩ := DataW.trod_string ht h
  simp at e
  exact ⟨a, e, hw⟩
theorem leaf_bool {t fuel : Nat} {c : Value} {x : DataW H × List MemPlace} (ht : P.underlying t = some .bool) (h : DataW.trod enc P w base spare held fuel t [c] = some x) : ∃ b : Bool, c = .bool b := by
  obtain ⟨a, e, _⟩ := DataW.trod_bool ht h
  simp at e
  exact ⟨a, e⟩
end
theorem list1 {α : Type} {l : List α} (h : l.length = 1) : ∃ a, l = [a] := by
  match l, h with
  | [a], _ => exact ⟨a, rfl⟩
theorem list2 {α : Type} {l : List α} (h : l.length = 2) : ∃ a b, l = [a, b] := by
  match l, h with
  | [a, b], _ => exact ⟨a, b, rfl⟩
theorem list3 {α : Type} {l : List α} (h : l.length = 3) : ∃ a b c, l = [a, b, c] := by
  match l, h with
  | [a, b, c], _ => exact ⟨a, b, c, rfl⟩
theorem list4 {α : Type} {l : List α} (h : l.length = 4) : ∃ a b c d, l = [a, b, c, d] := by
  match l, h with
  | [a, b, c, d], _ => exact ⟨a, b, c, d, rfl⟩
end Go.Proofs.Ytgcmklheifjciaa.Cf
