/- strconv.Itoa, strconv.Atoi, strings.Trim, strings.Join as contracts over the symbolic heap. Conditions: as each states them; the listed variables hold what the row says. -/
import Derived.Test.YthljbjokonglhaaGreatDoorDfL2
import Derived.Lib.ItoaNum
namespace Go.Proofs.YthljbjokonglhaaGreatDoor.DfK
open Go Am Am.K DfEnv DfM LibP
set_option linter.unusedVariables false
set_option linter.unusedSimpArgs false
set_option maxRecDepth 10000
/-- what is read of the listed variables -/
structure Gl (H : Hp) : Prop where
  pow : ∀ i : Nat, i < 20 → cellAt H 3 i = some (.int .u64 ((10 ^ i : Nat) : Int))
  err : ErrA H
  nx : 11 ≤ H.next
theorem hasT_cell {H : Hp} {L : List (Nat × List AV)} (h : hasT H L) {g : Nat} {l : List AV} (hm : (g, l) ∈ L) {k : Nat} {v : AV} (hk : l[k]? = some v) : cellAt H g k = some v := by
  obtain ⟨el, h⟩ := h
  have h1 := h g l hm
  have hkl := (List.getElem?_eq_some_iff.1 hk).1
  unfold cellAt
  rw [h1]
  have hb : (Nat.ble 0 k && Nat.blt k l.length) = true := by
    rw [Bool.and_eq_true, Nat.ble_eq, Nat.blt_eq]; omega
  simp only [hb, cond_true]
  rw [get_puts_k, if_pos (by omega)]
  exact hk
theorem pow_at : ∀ i : Fin 20, (pow10.map (AV.int .u64))[i.val]? = some (.int .u64 ((10 ^ i.val : Nat) : Int)) := by
  intro i
  match i with
  | ⟨0, _⟩ => rfl
  | ⟨1, _⟩ => rfl
  | ⟨2, _⟩ => rfl
  | ⟨3, _⟩ => rfl
  | ⟨4, _⟩ => rfl
  | ⟨5, _⟩ => rfl
  | ⟨6, _⟩ => rfl
  | ⟨7, _⟩ => rfl
  | ⟨8, _⟩ => rfl
  | ⟨9, _⟩ => rfl
  | ⟨10, _⟩ => rfl
  | ⟨11, _⟩ => rfl
  | ⟨12, _⟩ => rfl
  | ⟨13, _⟩ => rfl
  | ⟨14, _⟩ => rfl
  | ⟨15, _⟩ => rfl
  | ⟨16, _⟩ => rfl
  | ⟨17, _⟩ => rfl
  | ⟨18, _⟩ => rfl
  | ⟨19, _⟩ => rfl
  | ⟨n + 20, h⟩ => omega
theorem Gl.of {H : Hp} (h : hasT H begin0) (hn : 11 ≤ H.next) : Gl H where
  pow := fun i hi => hasT_cell h (l := pow10.map (AV.int .u64)) (by unfold begin0; simp) (pow_at ⟨i, hi⟩)
  err := ⟨⟨_, _, hasT_cell h (g := 4) (k := 0) (by unfold begin0; simp; rfl) rfl⟩, ⟨_, _, hasT_cell h (g := 5) (k := 0) (by unfold begin0; simp; rfl) rfl⟩⟩
  nx := hn
theorem Gl.out {H H' : Hp} {S : List Nat} (h : Gl H) (k : Out S H H') (hs : ∀ j ∈ S, 11 ≤ j) : Gl H' where
  pow := fun i hi => by
    rw [k.cellAt (by have := h.nx; omega) (fun q => by have := hs _ q; omega)]
    exact h.pow i hi
  err := by
    have hn := h.nx
    refine ⟨?_, ?_⟩
    · obtain ⟨t, p, q⟩ := h.err.syn
      exact ⟨t, p, by rw [k.cellAt (by omega) (fun q => by have := hs _ q; omega)]; exact q⟩
    · obtain ⟨t, p, q⟩ := h.err.rng
      exact ⟨t, p, by rw [k.cellAt (by omega) (fun q => by have := hs _ q; omega)]; exact q⟩
  nx := Nat.le_trans h.nx k.1
theorem Gl.out0 {H H' : Hp} (h : Gl H) (k : Out [] H H') : Gl H' := h.out k fun j hj => by cases hj
/-! strings.Trim -/
theorem trim_c (s c : List Nat) (H : Hp) (hs : s.length ≤ 4294967296) (hc : lowC c = true) (hcl : c.length ≤ 4294967280) : cK (.func (.func 61) [] []) [.str s, .str c] H = some (.str (trimN s c), H) := by
  refine ck_prim (p := trimP) (by kernel_rfl) ?_
  have h2 : F.bothB (lowC c) (F.bothB (Nat.ble (F.lenL s) 4294967296) (Nat.ble (F.lenL c) 4294967280)) = true := by
    rw [F.bothB_eq, F.bothB_eq, F.lenL_eq, F.lenL_eq, hc]
    simp only [Bool.true_and, Bool.and_eq_true, Nat.ble_eq]
    exact ⟨hs, hcl⟩
  show trim2 H s c = _
  unfold trim2
  rw [h2]
/-! strconv.Itoa -/
/-- a number's decimals -/
def dec (n : Int) : Str := (Lib.itoa n).map (·.toNat)
abbrev sm : List Nat := [48, 48, 48, 49, 48, 50, 48, 51, 48, 52, 48, 53, 48, 54, 48, 55, 48, 56, 48, 57, 49, 48, 49, 49, 49, 50, 49, 51, 49, 52, 49, 53, 49, 54, 49, 55, 49, 56, 49, 57, 50, 48, 50, 49, 50, 50, 50, 51, 50, 52, 50, 53, 50, 54, 50, 55, 50, 56, 50, 57, 51, 48, 51, 49, 51, 50, 51, 51, 51, 52, 51, 53, 51, 54, 51, 55, 51, 56, 51, 57, 52, 48, 52, 49, 52, 50, 52, 51, 52, 52, 52, 53, 52, 54, 52, 55, 52, 56, 52, 57, 53, 48, 53, 49, 53, 50, 53, 51, 53, 52, 53, 53, 53, 54, 53, 55, 53, 56, 53, 57, 54, 48, 54, 49, 54, 50, 54, 51, 54, 52, 54, 53, 54, 54, 54, 55, 54, 56, 54, 57, 55, 48, 55, 49, 55, 50, 55, 51, 55, 52, 55, 53, 55, 54, 55, 55, 55, 56, 55, 57, 56, 48, 56, 49, 56, 50, 56, 51, 56, 52, 56, 53, 56, 54, 56, 55, 56, 56, 56, 57, 57, 48, 57, 49, 57, 50, 57, 51, 57, 52, 57, 53, 57, 54, 57, 55, 57, 56, 57, 57]
end Go.Proofs.YthljbjokonglhaaGreatDoor.DfK
