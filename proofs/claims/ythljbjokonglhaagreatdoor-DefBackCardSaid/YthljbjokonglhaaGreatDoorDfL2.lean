/- What slices' Index, Contains, IndexFunc, ContainsFunc, Clone and Equal do, as contracts over the symbolic heap. Conditions: as each states them. -/
import Derived.Test.YthljbjokonglhaaGreatDoorDfL
namespace Go.Proofs.YthljbjokonglhaaGreatDoor.DfK
open Go Am Am.K DfEnv DfM
set_option linter.unusedVariables false
set_option linter.unusedSimpArgs false
set_option maxRecDepth 10000
def ints (l : List Int) : List AV := l.map fun z => .int .i64 z
theorem ints_len (l : List Int) : (ints l).length = l.length := by simp [ints]
theorem ints_one (l : List Int) : ∀ v ∈ ints l, oneC v = true := by
  intro v hv
  obtain ⟨b, _, rfl⟩ := List.mem_map.1 hv
  rfl
theorem ints_app (a b : List Int) : ints (a ++ b) = ints a ++ ints b := by simp [ints]
theorem ints_get {l : List Int} {j : Nat} {z : Int} (h : l[j]? = some z) : (ints l)[j]? = some (.int .i64 z) := by simp [ints, h]
theorem ixo_ge (o : Option Nat) : decide ((0 : Int) ≤ ixo o) = o.isSome := by
  cases o with
  | none => rfl
  | some i => exact decide_eq_true (by show (0 : Int) ≤ (i : Int); omega)
theorem wrap_s {i n : Nat} (h : i < n) (hn : n ≤ 16777216) : IntKind.wrap .i64 ((i : Int) + 1) = ((i + 1 : Nat) : Int) := by rw [wrap_i64 (by omega) (by omega)]; rfl
theorem lt_t {i n : Nat} (h : i < n) : decide (((i : Nat) : Int) < ((n : Nat) : Int)) = true := decide_eq_true (by omega)
theorem lt_f {n : Nat} : decide (((n : Nat) : Int) < ((n : Nat) : Int)) = false := decide_eq_false (by omega)
theorem drop_nil {α : Type} {l : List α} {i : Nat} (hi : i ≤ l.length) (h : l.drop i = []) : i = l.length := by
  have := congrArg List.length h
  rw [List.length_drop, List.length_nil] at this; omega

theorem indexstring_loop {x : AV} {l : List Str} {s : Str} {H : Hp} (hx : Rw H 1 x (strs l)) (hl : l.length ≤ 16777216) (k : K.Fn 0) : ∀ (r : List Str) (i : Nat), i ≤ l.length → l.drop i = r →
    l_slices_Index___string_string_ JN GO cK k x (.str s) (.int .i64 (l.length : Nat)) (.int .i64 (i : Nat)) H = match r.findIdx? (fun a => s == a) with | some j => some (.int .i64 ((i + j : Nat) : Int), H) | none => k H
  | [], i, hi, h => by
    obtain rfl := drop_nil hi h
    rw [ql_slices_Index___string_string_]
    simp only [bl_slices_Index___string_string_, lt_f, List.findIdx?_nil, k_s, k_x, Int.reduceBEq, Int.reduceBNe, Int.reduceLT, Int.reduceLE, Int.reduceGT, Int.reduceGE, Int.reduceNeg]
  | a :: r, i, hi, h => by
    obtain ⟨h1, h2, h3⟩ := hd_drop h
    obtain ⟨q, q1, q2⟩ := hx.ia1 (strs_get h2) .i64
    have e := wrap_s h1 hl
    have ih := indexstring_loop (s := s) hx hl k r (i + 1) h1 h3
    rw [ql_slices_Index___string_string_]
    simp only [bl_slices_Index___string_string_, lt_t h1, q1, q2, e, ih, CD_b, List.findIdx?_cons, k_s, k_x, Int.reduceBEq, Int.reduceBNe, Int.reduceLT, Int.reduceLE, Int.reduceGT, Int.reduceGE, Int.reduceNeg]
    cases hb : (s == a) with
    | true => simp
    | false =>
      cases hf : r.findIdx? (fun a => s == a) with
      | none => simp
      | some j => simp; omega
theorem indexstring_c {x : AV} {l : List Str} {H : Hp} (hx : Rw H 1 x (strs l)) (hl : l.length ≤ 16777216) (s : Str) : cK (.func (.func 64) [] []) [x, .str s] H = some (.int .i64 (ixo (l.findIdx? (fun a => s == a))), H) := by
  refine c_slices_Index___string_string_ ?_
  unfold s_slices_Index___string_string_
  have h1 := hx.len1
  rw [strs_len] at h1
  have h2 := fun k => indexstring_loop (s := s) hx hl k l 0 (Nat.zero_le _) List.drop_zero
  rw [show (((0 : Nat) : Int)) = 0 from rfl] at h2
  simp only [h1, h2, k_s, k_x, Int.reduceBEq, Int.reduceBNe, Int.reduceLT, Int.reduceLE, Int.reduceGT, Int.reduceGE, Int.reduceNeg]
  cases l.findIdx? (fun a => s == a) <;> rfl
theorem indexint_loop {x : AV} {l : List Int} {s : Int} {H : Hp} (hx : Rw H 1 x (ints l)) (hl : l.length ≤ 16777216) (k : K.Fn 0) : ∀ (r : List Int) (i : Nat), i ≤ l.length → l.drop i = r →
    l_slices_Index___int_int_ JN GO cK k x (.int .i64 s) (.int .i64 (l.length : Nat)) (.int .i64 (i : Nat)) H = match r.findIdx? (fun a => s == a) with | some j => some (.int .i64 ((i + j : Nat) : Int), H) | none => k H
  | [], i, hi, h => by
    obtain rfl := drop_nil hi h
    rw [ql_slices_Index___int_int_]
    simp only [bl_slices_Index___int_int_, lt_f, List.findIdx?_nil, k_s, k_x, Int.reduceBEq, Int.reduceBNe, Int.reduceLT, Int.reduceLE, Int.reduceGT, Int.reduceGE, Int.reduceNeg]
  | a :: r, i, hi, h => by
    obtain ⟨h1, h2, h3⟩ := hd_drop h
    obtain ⟨q, q1, q2⟩ := hx.ia1 (ints_get h2) .i64
    have e := wrap_s h1 hl
    have ih := indexint_loop (s := s) hx hl k r (i + 1) h1 h3
    rw [ql_slices_Index___int_int_]
    simp only [bl_slices_Index___int_int_, lt_t h1, q1, q2, e, ih, CD_b, List.findIdx?_cons, k_s, k_x, Int.reduceBEq, Int.reduceBNe, Int.reduceLT, Int.reduceLE, Int.reduceGT, Int.reduceGE, Int.reduceNeg]
    cases hb : (s == a) with
    | true => simp
    | false =>
      cases hf : r.findIdx? (fun a => s == a) with
      | none => simp
      | some j => simp; omega
theorem indexint_c {x : AV} {l : List Int} {H : Hp} (hx : Rw H 1 x (ints l)) (hl : l.length ≤ 16777216) (s : Int) : cK (.func (.func 80) [] []) [x, .int .i64 s] H = some (.int .i64 (ixo (l.findIdx? (fun a => s == a))), H) := by
  refine c_slices_Index___int_int_ ?_
  unfold s_slices_Index___int_int_
  have h1 := hx.len1
  rw [ints_len] at h1
  have h2 := fun k => indexint_loop (s := s) hx hl k l 0 (Nat.zero_le _) List.drop_zero
  rw [show (((0 : Nat) : Int)) = 0 from rfl] at h2
  simp only [h1, h2, k_s, k_x, Int.reduceBEq, Int.reduceBNe, Int.reduceLT, Int.reduceLE, Int.reduceGT, Int.reduceGE, Int.reduceNeg]
  cases l.findIdx? (fun a => s == a) <;> rfl
theorem containsint_c {x : AV} {l : List Int} {H : Hp} (hx : Rw H 1 x (ints l)) (hl : l.length ≤ 16777216) (s : Int) : cK (.func (.func 51) [] []) [x, .int .i64 s] H = some (.bool (l.any (fun a => s == a)), H) := by
  refine c_slices_Contains___int_int_ ?_
  unfold s_slices_Contains___int_int_
  simp only [indexint_c hx hl, ixo_ge, List.findIdx?_isSome, k_s, k_x, Int.reduceBEq, Int.reduceBNe, Int.reduceLT, Int.reduceLE, Int.reduceGT, Int.reduceGE, Int.reduceNeg]

end Go.Proofs.YthljbjokonglhaaGreatDoor.DfK
