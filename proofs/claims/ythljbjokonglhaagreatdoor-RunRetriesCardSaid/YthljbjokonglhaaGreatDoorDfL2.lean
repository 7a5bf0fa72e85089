/- What slices' Index, Contains, IndexFunc, ContainsFunc, Clone and Equal do, as contracts over the symbolic heap. Conditions: as each states them. -/
import Derived.Test.YthljbjokonglhaaGreatDoorDfL
namespace Go.Proofs.YthljbjokonglhaaGreatDoor.DfK
open Go Am Am.K DfEnv DfM
set_option linter.unusedVariables false
set_option linter.unusedSimpArgs false
set_option maxRecDepth 10000
def ints (l : List Int) : List AV := l.map fun z => .int .i64 z
theorem ints_len (l : List Int) : (ints l).length = l.length := by simp [ints]
theorem ints_one (l : List Int) : ∀ v ∈ ints l, oneC v = true := by
  intro v hv
  obtain ⟨b, _, rfl⟩ := List.mem_map.1 hv
  rfl
theorem ints_app (a b : List Int) : ints (a ++ b) = ints a ++ ints b := by simp [ints]
theorem ints_get {l : List Int} {j : Nat} {z : Int} (h : l[j]? = some z) : (ints l)[j]? = some (.int .i64 z) := by simp [ints, h]
theorem ixo_ge (o : Option Nat) : decide ((0 : Int) ≤ ixo o) = o.isSome := by
  cases o with
  | none => rfl
  | some i => exact decide_eq_true (by show (0 : Int) ≤ (i : Int); omega)
theorem wrap_s {i n : Nat} (h : i < n) (hn : n ≤ 16777216) : IntKind.wrap .i64 ((i : Int) + 1) = ((i + 1 : Nat) : Int) := by rw [wrap_i64 (by omega) (by omega)]; rfl
theorem lt_t {i n : Nat} (h : i < n) : decide (((i : Nat) : Int) < ((n : Nat) : Int)) = true := decide_eq_true (by omega)
theorem lt_f {n : Nat} : decide (((n : Nat) : Int) < ((n : Nat) : Int)) = false := decide_eq_false (by omega)
theorem drop_nil {α : Type} {l : List α} {i : Nat} (hi : i ≤ l.length) (h : l.drop i = []) : i = l.length := by
  have := congrArg List.length h
  rw [List.length_drop, List.length_nil] at this; omega

theorem indexstring_loop {x : AV} {l : List Str} {s : Str} {H : Hp} (hx : Rw H 1 x (strs l)) (hl : l.length ≤ 16777216) (k : K.Fn 0) : ∀ (r : List Str) (i : Nat), i ≤ l.length → l.drop i = r →
    l_slices_Index___string_string_ JN GO cK k x (.str s) (.int .i64 (l.length : Nat)) (.int .i64 (i : Nat)) H = match r.findIdx? (fun a => s == a) with | some j => some (.int .i64 ((i + j : Nat) : Int), H) | none => k H
  | [], i, hi, h => by
    obtain rfl := drop_nil hi h
    rw [ql_slices_Index___string_string_]
    simp only [bl_slices_Index___string_string_, lt_f, List.findIdx?_nil, k_s, k_x, Int.reduceBEq, Int.reduceBNe, Int.reduceLT, Int.reduceLE, Int.reduceGT, Int.reduceGE, Int.reduceNeg]
  | a :: r, i, hi, h => by
    obtain ⟨h1, h2, h3⟩ := hd_drop h
    obtain ⟨q, q1, q2⟩ := hx.ia1 (strs_get h2) .i64
    have e := wrap_s h1 hl
    have ih := indexstring_loop (s := s) hx hl k r (i + 1) h1 h3
    rw [ql_slices_Index___string_string_]
    simp only [bl_slices_Index___string_string_, lt_t h1, q1, q2, e, ih, CD_b, List.findIdx?_cons, k_s, k_x, Int.reduceBEq, Int.reduceBNe, Int.reduceLT, Int.reduceLE, Int.reduceGT, Int.reduceGE, Int.reduceNeg]
    cases hb : (s == a) with
    | true => simp
    | false =>
      cases hf : r.findIdx? (fun a => s == a) with
      | none => simp
      | some j => simp; omega
theorem indexstring_c {x : AV} {l : List Str} {H : Hp} (hx : Rw H 1 x (strs l)) (hl : l.length ≤ 16777216) (s : Str) : cK (.func (.func 64) [] []) [x, .str s] H = some (.int .i64 (ixo (l.findIdx? (fun a => s == a))), H) := by
  refine c_slices_Index___string_string_ ?_
  unfold s_slices_Index___string_string_
  have h1 := hx.len1
  rw [strs_len] at h1
  have h2 := fun k => indexstring_loop (s := s) hx hl k l 0 (Nat.zero_le _) List.drop_zero
  rw [show (((0 : Nat) : Int)) = 0 from rfl] at h2
  simp only [h1, h2, k_s, k_x, Int.reduceBEq, Int.reduceBNe, Int.reduceLT, Int.reduceLE, Int.reduceGT, Int.reduceGE, Int.reduceNeg]
  cases l.findIdx? (fun a => s == a) <;> rfl
theorem containsstring_c {x : AV} {l : List Str} {H : Hp} (hx : Rw H 1 x (strs l)) (hl : l.length ≤ 16777216) (s : Str) : cK (.func (.func 58) [] []) [x, .str s] H = some (.bool (l.any (fun a => s == a)), H) := by
  refine c_slices_Contains___string_string_ ?_
  unfold s_slices_Contains___string_string_
  simp only [indexstring_c hx hl, ixo_ge, List.findIdx?_isSome, k_s, k_x, Int.reduceBEq, Int.reduceBNe, Int.reduceLT, Int.reduceLE, Int.reduceGT, Int.reduceGE, Int.reduceNeg]

theorem indexint_loop {x : AV} {l : List Int} {s : Int} {H : Hp} (hx : Rw H 1 x (ints l)) (hl : l.length ≤ 16777216) (k : K.Fn 0) : ∀ (r : List Int) (i : Nat), i ≤ l.length → l.drop i = r →
    l_slices_Index___int_int_ JN GO cK k x (.int .i64 s) (.int .i64 (l.length : Nat)) (.int .i64 (i : Nat)) H = match r.findIdx? (fun a => s == a) with | some j => some (.int .i64 ((i + j : Nat) : Int), H) | none => k H
  | [], i, hi, h => by
    obtain rfl := drop_nil hi h
    rw [ql_slices_Index___int_int_]
    simp only [bl_slices_Index___int_int_, lt_f, List.findIdx?_nil, k_s, k_x, Int.reduceBEq, Int.reduceBNe, Int.reduceLT, Int.reduceLE, Int.reduceGT, Int.reduceGE, Int.reduceNeg]
  | a :: r, i, hi, h => by
    obtain ⟨h1, h2, h3⟩ := hd_drop h
    obtain ⟨q, q1, q2⟩ := hx.ia1 (ints_get h2) .i64
    have e := wrap_s h1 hl
    have ih := indexint_loop (s := s) hx hl k r (i + 1) h1 h3
    rw [ql_slices_Index___int_int_]
    simp only [bl_slices_Index___int_int_, lt_t h1, q1, q2, e, ih, CD_b, List.findIdx?_cons, k_s, k_x, Int.reduceBEq, Int.reduceBNe, Int.reduceLT, Int.reduceLE, Int.reduceGT, Int.reduceGE, Int.reduceNeg]
    cases hb : (s == a) with
    | true => simp
    | false =>
      cases hf : r.findIdx? (fun a => s == a) with
      | none => simp
      | some j => simp; omega
theorem indexint_c {x : AV} {l : List Int} {H : Hp} (hx : Rw H 1 x (ints l)) (hl : l.length ≤ 16777216) (s : Int) : cK (.func (.func 80) [] []) [x, .int .i64 s] H = some (.int .i64 (ixo (l.findIdx? (fun a => s == a))), H) := by
  refine c_slices_Index___int_int_ ?_
  unfold s_slices_Index___int_int_
  have h1 := hx.len1
  rw [ints_len] at h1
  have h2 := fun k => indexint_loop (s := s) hx hl k l 0 (Nat.zero_le _) List.drop_zero
  rw [show (((0 : Nat) : Int)) = 0 from rfl] at h2
  simp only [h1, h2, k_s, k_x, Int.reduceBEq, Int.reduceBNe, Int.reduceLT, Int.reduceLE, Int.reduceGT, Int.reduceGE, Int.reduceNeg]
  cases l.findIdx? (fun a => s == a) <;> rfl
theorem containsint_c {x : AV} {l : List Int} {H : Hp} (hx : Rw H 1 x (ints l)) (hl : l.length ≤ 16777216) (s : Int) : cK (.func (.func 51) [] []) [x, .int .i64 s] H = some (.bool (l.any (fun a => s == a)), H) := by
  refine c_slices_Contains___int_int_ ?_
  unfold s_slices_Contains___int_int_
  simp only [indexint_c hx hl, ixo_ge, List.findIdx?_isSome, k_s, k_x, Int.reduceBEq, Int.reduceBNe, Int.reduceLT, Int.reduceLE, Int.reduceGT, Int.reduceGE, Int.reduceNeg]

theorem indexFuncint_loop {x fv : AV} {l : List Int} {p : Int → Bool} {H0 : Hp} (hx : Rw H0 1 x (ints l)) (hl : l.length ≤ 16777216) (hp : ∀ H, Out [] H0 H → ∀ a ∈ l, ∃ H', cK fv [.int .i64 a] H = some (.bool (p a), H') ∧ Out [] H H') : ∀ (r : List Int) (i : Nat) (H : Hp), Out [] H0 H → i ≤ l.length → l.drop i = r →
    ∃ H', Out [] H H' ∧ ∀ k : K.Fn 0, l_slices_IndexFunc___int_int_ JN GO cK k x fv (.int .i64 (l.length : Nat)) (.int .i64 (i : Nat)) H = match r.findIdx? p with | some j => some (.int .i64 ((i + j : Nat) : Int), H') | none => k H'
  | [], i, H, ho, hi, h => by
    obtain rfl := drop_nil hi h
    refine ⟨H, Out.refl _ _, fun k => ?_⟩
    rw [ql_slices_IndexFunc___int_int_]
    simp only [bl_slices_IndexFunc___int_int_, lt_f, List.findIdx?_nil, k_s, k_x, Int.reduceBEq, Int.reduceBNe, Int.reduceLT, Int.reduceLE, Int.reduceGT, Int.reduceGE, Int.reduceNeg]
  | a :: r, i, H, ho, hi, h => by
    obtain ⟨h1, h2, h3⟩ := hd_drop h
    obtain ⟨q, q1, q2⟩ := (hx.out0 ho).ia1 (ints_get h2) .i64
    have e := wrap_s h1 hl
    obtain ⟨H1, p1, p2⟩ := hp H ho a (List.mem_of_getElem? h2)
    cases hb : p a with
    | true =>
      refine ⟨H1, p2, fun k => ?_⟩
      rw [ql_slices_IndexFunc___int_int_]
      simp only [bl_slices_IndexFunc___int_int_, lt_t h1, q1, q2, p1, hb, List.findIdx?_cons, if_true, Nat.add_zero, k_s, k_x, Int.reduceBEq, Int.reduceBNe, Int.reduceLT, Int.reduceLE, Int.reduceGT, Int.reduceGE, Int.reduceNeg]
    | false =>
      obtain ⟨H', i1, i2⟩ := indexFuncint_loop hx hl hp r (i + 1) H1 (ho.trans p2) h1 h3
      refine ⟨H', p2.trans i1, fun k => ?_⟩
      rw [ql_slices_IndexFunc___int_int_]
      simp only [bl_slices_IndexFunc___int_int_, lt_t h1, q1, q2, p1, hb, e, i2, List.findIdx?_cons, k_s, k_x, Int.reduceBEq, Int.reduceBNe, Int.reduceLT, Int.reduceLE, Int.reduceGT, Int.reduceGE, Int.reduceNeg]
      cases hf : r.findIdx? p with
      | none => simp
      | some j => simp; omega
theorem containsFuncint_c {x fv : AV} {l : List Int} {p : Int → Bool} {H0 : Hp} (hx : Rw H0 1 x (ints l)) (hl : l.length ≤ 16777216) (hp : ∀ H, Out [] H0 H → ∀ a ∈ l, ∃ H', cK fv [.int .i64 a] H = some (.bool (p a), H') ∧ Out [] H H') :
    ∃ H', cK (.func (.func 48) [] []) [x, fv] H0 = some (.bool (l.any p), H') ∧ Out [] H0 H' := by
  obtain ⟨H', h1, h2⟩ := indexFuncint_loop hx hl hp l 0 H0 (Out.refl _ _) (Nat.zero_le _) List.drop_zero
  rw [show (((0 : Nat) : Int)) = 0 from rfl] at h2
  have hn := hx.len1
  rw [ints_len] at hn
  have : cK (.func (.func 79) [] []) [x, fv] H0 = some (.int .i64 (ixo (l.findIdx? p)), H') := by
    refine c_slices_IndexFunc___int_int_ ?_
    unfold s_slices_IndexFunc___int_int_
    simp only [hn, h2, k_s, k_x, Int.reduceBEq, Int.reduceBNe, Int.reduceLT, Int.reduceLE, Int.reduceGT, Int.reduceGE, Int.reduceNeg]
    cases l.findIdx? p <;> simp [ixo]
  refine ⟨H', c_slices_ContainsFunc___int_int_ ?_, h1⟩
  unfold s_slices_ContainsFunc___int_int_
  simp only [this, ixo_ge, List.findIdx?_isSome, k_s, k_x, Int.reduceBEq, Int.reduceBNe, Int.reduceLT, Int.reduceLE, Int.reduceGT, Int.reduceGE, Int.reduceNeg]
theorem cloneInt_c {H : Hp} {x : AV} {l : List AV} (hx : Rw H 1 x l) (ho : ∀ v ∈ l, oneC v = true) (hl : l.length ≤ 16777216) :
    ∃ y H', cK (.func (.func 75) [] []) [x] H = some (y, H') ∧ Ow H' 3 1 y l ∧ Out [] H H' ∧ (∀ j ∈ rid y, H.next ≤ j) ∧ (x = .slice0 → y = .slice0) := by
  have hu : P.underlying 35 = some (.slice 3) := Tryz.underlying35
  by_cases h0 : x = .slice0
  · subst h0
    have : l = [] := by cases hx; rfl
    subst this
    refine ⟨.slice0, H, c_slices_Clone___int_int_ ?_, .nil, Out.refl _ _, fun j hj => by simp [rid] at hj, fun _ => rfl⟩
    unfold s_slices_Clone___int_int_
    simp only [gA_e0, IFT_t, nilS_t hu, k_s, k_x, Int.reduceBEq, Int.reduceBNe, Int.reduceLT, Int.reduceLE, Int.reduceGT, Int.reduceGE, Int.reduceNeg]
  · obtain ⟨y, H', h1, h2, h3, h4⟩ := copy_ok (el := 3) (el2 := 3) (z := [(.int .i64 0)]) hx ho (by decide) hl
    refine ⟨y, H', c_slices_Clone___int_int_ ?_, h2, h3, h4, fun q => absurd q h0⟩
    have hq : ∃ i o n c ex es', x = .slice i o n c ex es' := by
      cases hx with
      | nil => exact absurd rfl h0
      | emp => exact ⟨_, _, _, _, _, _, rfl⟩
      | mk _ _ _ _ => exact ⟨_, _, _, _, _, _, rfl⟩
    obtain ⟨i, o, n, c, ex, es', rfl⟩ := hq
    unfold s_slices_Clone___int_int_
    have hnc : newCells H [] 3 0 = some (H.next, al H [] 3 0) := newCells_al (by simp)
    simp only [gA_es, IFT_t, nilS_f hu, fl_nil, hnc, h1, k_s, k_x, Int.reduceBEq, Int.reduceBNe, Int.reduceLT, Int.reduceLE, Int.reduceGT, Int.reduceGE, Int.reduceNeg]

theorem cloneStr_c {H : Hp} {x : AV} {l : List AV} (hx : Rw H 1 x l) (ho : ∀ v ∈ l, oneC v = true) (hl : l.length ≤ 16777216) :
    ∃ y H', cK (.func (.func 77) [] []) [x] H = some (y, H') ∧ Ow H' 9 1 y l ∧ Out [] H H' ∧ (∀ j ∈ rid y, H.next ≤ j) ∧ (x = .slice0 → y = .slice0) := by
  have hu : P.underlying 45 = some (.slice 9) := Tryz.underlying45
  by_cases h0 : x = .slice0
  · subst h0
    have : l = [] := by cases hx; rfl
    subst this
    refine ⟨.slice0, H, c_slices_Clone___string_string_ ?_, .nil, Out.refl _ _, fun j hj => by simp [rid] at hj, fun _ => rfl⟩
    unfold s_slices_Clone___string_string_
    simp only [gA_e0, IFT_t, nilS_t hu, k_s, k_x, Int.reduceBEq, Int.reduceBNe, Int.reduceLT, Int.reduceLE, Int.reduceGT, Int.reduceGE, Int.reduceNeg]
  · obtain ⟨y, H', h1, h2, h3, h4⟩ := copy_ok (el := 9) (el2 := 9) (z := [(.str [])]) hx ho (by decide) hl
    refine ⟨y, H', c_slices_Clone___string_string_ ?_, h2, h3, h4, fun q => absurd q h0⟩
    have hq : ∃ i o n c ex es', x = .slice i o n c ex es' := by
      cases hx with
      | nil => exact absurd rfl h0
      | emp => exact ⟨_, _, _, _, _, _, rfl⟩
      | mk _ _ _ _ => exact ⟨_, _, _, _, _, _, rfl⟩
    obtain ⟨i, o, n, c, ex, es', rfl⟩ := hq
    unfold s_slices_Clone___string_string_
    have hnc : newCells H [] 9 0 = some (H.next, al H [] 9 0) := newCells_al (by simp)
    simp only [gA_es, IFT_t, nilS_f hu, fl_nil, hnc, h1, k_s, k_x, Int.reduceBEq, Int.reduceBNe, Int.reduceLT, Int.reduceLE, Int.reduceGT, Int.reduceGE, Int.reduceNeg]

theorem cloneTask_c {H : Hp} {x : AV} {l : List AV} (hx : Rw H 6 x l) (ho : ∀ v ∈ l, oneC v = true) (hl : l.length ≤ 16777216) :
    ∃ y H', cK (.func (.func 74) [] []) [x] H = some (y, H') ∧ Ow H' 43 6 y l ∧ Out [] H H' ∧ (∀ j ∈ rid y, H.next ≤ j) ∧ (x = .slice0 → y = .slice0) := by
  have hu : P.underlying 23 = some (.slice 43) := Tryz.underlying23
  by_cases h0 : x = .slice0
  · subst h0
    have : l = [] := by cases hx; rfl
    subst this
    refine ⟨.slice0, H, c_slices_Clone___def_Task_def_Task_ ?_, .nil, Out.refl _ _, fun j hj => by simp [rid] at hj, fun _ => rfl⟩
    unfold s_slices_Clone___def_Task_def_Task_
    simp only [gA_e0, IFT_t, nilS_t hu, k_s, k_x, Int.reduceBEq, Int.reduceBNe, Int.reduceLT, Int.reduceLE, Int.reduceGT, Int.reduceGE, Int.reduceNeg]
  · obtain ⟨y, H', h1, h2, h3, h4⟩ := copy_ok (el := 43) (el2 := 43) (z := [(.str []), .slice0, (.int .i64 0), (.int .i64 0), (.int .i64 0), (.str [])]) hx ho (by decide) hl
    refine ⟨y, H', c_slices_Clone___def_Task_def_Task_ ?_, h2, h3, h4, fun q => absurd q h0⟩
    have hq : ∃ i o n c ex es', x = .slice i o n c ex es' := by
      cases hx with
      | nil => exact absurd rfl h0
      | emp => exact ⟨_, _, _, _, _, _, rfl⟩
      | mk _ _ _ _ => exact ⟨_, _, _, _, _, _, rfl⟩
    obtain ⟨i, o, n, c, ex, es', rfl⟩ := hq
    unfold s_slices_Clone___def_Task_def_Task_
    have hnc : newCells H [] 43 0 = some (H.next, al H [] 43 0) := newCells_al (by simp)
    simp only [gA_es, IFT_t, nilS_f hu, fl_nil, hnc, h1, k_s, k_x, Int.reduceBEq, Int.reduceBNe, Int.reduceLT, Int.reduceLE, Int.reduceGT, Int.reduceGE, Int.reduceNeg]

theorem cloneRTask_c {H : Hp} {x : AV} {l : List AV} (hx : Rw H 4 x l) (ho : ∀ v ∈ l, oneC v = true) (hl : l.length ≤ 16777216) :
    ∃ y H', cK (.func (.func 76) [] []) [x] H = some (y, H') ∧ Ow H' 51 4 y l ∧ Out [] H H' ∧ (∀ j ∈ rid y, H.next ≤ j) ∧ (x = .slice0 → y = .slice0) := by
  have hu : P.underlying 44 = some (.slice 51) := Tryz.underlying44
  by_cases h0 : x = .slice0
  · subst h0
    have : l = [] := by cases hx; rfl
    subst this
    refine ⟨.slice0, H, c_slices_Clone___run_Task_run_Task_ ?_, .nil, Out.refl _ _, fun j hj => by simp [rid] at hj, fun _ => rfl⟩
    unfold s_slices_Clone___run_Task_run_Task_
    simp only [gA_e0, IFT_t, nilS_t hu, k_s, k_x, Int.reduceBEq, Int.reduceBNe, Int.reduceLT, Int.reduceLE, Int.reduceGT, Int.reduceGE, Int.reduceNeg]
  · obtain ⟨y, H', h1, h2, h3, h4⟩ := copy_ok (el := 51) (el2 := 51) (z := [(.int .i64 0), (.int .i64 0), (.int .i64 0), (.str [])]) hx ho (by decide) hl
    refine ⟨y, H', c_slices_Clone___run_Task_run_Task_ ?_, h2, h3, h4, fun q => absurd q h0⟩
    have hq : ∃ i o n c ex es', x = .slice i o n c ex es' := by
      cases hx with
      | nil => exact absurd rfl h0
      | emp => exact ⟨_, _, _, _, _, _, rfl⟩
      | mk _ _ _ _ => exact ⟨_, _, _, _, _, _, rfl⟩
    obtain ⟨i, o, n, c, ex, es', rfl⟩ := hq
    unfold s_slices_Clone___run_Task_run_Task_
    have hnc : newCells H [] 51 0 = some (H.next, al H [] 51 0) := newCells_al (by simp)
    simp only [gA_es, IFT_t, nilS_f hu, fl_nil, hnc, h1, k_s, k_x, Int.reduceBEq, Int.reduceBNe, Int.reduceLT, Int.reduceLE, Int.reduceGT, Int.reduceGE, Int.reduceNeg]

theorem equalstring_loop {x y : AV} {l m : List Str} {H : Hp} (hx : Rw H 1 x (strs l)) (hy : Rw H 1 y (strs m)) (hl : l.length ≤ 16777216) (hlm : l.length = m.length) (k : K.Fn 0) : ∀ (r : List Str) (i : Nat), i ≤ l.length → l.drop i = r →
    l_slices_Equal___string_string_ JN GO cK k x y (.int .i64 (l.length : Nat)) (.int .i64 (i : Nat)) H = if r = m.drop i then k H else some (.bool false, H)
  | [], i, hi, h => by
    obtain rfl := drop_nil hi h
    rw [ql_slices_Equal___string_string_]
    have : m.drop l.length = [] := List.drop_eq_nil_of_le (by omega)
    simp only [bl_slices_Equal___string_string_, lt_f, this, if_true, k_s, k_x, Int.reduceBEq, Int.reduceBNe, Int.reduceLT, Int.reduceLE, Int.reduceGT, Int.reduceGE, Int.reduceNeg]
  | a :: r, i, hi, h => by
    obtain ⟨h1, h2, h3⟩ := hd_drop h
    obtain ⟨q, q1, q2⟩ := hx.ia1 (strs_get h2) .i64
    obtain ⟨b, hm⟩ : ∃ b, m[i]? = some b := ⟨_, List.getElem?_eq_getElem (by omega)⟩
    obtain ⟨p, p1, p2⟩ := hy.ia1 (strs_get hm) .i64
    have e := wrap_s h1 hl
    have ih := equalstring_loop hx hy hl hlm k r (i + 1) h1 h3
    have hd : m.drop i = b :: m.drop (i + 1) := by
      obtain ⟨w1, w2⟩ := List.getElem?_eq_some_iff.1 hm
      rw [List.drop_eq_getElem_cons w1, w2]
    rw [ql_slices_Equal___string_string_, hd]
    generalize m.drop (i + 1) = t at ih
    simp only [bl_slices_Equal___string_string_, lt_t h1, q1, q2, p1, p2, e, ih, CD_b, k_s, k_x, Int.reduceBEq, Int.reduceBNe, Int.reduceLT, Int.reduceLE, Int.reduceGT, Int.reduceGE, Int.reduceNeg]
    by_cases hb : a = b
    · subst hb; simp
    · simp [hb]
theorem equalstring_c {x y : AV} {l m : List Str} {H : Hp} (hx : Rw H 1 x (strs l)) (hy : Rw H 1 y (strs m)) (hl : l.length ≤ 16777216) : cK (.func (.func 56) [] []) [x, y] H = some (.bool (decide (l = m)), H) := by
  refine c_slices_Equal___string_string_ ?_
  unfold s_slices_Equal___string_string_
  have h1 := hx.len1
  rw [strs_len] at h1
  have h2 := hy.len1
  rw [strs_len] at h2
  by_cases hlm : l.length = m.length
  · have h3 := fun k => equalstring_loop hx hy hl hlm k l 0 (Nat.zero_le _) List.drop_zero
    rw [show (((0 : Nat) : Int)) = 0 from rfl] at h3
    have hne : (((l.length : Nat) : Int) != ((m.length : Nat) : Int)) = false := by simp [hlm]
    simp only [h1, h2, hne, h3, List.drop_zero, k_s, k_x, Int.reduceBEq, Int.reduceBNe, Int.reduceLT, Int.reduceLE, Int.reduceGT, Int.reduceGE, Int.reduceNeg]
    by_cases hb : l = m <;> simp [hb]
  · have hne : (((l.length : Nat) : Int) != ((m.length : Nat) : Int)) = true := by simp; omega
    have hb : l ≠ m := fun e => hlm (by rw [e])
    simp only [h1, h2, hne, hb, k_s, k_x, Int.reduceBEq, Int.reduceBNe, Int.reduceLT, Int.reduceLE, Int.reduceGT, Int.reduceGE, Int.reduceNeg]

theorem equalint_loop {x y : AV} {l m : List Int} {H : Hp} (hx : Rw H 1 x (ints l)) (hy : Rw H 1 y (ints m)) (hl : l.length ≤ 16777216) (hlm : l.length = m.length) (k : K.Fn 0) : ∀ (r : List Int) (i : Nat), i ≤ l.length → l.drop i = r →
    l_slices_Equal___int_int_ JN GO cK k x y (.int .i64 (l.length : Nat)) (.int .i64 (i : Nat)) H = if r = m.drop i then k H else some (.bool false, H)
  | [], i, hi, h => by
    obtain rfl := drop_nil hi h
    rw [ql_slices_Equal___int_int_]
    have : m.drop l.length = [] := List.drop_eq_nil_of_le (by omega)
    simp only [bl_slices_Equal___int_int_, lt_f, this, if_true, k_s, k_x, Int.reduceBEq, Int.reduceBNe, Int.reduceLT, Int.reduceLE, Int.reduceGT, Int.reduceGE, Int.reduceNeg]
  | a :: r, i, hi, h => by
    obtain ⟨h1, h2, h3⟩ := hd_drop h
    obtain ⟨q, q1, q2⟩ := hx.ia1 (ints_get h2) .i64
    obtain ⟨b, hm⟩ : ∃ b, m[i]? = some b := ⟨_, List.getElem?_eq_getElem (by omega)⟩
    obtain ⟨p, p1, p2⟩ := hy.ia1 (ints_get hm) .i64
    have e := wrap_s h1 hl
    have ih := equalint_loop hx hy hl hlm k r (i + 1) h1 h3
    have hd : m.drop i = b :: m.drop (i + 1) := by
      obtain ⟨w1, w2⟩ := List.getElem?_eq_some_iff.1 hm
      rw [List.drop_eq_getElem_cons w1, w2]
    rw [ql_slices_Equal___int_int_, hd]
    generalize m.drop (i + 1) = t at ih
    simp only [bl_slices_Equal___int_int_, lt_t h1, q1, q2, p1, p2, e, ih, CD_b, k_s, k_x, Int.reduceBEq, Int.reduceBNe, Int.reduceLT, Int.reduceLE, Int.reduceGT, Int.reduceGE, Int.reduceNeg]
    by_cases hb : a = b
    · subst hb; simp
    · simp [hb]
theorem equalint_c {x y : AV} {l m : List Int} {H : Hp} (hx : Rw H 1 x (ints l)) (hy : Rw H 1 y (ints m)) (hl : l.length ≤ 16777216) : cK (.func (.func 54) [] []) [x, y] H = some (.bool (decide (l = m)), H) := by
  refine c_slices_Equal___int_int_ ?_
  unfold s_slices_Equal___int_int_
  have h1 := hx.len1
  rw [ints_len] at h1
  have h2 := hy.len1
  rw [ints_len] at h2
  by_cases hlm : l.length = m.length
  · have h3 := fun k => equalint_loop hx hy hl hlm k l 0 (Nat.zero_le _) List.drop_zero
    rw [show (((0 : Nat) : Int)) = 0 from rfl] at h3
    have hne : (((l.length : Nat) : Int) != ((m.length : Nat) : Int)) = false := by simp [hlm]
    simp only [h1, h2, hne, h3, List.drop_zero, k_s, k_x, Int.reduceBEq, Int.reduceBNe, Int.reduceLT, Int.reduceLE, Int.reduceGT, Int.reduceGE, Int.reduceNeg]
    by_cases hb : l = m <;> simp [hb]
  · have hne : (((l.length : Nat) : Int) != ((m.length : Nat) : Int)) = true := by simp; omega
    have hb : l ≠ m := fun e => hlm (by rw [e])
    simp only [h1, h2, hne, hb, k_s, k_x, Int.reduceBEq, Int.reduceBNe, Int.reduceLT, Int.reduceLE, Int.reduceGT, Int.reduceGE, Int.reduceNeg]

end Go.Proofs.YthljbjokonglhaaGreatDoor.DfK
