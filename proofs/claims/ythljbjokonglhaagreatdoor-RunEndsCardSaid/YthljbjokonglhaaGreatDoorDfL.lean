/- What parts of Go's library do, as contracts over the symbolic heap: strings' Index, Cut, Split, slices' Index and Contains. Conditions: as each states them. -/
import Derived.Test.YthljbjokonglhaaGreatDoorDfM
namespace Go.Proofs.YthljbjokonglhaaGreatDoor.DfK
open Go Am Am.K DfEnv DfM
set_option linter.unusedVariables false
set_option linter.unusedSimpArgs false
set_option maxRecDepth 10000
theorem ck_ext {fid : Nat} {k : Ext} {fn : Func} {args : List AV} {H : Hp} {r : AV × Hp} (hp : prim fid = none) (hf : P.funcs[fid]? = some fn) (hb : fn.body = none) (he : ext fid = some k) (h : extA P k args H = some r) : cK (.func (.func fid) [] []) args H = some r := by
  refine CK_fix regK_cont ?_
  unfold callK
  simp only [hp, List.nil_append, List.append_nil, hf, hb, he]
  exact h
def ixo : Option Nat → Int
  | some i => i
  | none => -1
theorem idxByte_c {c : Nat} (hc : c < 256) (s : Str) (H : Hp) : cK (.func (.func 138) [] []) [.str s, .int .u8 c] H = some (.int .i64 (ixo (idxB c s 0)), H) := by
  refine ck_ext (k := .idxByte) (by kernel_rfl) Tryz.func138 rfl (by kernel_rfl) ?_
  show some (AV.int .i64 (match idxB (Int.toNat (c : Int) % 256) s 0 with | some i => (i : Int) | none => -1), H) = _
  rw [Int.toNat_natCast, Nat.mod_eq_of_lt hc]
  cases idxB c s 0 <;> rfl
theorem count_e {c : Nat} (hc : c < 256) (s : Str) (H : Hp) : cK (.func (.func 104) [] []) [.str s, .int .u8 c] H = some (.int .i64 (cntB c s : Nat), H) := by
  refine ck_ext (k := .count) (by kernel_rfl) Tryz.func104 rfl (by kernel_rfl) ?_
  show some (AV.int .i64 (cntB (Int.toNat (c : Int) % 256) s : Nat), H) = _
  rw [Int.toNat_natCast, Nat.mod_eq_of_lt hc]
theorem indexByte_c {c : Nat} (hc : c < 256) (s : Str) (H : Hp) : cK (.func (.func 115) [] []) [.str s, .int .u8 c] H = some (.int .i64 (ixo (idxB c s 0)), H) := by
  refine c_internal_stringslite_IndexByte ?_
  unfold s_internal_stringslite_IndexByte
  simp only [idxByte_c hc, k_s, k_x, Int.reduceBEq, Int.reduceBNe, Int.reduceLT, Int.reduceLE, Int.reduceGT, Int.reduceGE, Int.reduceNeg]
theorem indexL_c {c : Nat} (hc : c < 256) (s : Str) (H : Hp) : cK (.func (.func 105) [] []) [.str s, .str [c]] H = some (.int .i64 (ixo (idxB c s 0)), H) := by
  refine c_internal_stringslite_Index ?_
  unfold s_internal_stringslite_Index
  have h1 : ixs (.str [c]) (.int .i64 0) = some (.int .u8 c) := ixs_0 .i64 rfl
  simp only [indexByte_c hc, h1, List.length_cons, List.length_nil, Int.ofNat_one, Nat.reduceAdd, Int.natCast_one, k_s, k_x, Int.reduceBEq, Int.reduceBNe, Int.reduceLT, Int.reduceLE, Int.reduceGT, Int.reduceGE, Int.reduceNeg]
  rw [CD_b]
  split
  · rename_i h
    have h : [c] = s := by simpa using h
    subst h
    unfold idxB
    rw [Nat.beq_refl]; rfl
  · rfl
theorem index_c {c : Nat} (hc : c < 256) (s : Str) (H : Hp) : cK (.func (.func 92) [] []) [.str s, .str [c]] H = some (.int .i64 (ixo (idxB c s 0)), H) := by
  refine c_strings_Index ?_
  unfold s_strings_Index
  simp only [indexL_c hc, k_s, k_x, Int.reduceBEq, Int.reduceBNe, Int.reduceLT, Int.reduceLE, Int.reduceGT, Int.reduceGE, Int.reduceNeg]
theorem count_c {c : Nat} (hc : c < 256) (s : Str) (H : Hp) : cK (.func (.func 91) [] []) [.str s, .str [c]] H = some (.int .i64 (cntB c s : Nat), H) := by
  refine c_strings_Count ?_
  unfold s_strings_Count
  have h1 : ixs (.str [c]) (.int .i64 0) = some (.int .u8 c) := ixs_0 .i64 rfl
  simp only [count_e hc, h1, List.length_cons, List.length_nil, Int.ofNat_one, Nat.reduceAdd, Int.natCast_one, k_s, k_x, Int.reduceBEq, Int.reduceBNe, Int.reduceLT, Int.reduceLE, Int.reduceGT, Int.reduceGE, Int.reduceNeg]
/-- a text cut at its first byte c -/
def cut (c : Nat) (s : Str) : Str × Str × Bool := match idxB c s 0 with
  | some i => (s.take i, s.drop (i + 1), true)
  | none => (s, [], false)
theorem cutL_c {c : Nat} (hc : c < 256) {s : Str} (hs : s.length ≤ 1073741824) (H : Hp) : cK (.func (.func 93) [] []) [.str s, .str [c]] H = some (.tuple [.str (cut c s).1, .str (cut c s).2.1, .bool (cut c s).2.2], H) := by
  refine c_internal_stringslite_Cut ?_
  unfold s_internal_stringslite_Cut cut
  cases hi : idxB c s 0 with
  | none =>
    have d : decide ((0 : Int) ≤ -1) = false := by decide
    simp only [indexL_c hc, hi, ixo, d, k_s, k_x, Int.reduceBEq, Int.reduceBNe, Int.reduceLT, Int.reduceLE, Int.reduceGT, Int.reduceGE, Int.reduceNeg]
  | some i =>
    obtain ⟨a, r, rfl, rfl, ha⟩ := idxB_some hi
    rw [Nat.zero_add] at hi
    simp only [List.length_append, List.length_cons] at hs
    have d : decide ((0 : Int) ≤ ((a.length : Nat) : Int)) = true := decide_eq_true (by omega)
    have w : IntKind.wrap .i64 ((a.length : Int) + ((1 : Nat) : Int)) = ((a.length + 1 : Nat) : Int) := by rw [wrap_i64 (by omega) (by omega)]; rfl
    have h1 : sls (.str (a ++ c :: r)) none (some (.int .i64 (a.length : Nat))) = some (.str ((a ++ c :: r).take a.length)) := sls_to .i64 (by simp)
    have h2 : sls (.str (a ++ c :: r)) (some (.int .i64 (a.length + 1 : Nat))) none = some (.str ((a ++ c :: r).drop (a.length + 1))) := sls_from .i64 (by simp)
    simp only [indexL_c hc, hi, ixo, d, h1, h2, w, List.length_cons, List.length_nil, Nat.zero_add, k_s, k_x, Int.reduceBEq, Int.reduceBNe, Int.reduceLT, Int.reduceLE, Int.reduceGT, Int.reduceGE, Int.reduceNeg]
theorem cut_c {c : Nat} (hc : c < 256) {s : Str} (hs : s.length ≤ 1073741824) (H : Hp) : cK (.func (.func 63) [] []) [.str s, .str [c]] H = some (.tuple [.str (cut c s).1, .str (cut c s).2.1, .bool (cut c s).2.2], H) := by
  refine c_strings_Cut ?_
  unfold s_strings_Cut
  simp only [cutL_c hc hs, k_s, k_x, Int.reduceBEq, Int.reduceBNe, Int.reduceLT, Int.reduceLE, Int.reduceGT, Int.reduceGE, Int.reduceNeg]
/-! strings.Split -/
def strs (l : List Str) : List AV := l.map .str
theorem strs_len (l : List Str) : (strs l).length = l.length := by simp [strs]
theorem strs_app (a b : List Str) : strs (a ++ b) = strs a ++ strs b := by simp [strs]
theorem strs_get {l : List Str} {j : Nat} {z : Str} (h : l[j]? = some z) : (strs l)[j]? = some (.str z) := by simp [strs, h]
theorem split_loop {c : Nat} (hc : c < 256) {A n : Nat} {el : Nat} : ∀ (m : Nat) (s : Str) (dn : List Str) (H : Hp), s.length = m → m ≤ 1073741824 → n ≤ 1073741824 → dn.length + (spl c s).length = n → Cs H A (strs dn ++ List.replicate (n - dn.length) (AV.str [])) el 0 →
    ∃ dn' s' H', (∀ k : K.Fn 3, l_strings_genSplit JN GO cK k (.str s) (.str [c]) (.int .i64 0) (.int .i64 ((n - 1 : Nat) : Int)) (.slice A 0 n n true 1) (.int .i64 (dn.length : Nat)) H = k (.str s') (.slice A 0 n n true 1) (.int .i64 (dn'.length : Nat)) H') ∧
      dn' ++ [s'] = dn ++ spl c s ∧ dn'.length < n ∧ Cs H' A (strs dn' ++ List.replicate (n - dn'.length) (AV.str [])) el 0 ∧ Out [A] H H' := by
  intro m
  induction m using Nat.strongRecOn with
  | _ m ih =>
  intro s dn H hm hmb hnb hn hC
  have hpos := spl_len c s
  by_cases hlast : dn.length + 1 = n
  · have hs1 : spl c s = [s] := by
      cases hi : idxB c s 0 with
      | none => exact spl_no (idxB_none hi)
      | some i =>
        obtain ⟨a, r, rfl, rfl, ha⟩ := idxB_some hi
        have h1 := spl_app (c := c) r ha
        have h2 := spl_len c r
        rw [h1, List.length_cons] at hn
        omega
    have d : decide (((dn.length : Nat) : Int) < ((n - 1 : Nat) : Int)) = false := decide_eq_false (by omega)
    refine ⟨dn, s, H, fun k => ?_, by rw [hs1], by omega, hC, Out.refl _ _⟩
    rw [ql_strings_genSplit]
    simp only [bl_strings_genSplit, d, k_s, k_x, Int.reduceBEq, Int.reduceBNe, Int.reduceLT, Int.reduceLE, Int.reduceGT, Int.reduceGE, Int.reduceNeg]
  · have d : decide (((dn.length : Nat) : Int) < ((n - 1 : Nat) : Int)) = true := decide_eq_true (by omega)
    cases hi : idxB c s 0 with
    | none =>
      have hs1 := spl_no (idxB_none hi)
      rw [hs1] at hn
      simp only [List.length_cons, List.length_nil] at hn
      omega
    | some i =>
      obtain ⟨a, r, rfl, rfl, ha⟩ := idxB_some hi
      rw [Nat.zero_add] at hi
      have h1 := spl_app (c := c) r ha
      rw [h1, List.length_cons] at hn
      simp only [List.length_append, List.length_cons] at hm
      obtain ⟨H1, w1, w2, w3, w4⟩ := st1 hC (by decide) (o := dn.length) (by rw [List.length_append, strs_len, List.length_replicate]; omega) (v := .str a) rfl
      have hset : (strs dn ++ List.replicate (n - dn.length) (AV.str [])).set dn.length (AV.str a) = strs (dn ++ [a]) ++ List.replicate (n - (dn ++ [a]).length) (AV.str []) := by
        rw [List.set_append_right _ _ (by rw [strs_len]; omega), strs_len, Nat.sub_self, strs_app, List.append_assoc]
        congr 1
        rw [List.length_append, show n - dn.length = (n - (dn.length + [a].length)) + 1 by simp; omega, List.replicate_succ]
        rfl
      rw [hset] at w2
      obtain ⟨dn', s', H', i1, i2, i3, i4, i5⟩ := ih r.length (by omega) r (dn ++ [a]) H1 rfl (by omega) hnb (by rw [List.length_append]; simp; omega) w2
      have d2 : decide ((((a.length : Nat)) : Int) < 0) = false := decide_eq_false (by omega)
      have e1 : IntKind.wrap .i64 ((a.length : Int) + 0) = ((a.length : Nat) : Int) := by rw [wrap_i64 (by omega) (by omega)]; omega
      have e2 : IntKind.wrap .i64 ((a.length : Int) + ((1 : Nat) : Int)) = ((a.length + 1 : Nat) : Int) := by rw [wrap_i64 (by omega) (by omega)]; rfl
      have e3 : IntKind.wrap .i64 ((dn.length : Int) + 1) = (((dn ++ [a]).length : Nat) : Int) := by rw [wrap_i64 (by omega) (by omega), List.length_append]; rfl
      have q1 : sls (.str (a ++ c :: r)) none (some (.int .i64 (a.length : Nat))) = some (.str a) := by rw [sls_to .i64 (by simp)]; simp
      have q2 : sls (.str (a ++ c :: r)) (some (.int .i64 (a.length + 1 : Nat))) none = some (.str r) := by rw [sls_from .i64 (by simp)]; simp [List.drop_append]
      have q3 : ia 1 (.slice A 0 n n true 1) (.int .i64 (dn.length : Nat)) = some (.ptr A dn.length) := by rw [ia_s (by omega)]; simp
      refine ⟨dn', s', H', fun k => ?_, by rw [i2, h1, List.append_assoc]; rfl, i3, i4, w3.trans i5⟩
      rw [ql_strings_genSplit]
      simp only [bl_strings_genSplit, d, index_c hc, hi, ixo, d2, e1, q1, q3, w1, List.length_cons, List.length_nil, e2, q2, e3, i1, k_s, k_x, Int.reduceBEq, Int.reduceBNe, Int.reduceLT, Int.reduceLE, Int.reduceGT, Int.reduceGE, Int.reduceNeg]
theorem mks_ok {H : Hp} {z : AV} {el n : Nat} (k j : IntKind) (hn : n ≤ 1048576) : mks [z] el 1 (.int k n) (.int j n) H = some (.slice H.next 0 n n true 1, al H (List.replicate n z) el 0) := by
  unfold mks
  have hr : rep n [z] = List.replicate n z := by
    unfold rep
    induction n with
    | zero => rfl
    | succ m ih => rw [List.replicate_succ, List.flatten_cons, ih (by omega), List.replicate_succ]; rfl
  simp only
  rw [if_pos ⟨by omega, by omega, by omega⟩, Int.toNat_natCast, hr, newCells_al (by rw [List.length_replicate]; omega)]
  rfl
theorem genSplit_c {c : Nat} (hc : c < 256) {s : Str} (hs : s.length ≤ 1000000) (H : Hp) :
    ∃ x H', cK (.func (.func 62) [] []) [.str s, .str [c], .int .i64 0, .int .i64 (-1)] H = some (x, H') ∧ Rw H' 1 x (strs (spl c s)) ∧ Out [] H H' ∧ ∀ j ∈ rid x, H.next ≤ j := by
  have hn := spl_len c s
  have hle := cnt_le c s
  have e0 : ([c] == ([] : List Nat)) = false := rfl
  have e1 : IntKind.wrap .i64 ((cntB c s : Int) + 1) = ((cntB c s + 1 : Nat) : Int) := by rw [wrap_i64 (by omega) (by omega)]; rfl
  have e2 : IntKind.wrap .i64 ((s.length : Int) + 1) = ((s.length + 1 : Nat) : Int) := by rw [wrap_i64 (by omega) (by omega)]; rfl
  have e3 : (if ((s.length + 1 : Nat) : Int) < ((cntB c s + 1 : Nat) : Int) then ((s.length + 1 : Nat) : Int) else ((cntB c s + 1 : Nat) : Int)) = ((cntB c s + 1 : Nat) : Int) := if_neg (by omega)
  have e4 : IntKind.wrap .i64 (((cntB c s + 1 : Nat) : Int) - 1) = ((cntB c s + 1 - 1 : Nat) : Int) := by rw [wrap_i64 (by omega) (by omega)]; omega
  have hm := mks_ok (H := H) (z := .str []) (el := 9) (n := cntB c s + 1) .i64 .i64 (by omega)
  have hC : Cs (al H (List.replicate (cntB c s + 1) (AV.str [])) 9 0) H.next (strs [] ++ List.replicate (cntB c s + 1 - ([] : List Str).length) (AV.str [])) 9 0 := al_cs H _ _ _
  obtain ⟨dn, s', H1, i1, i2, i3, i4, i5⟩ := split_loop hc (n := cntB c s + 1) s.length s [] _ rfl (by omega) (by omega) (by simp; omega) hC
  obtain ⟨H2, w1, w2, w3, w4⟩ := st1 i4 (by decide) (o := dn.length) (by rw [List.length_append, strs_len, List.length_replicate]; omega) (v := .str s') rfl
  have hdl : dn.length + 1 = cntB c s + 1 := by
    have := congrArg List.length i2
    simp only [List.length_append, List.length_cons, List.length_nil] at this
    omega
  have hset : (strs dn ++ List.replicate (cntB c s + 1 - dn.length) (AV.str [])).set dn.length (AV.str s') = strs (spl c s) := by
    rw [List.set_append_right _ _ (by rw [strs_len]; omega), strs_len, Nat.sub_self, show cntB c s + 1 - dn.length = 1 by omega]
    have : spl c s = dn ++ [s'] := by rw [i2]; rfl
    rw [this, strs_app]; rfl
  rw [hset] at w2
  have e5 : IntKind.wrap .i64 ((dn.length : Int) + 1) = ((cntB c s + 1 : Nat) : Int) := by rw [wrap_i64 (by omega) (by omega)]; omega
  have q3 : ia 1 (.slice H.next 0 (cntB c s + 1) (cntB c s + 1) true 1) (.int .i64 (dn.length : Nat)) = some (.ptr H.next dn.length) := by rw [ia_s (by omega)]; simp
  have hrw : Rw H2 1 (.slice H.next 0 (cntB c s + 1) (cntB c s + 1) true 1) (strs (spl c s)) := .mk w2.ro (by rw [strs_len, hn, Nat.mul_one]) (Nat.le_refl _) (by rw [beq_f (Nat.succ_ne_zero _)]; rfl)
  obtain ⟨x, x1, x2, x3⟩ := sll_rw (n := cntB c s + 1) hrw (by rw [strs_len, hn, Nat.mul_one]) (by decide) (a := 0) (b := cntB c s + 1) (lo := none) (hi := some (.int .i64 (cntB c s + 1 : Nat))) (by omega) (Nat.le_refl _) (Bd.no 0) (Bd.yes _ _ _)
  rw [Nat.zero_mul, List.drop_zero, Nat.sub_zero, Nat.mul_one, List.take_of_length_le (by rw [strs_len]; omega)] at x2
  refine ⟨x, H2, c_strings_genSplit ?_, x2, ?_, fun j hj => ?_⟩
  · unfold s_strings_genSplit
    have i1' := i1
    simp only [List.length_nil] at i1'
    rw [show (((0 : Nat) : Int)) = 0 from rfl] at i1'
    simp only [e0, count_c hc, e1, e2, min_i, e3, hm, e4, i1', q3, w1, e5, x1, k_s, k_x, Int.reduceBEq, Int.reduceBNe, Int.reduceLT, Int.reduceLE, Int.reduceGT, Int.reduceGE, Int.reduceNeg]
  · have : Out [H.next] (al H (List.replicate (cntB c s + 1) (AV.str [])) 9 0) H2 := i5.trans w3
    exact (al_out H _ _ _).then this fun j hj => by rw [List.mem_singleton] at hj; exact .inr (by omega)
  · have := x3 j hj
    rw [rid_s (by rw [beq_f (Nat.succ_ne_zero _)]; rfl)] at this
    rw [List.mem_singleton] at this; omega
theorem split_c {c : Nat} (hc : c < 256) {s : Str} (hs : s.length ≤ 1000000) (H : Hp) :
    ∃ x H', cK (.func (.func 28) [] []) [.str s, .str [c]] H = some (x, H') ∧ Rw H' 1 x (strs (spl c s)) ∧ Out [] H H' ∧ ∀ j ∈ rid x, H.next ≤ j := by
  obtain ⟨x, H', h1, h2⟩ := genSplit_c hc hs H
  refine ⟨x, H', c_strings_Split ?_, h2⟩
  unfold s_strings_Split
  simp only [h1, k_s, k_x, Int.reduceBEq, Int.reduceBNe, Int.reduceLT, Int.reduceLE, Int.reduceGT, Int.reduceGE, Int.reduceNeg]
end Go.Proofs.YthljbjokonglhaaGreatDoor.DfK
