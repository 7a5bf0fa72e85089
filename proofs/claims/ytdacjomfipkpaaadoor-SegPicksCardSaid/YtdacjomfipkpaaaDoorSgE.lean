/- slices.Concat of bytes: contract over the symbolic heap. Conditions: as stated. -/
import Derived.Test.YtdacjomfipkpaaaDoorSgD
namespace Go.Proofs.YtdacjomfipkpaaaDoor.SgK
open Go Am Am.K SgEnv
set_option linter.unusedVariables false
set_option linter.unusedSimpArgs false
/-- rows of bytes, one behind the other in an object -/
structure Rows1 (H : Hp) (i : Nat) (cs : List AV) (ls : List (List Nat)) (el fl : Nat) : Prop where
  ob : Cs H i cs el fl
  len : cs.length = ls.length
  row : ∀ (j : Nat) (c : AV) (l : List Nat), cs[j]? = some c → ls[j]? = some l → Rw H 1 c (bs l)
theorem Rows1.out {H H' : Hp} {i : Nat} {cs : List AV} {ls : List (List Nat)} {el fl : Nat} (h : Rows1 H i cs ls el fl) (k : Out [] H H') : Rows1 H' i cs ls el fl :=
  ⟨h.ob.out k (fun q => by cases q), h.len, fun j c l h1 h2 => (h.row j c l h1 h2).out k fun j hj q => by cases q⟩
theorem Rows1.at {H : Hp} {i : Nat} {cs : List AV} {ls : List (List Nat)} {el fl : Nat} (h : Rows1 H i cs ls el fl) {j : Nat} {l : List Nat} {r : List (List Nat)} (hr : ls.drop j = l :: r) : j < ls.length ∧ ls.drop (j + 1) = r ∧
    ∃ c, ia 1 (.slice i 0 ls.length ls.length true 1) (.int .i64 (j : Nat)) = some (.ptr i j) ∧ ld (.ptr i j) H = some c ∧ Rw H 1 c (bs l) := by
  have hj : j < ls.length := by
    rcases Nat.lt_or_ge j ls.length with q | q
    · exact q
    · rw [List.drop_eq_nil_of_le q] at hr; cases hr
  have hl : ls[j]? = some l := by
    have := congrArg (fun z => z[0]?) hr
    simpa using this
  have hr' : ls.drop (j + 1) = r := by
    rw [← List.drop_drop, hr]; rfl
  have hjc : j < cs.length := by rw [h.len]; exact hj
  have hc : cs[j]? = some cs[j] := List.getElem?_eq_getElem hjc
  refine ⟨hj, hr', cs[j], ?_, h.ob.ld hc, h.row j _ l hc hl⟩
  have := ia_s (es := 1) (i := i) (off := 0) (cap := ls.length) (ex := true) (k := .i64) hj
  rw [Nat.zero_add, Nat.mul_one] at this
  exact this
theorem cat_loop {k : K.Fn 2} {H : Hp} {i : Nat} {cs : List AV} {ls : List (List Nat)} {el fl : Nat} (h : Rows1 H i cs ls el fl) (hn : ls.length ≤ 1000) : ∀ (r : List (List Nat)) (j a : Nat), ls.drop j = r → a + r.flatten.length ≤ 16777215 →
    l_slices_Concat___byte_byte_ JN GO cK k (.slice i 0 ls.length ls.length true 1) (.int .i64 (a : Nat)) (.slice i 0 ls.length ls.length true 1) (.int .i64 (ls.length : Nat)) (.int .i64 (j : Nat)) H = k (.slice i 0 ls.length ls.length true 1) (.int .i64 ((a + r.flatten.length : Nat) : Int)) H
  | [], j, a, hr, ha => by
    rw [ql_slices_Concat___byte_byte_]
    have : ls.length ≤ j := by simpa using hr
    have d : decide (((j : Nat) : Int) < ((ls.length : Nat) : Int)) = false := decide_eq_false (by omega)
    simp only [d, List.flatten_nil, List.length_nil, Nat.add_zero, JN_0, JN_1, JN_2, JN_3, JN_4, JN_5, JN_6, JN_7, JN_8, JN_9, JN_10, JN_11, JN_12, JN_13, JN_14, JN_15, JN_16, JN_17, JN_18, JN_19, JN_20, JN_21, JN_22, JN_23, JN_24, B1_s, B2_s, BN_s, CD_t, CD_f, GO_tt, GO_ft, GO_tf, GO_ff, GO_ut, GO_uf, GD2_tt, GD2_ft, GD2_tf, GD2_ff, pk_t, pk_f, nilA_p, nilA_i, fa_p, fd_a, ex_t, iadd_i, isub_i, imul_i, ieq_i, ine_i, ilt_i, ile_i, igt_i, ige_i, seq_s, sne_s, slt_s, lens_s, lenx_0, lenx_s, not_b, bb_e, bb_n, cv_i, pe_00, pe_0p, pe_p0, eqB_e, eqB_n, List.getElem?_cons_zero, List.getElem?_cons_succ, Nat.zero_add, Bool.not_true, Bool.not_false, decide_true, decide_false, Int.reduceBEq, Int.reduceBNe, Int.reduceLT, Int.reduceLE, Int.reduceGT, Int.reduceGE, Int.reduceNeg, BEq.rfl, bne_self_eq_false, ge_iff_le, gt_iff_lt]
  | l :: r, j, a, hr, ha => by
    obtain ⟨hj, hr', c, c1, c2, c3⟩ := h.at hr
    rw [List.flatten_cons, List.length_append] at ha
    have hl := c3.len1
    rw [bs_len] at hl
    have d : decide (((j : Nat) : Int) < ((ls.length : Nat) : Int)) = true := decide_eq_true (by omega)
    have a1 : iadd (.int .i64 (a : Nat)) (.int .i64 (l.length : Nat)) = some (.int .i64 ((a + l.length : Nat) : Int)) := add_n (by omega)
    have d1 : decide (((a + l.length : Nat) : Int) < 0) = false := decide_eq_false (by omega)
    have a2 : iadd (.int .i64 (j : Nat)) (.int .i64 1) = some (.int .i64 ((j + 1 : Nat) : Int)) := add_n (b := 1) (by omega)
    rw [iadd_i] at a1 a2
    have ih := cat_loop (k := k) h hn r (j + 1) (a + l.length) hr' (by omega)
    rw [ql_slices_Concat___byte_byte_]
    simp only [d, c1, c2, hl, a1, d1, a2, JN_0, JN_1, JN_2, JN_3, JN_4, JN_5, JN_6, JN_7, JN_8, JN_9, JN_10, JN_11, JN_12, JN_13, JN_14, JN_15, JN_16, JN_17, JN_18, JN_19, JN_20, JN_21, JN_22, JN_23, JN_24, B1_s, B2_s, BN_s, CD_t, CD_f, GO_tt, GO_ft, GO_tf, GO_ff, GO_ut, GO_uf, GD2_tt, GD2_ft, GD2_tf, GD2_ff, pk_t, pk_f, nilA_p, nilA_i, fa_p, fd_a, ex_t, iadd_i, isub_i, imul_i, ieq_i, ine_i, ilt_i, ile_i, igt_i, ige_i, seq_s, sne_s, slt_s, lens_s, lenx_0, lenx_s, not_b, bb_e, bb_n, cv_i, pe_00, pe_0p, pe_p0, eqB_e, eqB_n, List.getElem?_cons_zero, List.getElem?_cons_succ, Nat.zero_add, Bool.not_true, Bool.not_false, decide_true, decide_false, Int.reduceBEq, Int.reduceBNe, Int.reduceLT, Int.reduceLE, Int.reduceGT, Int.reduceGE, Int.reduceNeg, BEq.rfl, bne_self_eq_false, ge_iff_le, gt_iff_lt]
    rw [ih, List.flatten_cons, List.length_append, Nat.add_assoc]
theorem cat_loop1 {k : K.Fn 1} {H0 : Hp} {i : Nat} {cs : List AV} {ls : List (List Nat)} {el fl : Nat} (h : Rows1 H0 i cs ls el fl) (hn : ls.length ≤ 1000) : ∀ (r : List (List Nat)) (j : Nat) (s : AV) (l : List Nat) (H : Hp), ls.drop j = r → l.length + r.flatten.length ≤ 16777215 →
    Out [] H0 H → Ow H 5 1 s (bs l) → (∀ j ∈ rid s, H0.next ≤ j) →
    ∃ s' H', l_slices_Concat___byte_byte_1 JN GO cK k s (.slice i 0 ls.length ls.length true 1) (.int .i64 (ls.length : Nat)) (.int .i64 (j : Nat)) H = k s' H' ∧ Out [] H0 H' ∧ Ow H' 5 1 s' (bs (l ++ r.flatten)) ∧ (∀ j ∈ rid s', H0.next ≤ j)
  | [], j, s, l, H, hr, ha, ho, hs, hf => by
    refine ⟨s, H, ?_, ho, by simpa using hs, hf⟩
    rw [ql_slices_Concat___byte_byte_1]
    have : ls.length ≤ j := by simpa using hr
    have d : decide (((j : Nat) : Int) < ((ls.length : Nat) : Int)) = false := decide_eq_false (by omega)
    simp only [d, JN_0, JN_1, JN_2, JN_3, JN_4, JN_5, JN_6, JN_7, JN_8, JN_9, JN_10, JN_11, JN_12, JN_13, JN_14, JN_15, JN_16, JN_17, JN_18, JN_19, JN_20, JN_21, JN_22, JN_23, JN_24, B1_s, B2_s, BN_s, CD_t, CD_f, GO_tt, GO_ft, GO_tf, GO_ff, GO_ut, GO_uf, GD2_tt, GD2_ft, GD2_tf, GD2_ff, pk_t, pk_f, nilA_p, nilA_i, fa_p, fd_a, ex_t, iadd_i, isub_i, imul_i, ieq_i, ine_i, ilt_i, ile_i, igt_i, ige_i, seq_s, sne_s, slt_s, lens_s, lenx_0, lenx_s, not_b, bb_e, bb_n, cv_i, pe_00, pe_0p, pe_p0, eqB_e, eqB_n, List.getElem?_cons_zero, List.getElem?_cons_succ, Nat.zero_add, Bool.not_true, Bool.not_false, decide_true, decide_false, Int.reduceBEq, Int.reduceBNe, Int.reduceLT, Int.reduceLE, Int.reduceGT, Int.reduceGE, Int.reduceNeg, BEq.rfl, bne_self_eq_false, ge_iff_le, gt_iff_lt]
  | x :: r, j, s, l, H, hr, ha, ho, hs, hf => by
    obtain ⟨hj, hr', c, c1, c2, c3⟩ := (h.out ho).at hr
    rw [List.flatten_cons, List.length_append] at ha
    have d : decide (((j : Nat) : Int) < ((ls.length : Nat) : Int)) = true := decide_eq_true (by omega)
    have a2 : iadd (.int .i64 (j : Nat)) (.int .i64 1) = some (.int .i64 ((j + 1 : Nat) : Int)) := add_n (b := 1) (by omega)
    rw [iadd_i] at a2
    obtain ⟨s', H', b1, b2, b3, b4⟩ := append_ok (z := [.int .u8 0]) hs c3 (bs_one _) (by omega) (by rw [bs_len, bs_len]; omega)
    rw [← bs_app] at b2
    have ho' : Out [] H0 H' := ho.then b3 fun j hj => .inr (hf j hj)
    have hf' : ∀ j ∈ rid s', H0.next ≤ j := fun j hj => (b4 j hj).elim (hf j) fun q => Nat.le_trans ho.1 q
    obtain ⟨s2, H2, e1, e2, e3, e4⟩ := cat_loop1 (k := k) h hn r (j + 1) s' (l ++ x) H' hr' (by rw [List.length_append]; omega) ho' b2 hf'
    refine ⟨s2, H2, ?_, e2, ?_, e4⟩
    · rw [ql_slices_Concat___byte_byte_1]
      simp only [d, c1, c2, b1, a2, JN_0, JN_1, JN_2, JN_3, JN_4, JN_5, JN_6, JN_7, JN_8, JN_9, JN_10, JN_11, JN_12, JN_13, JN_14, JN_15, JN_16, JN_17, JN_18, JN_19, JN_20, JN_21, JN_22, JN_23, JN_24, B1_s, B2_s, BN_s, CD_t, CD_f, GO_tt, GO_ft, GO_tf, GO_ff, GO_ut, GO_uf, GD2_tt, GD2_ft, GD2_tf, GD2_ff, pk_t, pk_f, nilA_p, nilA_i, fa_p, fd_a, ex_t, iadd_i, isub_i, imul_i, ieq_i, ine_i, ilt_i, ile_i, igt_i, ige_i, seq_s, sne_s, slt_s, lens_s, lenx_0, lenx_s, not_b, bb_e, bb_n, cv_i, pe_00, pe_0p, pe_p0, eqB_e, eqB_n, List.getElem?_cons_zero, List.getElem?_cons_succ, Nat.zero_add, Bool.not_true, Bool.not_false, decide_true, decide_false, Int.reduceBEq, Int.reduceBNe, Int.reduceLT, Int.reduceLE, Int.reduceGT, Int.reduceGE, Int.reduceNeg, BEq.rfl, bne_self_eq_false, ge_iff_le, gt_iff_lt]
      exact e1
    · rw [List.flatten_cons, ← List.append_assoc]; exact e3
theorem concat_c {H : Hp} {i : Nat} {cs : List AV} {ls : List (List Nat)} {el fl : Nat} (h : Rows1 H i cs ls el fl) (hn : ls.length ≤ 1000) (hl : ls.flatten.length ≤ 16777215) :
    ∃ y H', cK (.func (.func 35) [] []) [.slice i 0 ls.length ls.length true 1] H = some (y, H') ∧ Out [] H H' ∧ Ow H' 5 1 y (bs ls.flatten) ∧ (∀ j ∈ rid y, H.next ≤ j) := by
  obtain ⟨g, H1, g1, g2, g3, g4⟩ := grow_c (H := H) ls.flatten.length hl
  have lp := fun (k : K.Fn 2) => cat_loop (k := k) h hn ls 0 0 rfl (by omega)
  obtain ⟨y, H', e1, e2, e3, e4⟩ := cat_loop1 (k := fun x h => some (x, h)) h hn ls 0 g [] H1 rfl (by simpa using hl) g3 g2 g4
  rw [show (((0 : Nat) : Int)) = 0 from rfl] at lp e1
  simp only [Nat.zero_add] at lp
  refine ⟨y, H', c_slices_Concat___byte_byte_ ?_, e2, by simpa using e3, e4⟩
  unfold s_slices_Concat___byte_byte_
  simp only [lp, g1, JN_0, JN_1, JN_2, JN_3, JN_4, JN_5, JN_6, JN_7, JN_8, JN_9, JN_10, JN_11, JN_12, JN_13, JN_14, JN_15, JN_16, JN_17, JN_18, JN_19, JN_20, JN_21, JN_22, JN_23, JN_24, B1_s, B2_s, BN_s, CD_t, CD_f, GO_tt, GO_ft, GO_tf, GO_ff, GO_ut, GO_uf, GD2_tt, GD2_ft, GD2_tf, GD2_ff, pk_t, pk_f, nilA_p, nilA_i, fa_p, fd_a, ex_t, iadd_i, isub_i, imul_i, ieq_i, ine_i, ilt_i, ile_i, igt_i, ige_i, seq_s, sne_s, slt_s, lens_s, lenx_0, lenx_s, not_b, bb_e, bb_n, cv_i, pe_00, pe_0p, pe_p0, eqB_e, eqB_n, List.getElem?_cons_zero, List.getElem?_cons_succ, Nat.zero_add, Bool.not_true, Bool.not_false, decide_true, decide_false, Int.reduceBEq, Int.reduceBNe, Int.reduceLT, Int.reduceLE, Int.reduceGT, Int.reduceGE, Int.reduceNeg, BEq.rfl, bne_self_eq_false, ge_iff_le, gt_iff_lt]
  exact e1
end Go.Proofs.YtdacjomfipkpaaaDoor.SgK
