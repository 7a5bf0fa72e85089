/- The document's own answer on records (outriderref1: sums, values, GetRec, Scan): contracts over the symbolic heap; records compared. Conditions: as stated. -/
import Derived.Test.YtdacjomfipkpaaaDoorSgI
namespace Go.Proofs.YtdacjomfipkpaaaDoor.SgK
open Go Am Am.K SgEnv
set_option linter.unusedVariables false
set_option linter.unusedSimpArgs false
theorem addu {a b : Nat} (h : a + b < 18446744073709551616) : IntKind.wrap .u64 ((a : Int) + (b : Int)) = ((a + b : Nat) : Int) := wrap_u (n := a + b) rfl h
theorem mulu {a b : Nat} (h : a * b < 18446744073709551616) : IntKind.wrap .u64 ((a : Int) * (b : Int)) = ((a * b : Nat) : Int) := wrap_u (n := a * b) rfl h
theorem remu {a b : Nat} (hb : 0 < b) : irem (.int .u64 (a : Int)) (.int .u64 (b : Int)) = some (.int .u64 ((a % b : Nat) : Int)) := by
  rw [irem_i _ _ _ (by omega)]; rfl
theorem quou {a b : Nat} (hb : 0 < b) (ha : a < 18446744073709551616) : iquo (.int .u64 (a : Int)) (.int .u64 (b : Int)) = some (.int .u64 ((a / b : Nat) : Int)) := by
  rw [iquo_i _ _ _ (by omega)]
  have : Int.tdiv (a : Int) (b : Int) = ((a / b : Nat) : Int) := rfl
  rw [this, wrap_u rfl (Nat.lt_of_le_of_lt (Nat.div_le_self _ _) ha)]
theorem rprime_c {H : Hp} : cK (.func (.func 97) [] []) [] H = some (.int .u64 65521, H) := by
  refine c_outriderref1_prime ?_
  unfold s_outriderref1_prime
  rfl
theorem rgood_c {H : Hp} : cK (.func (.func 95) [] []) [.int .u32 1] H = some (.bool true, H) := by
  refine c_outriderref1_GoodSum ?_
  unfold s_outriderref1_GoodSum
  have e1 := remu (a := 1) (b := 65536) (by decide)
  have e2 := quou (a := 1) (b := 65536) (by decide) (by decide)
  have w : IntKind.wrap .u64 1 = 1 := by decide
  rw [show 1 % 65536 = 1 from rfl] at e1
  rw [show 1 / 65536 = 0 from rfl] at e2
  rw [show (((1 : Nat) : Int)) = 1 from rfl, show (((65536 : Nat) : Int)) = 65536 from rfl] at e1 e2
  rw [show (((0 : Nat) : Int)) = 0 from rfl] at e2
  simp only [rprime_c, w, e1, e2, JN_0, JN_1, JN_2, JN_3, JN_4, JN_5, JN_6, JN_7, JN_8, JN_9, JN_10, JN_11, JN_12, JN_13, JN_14, JN_15, JN_16, JN_17, JN_18, JN_19, JN_20, JN_21, JN_22, JN_23, JN_24, B1_s, B2_s, BN_s, CD_t, CD_f, GO_tt, GO_ft, GO_tf, GO_ff, GO_ut, GO_uf, GD2_tt, GD2_ft, GD2_tf, GD2_ff, pk_t, pk_f, nilA_p, nilA_i, fa_p, fd_a, ex_t, iadd_i, isub_i, imul_i, ieq_i, ine_i, ilt_i, ile_i, igt_i, ige_i, seq_s, sne_s, slt_s, lens_s, lenx_0, lenx_s, not_b, bb_e, bb_n, cv_i, pe_00, pe_0p, pe_p0, eqB_e, eqB_n, List.getElem?_cons_zero, List.getElem?_cons_succ, Nat.zero_add, Bool.not_true, Bool.not_false, decide_true, decide_false, Int.reduceBEq, Int.reduceBNe, Int.reduceLT, Int.reduceLE, Int.reduceGT, Int.reduceGE, Int.reduceNeg, BEq.rfl, bne_self_eq_false, ge_iff_le, gt_iff_lt]
theorem rhalves_c {H : Hp} : cK (.func (.func 96) [] []) [.int .u32 1] H = some (.tuple [.int .u64 1, .int .u64 0], H) := by
  refine c_outriderref1_halves ?_
  unfold s_outriderref1_halves
  have e1 := remu (a := 1) (b := 65536) (by decide)
  have e2 := quou (a := 1) (b := 65536) (by decide) (by decide)
  have w : IntKind.wrap .u64 1 = 1 := by decide
  rw [show 1 % 65536 = 1 from rfl] at e1
  rw [show 1 / 65536 = 0 from rfl] at e2
  rw [show (((1 : Nat) : Int)) = 1 from rfl, show (((65536 : Nat) : Int)) = 65536 from rfl] at e1 e2
  rw [show (((0 : Nat) : Int)) = 0 from rfl] at e2
  simp only [w, e1, e2, JN_0, JN_1, JN_2, JN_3, JN_4, JN_5, JN_6, JN_7, JN_8, JN_9, JN_10, JN_11, JN_12, JN_13, JN_14, JN_15, JN_16, JN_17, JN_18, JN_19, JN_20, JN_21, JN_22, JN_23, JN_24, B1_s, B2_s, BN_s, CD_t, CD_f, GO_tt, GO_ft, GO_tf, GO_ff, GO_ut, GO_uf, GD2_tt, GD2_ft, GD2_tf, GD2_ff, pk_t, pk_f, nilA_p, nilA_i, fa_p, fd_a, ex_t, iadd_i, isub_i, imul_i, ieq_i, ine_i, ilt_i, ile_i, igt_i, ige_i, seq_s, sne_s, slt_s, lens_s, lenx_0, lenx_s, not_b, bb_e, bb_n, cv_i, pe_00, pe_0p, pe_p0, eqB_e, eqB_n, List.getElem?_cons_zero, List.getElem?_cons_succ, Nat.zero_add, Bool.not_true, Bool.not_false, decide_true, decide_false, Int.reduceBEq, Int.reduceBNe, Int.reduceLT, Int.reduceLE, Int.reduceGT, Int.reduceGE, Int.reduceNeg, BEq.rfl, bne_self_eq_false, ge_iff_le, gt_iff_lt]
theorem rword_c {H : Hp} (p : Nat × Nat) (h1 : p.1 < 65521) (h2 : p.2 < 65521) : cK (.func (.func 98) [] []) [.int .u64 (p.1 : Nat), .int .u64 (p.2 : Nat)] H = some (.int .u32 ((sm p : Nat) : Int), H) := by
  refine c_outriderref1_word ?_
  unfold s_outriderref1_word
  have e1 := mulu (a := p.2) (b := 65536) (by omega)
  have e2 := addu (a := p.2 * 65536) (b := p.1) (by omega)
  have e3 : IntKind.wrap .u32 ((p.2 * 65536 + p.1 : Nat) : Int) = ((p.2 * 65536 + p.1 : Nat) : Int) := wrap_u rfl (show p.2 * 65536 + p.1 < 4294967296 by omega)
  rw [show (((65536 : Nat) : Int)) = 65536 from rfl] at e1
  simp only [e1, e2, e3, sm, JN_0, JN_1, JN_2, JN_3, JN_4, JN_5, JN_6, JN_7, JN_8, JN_9, JN_10, JN_11, JN_12, JN_13, JN_14, JN_15, JN_16, JN_17, JN_18, JN_19, JN_20, JN_21, JN_22, JN_23, JN_24, B1_s, B2_s, BN_s, CD_t, CD_f, GO_tt, GO_ft, GO_tf, GO_ff, GO_ut, GO_uf, GD2_tt, GD2_ft, GD2_tf, GD2_ff, pk_t, pk_f, nilA_p, nilA_i, fa_p, fd_a, ex_t, iadd_i, isub_i, imul_i, ieq_i, ine_i, ilt_i, ile_i, igt_i, ige_i, seq_s, sne_s, slt_s, lens_s, lenx_0, lenx_s, not_b, bb_e, bb_n, cv_i, pe_00, pe_0p, pe_p0, eqB_e, eqB_n, List.getElem?_cons_zero, List.getElem?_cons_succ, Nat.zero_add, Bool.not_true, Bool.not_false, decide_true, decide_false, Int.reduceBEq, Int.reduceBNe, Int.reduceLT, Int.reduceLE, Int.reduceGT, Int.reduceGE, Int.reduceNeg, BEq.rfl, bne_self_eq_false, ge_iff_le, gt_iff_lt]
theorem ron_loop {k : K.Fn 2} {H : Hp} {x : AV} {l : List Nat} (hx : Rw H 1 x (bs l)) (hb : ∀ b ∈ l, b < 256) (hl : l.length ≤ 4294967296) : ∀ (r : List Nat) (i : Nat) (p : Nat × Nat), l.drop i = r → p.1 < 65521 → p.2 < 65521 →
    l_outriderref1_On JN GO cK k x (.int .u64 (p.1 : Nat)) (.int .u64 (p.2 : Nat)) (.int .i64 (i : Nat)) H = k (.int .u64 ((r.foldl ad p).1 : Nat)) (.int .u64 ((r.foldl ad p).2 : Nat)) H
  | [], i, p, hr, h1, h2 => by
    rw [ql_outriderref1_On]
    have hn := hx.len1
    rw [bs_len] at hn
    have : l.length ≤ i := by simpa using hr
    have d : decide (((i : Nat) : Int) < ((l.length : Nat) : Int)) = false := decide_eq_false (by omega)
    simp only [hn, d, List.foldl_nil, JN_0, JN_1, JN_2, JN_3, JN_4, JN_5, JN_6, JN_7, JN_8, JN_9, JN_10, JN_11, JN_12, JN_13, JN_14, JN_15, JN_16, JN_17, JN_18, JN_19, JN_20, JN_21, JN_22, JN_23, JN_24, B1_s, B2_s, BN_s, CD_t, CD_f, GO_tt, GO_ft, GO_tf, GO_ff, GO_ut, GO_uf, GD2_tt, GD2_ft, GD2_tf, GD2_ff, pk_t, pk_f, nilA_p, nilA_i, fa_p, fd_a, ex_t, iadd_i, isub_i, imul_i, ieq_i, ine_i, ilt_i, ile_i, igt_i, ige_i, seq_s, sne_s, slt_s, lens_s, lenx_0, lenx_s, not_b, bb_e, bb_n, cv_i, pe_00, pe_0p, pe_p0, eqB_e, eqB_n, List.getElem?_cons_zero, List.getElem?_cons_succ, Nat.zero_add, Bool.not_true, Bool.not_false, decide_true, decide_false, Int.reduceBEq, Int.reduceBNe, Int.reduceLT, Int.reduceLE, Int.reduceGT, Int.reduceGE, Int.reduceNeg, BEq.rfl, bne_self_eq_false, ge_iff_le, gt_iff_lt]
  | v :: r, i, p, hr, h1, h2 => by
    obtain ⟨hi, hv, hr'⟩ := hd_drop hr
    have hn := hx.len1
    rw [bs_len] at hn
    have hv' : (bs l)[i]? = some (.int .u8 (v : Int)) := by simp [bs, hv]
    have hv2 := hb v (List.mem_of_getElem? hv)
    obtain ⟨q, q1, q2⟩ := hx.ia1 hv' .i64
    have d : decide (((i : Nat) : Int) < ((l.length : Nat) : Int)) = true := decide_eq_true (by omega)
    have w1 : IntKind.wrap .u64 (v : Int) = v := wrap_u rfl (show v < 18446744073709551616 by omega)
    have a1 := addu (a := p.1) (b := v) (by omega)
    have m1 := remu (a := p.1 + v) (b := 65521) (by decide)
    have hm := Nat.mod_lt (p.1 + v) (show 0 < 65521 by decide)
    have a2 := addu (a := p.2) (b := (p.1 + v) % 65521) (by omega)
    have m2 := remu (a := p.2 + (p.1 + v) % 65521) (b := 65521) (by decide)
    have a3 : IntKind.wrap .i64 (((i : Nat) : Int) + 1) = ((i + 1 : Nat) : Int) := by rw [wrap_i64 (by omega) (by omega)]; rfl
    have ih := ron_loop (k := k) hx hb hl r (i + 1) (ad p v) hr' (Nat.mod_lt _ (by decide)) (Nat.mod_lt _ (by decide))
    rw [ql_outriderref1_On]
    rw [show (((65521 : Nat) : Int)) = 65521 from rfl] at m1 m2
    simp only [hn, d, q1, q2, w1, a1, rprime_c, m1, SM_t (same_i .u8 (v : Int)), a2, m2, a3, JN_0, JN_1, JN_2, JN_3, JN_4, JN_5, JN_6, JN_7, JN_8, JN_9, JN_10, JN_11, JN_12, JN_13, JN_14, JN_15, JN_16, JN_17, JN_18, JN_19, JN_20, JN_21, JN_22, JN_23, JN_24, B1_s, B2_s, BN_s, CD_t, CD_f, GO_tt, GO_ft, GO_tf, GO_ff, GO_ut, GO_uf, GD2_tt, GD2_ft, GD2_tf, GD2_ff, pk_t, pk_f, nilA_p, nilA_i, fa_p, fd_a, ex_t, iadd_i, isub_i, imul_i, ieq_i, ine_i, ilt_i, ile_i, igt_i, ige_i, seq_s, sne_s, slt_s, lens_s, lenx_0, lenx_s, not_b, bb_e, bb_n, cv_i, pe_00, pe_0p, pe_p0, eqB_e, eqB_n, List.getElem?_cons_zero, List.getElem?_cons_succ, Nat.zero_add, Bool.not_true, Bool.not_false, decide_true, decide_false, Int.reduceBEq, Int.reduceBNe, Int.reduceLT, Int.reduceLE, Int.reduceGT, Int.reduceGE, Int.reduceNeg, BEq.rfl, bne_self_eq_false, ge_iff_le, gt_iff_lt]
    exact ih
theorem rsum_c {H : Hp} {x : AV} {l : List Nat} (hx : Rw H 1 x (bs l)) (hb : ∀ b ∈ l, b < 256) (hl : l.length ≤ 4294967296) :
    cK (.func (.func 51) [] []) [x] H = some (.int .u32 ((onS 1 l : Nat) : Int), H) := by
  refine c_outriderref1_Sum ?_
  unfold s_outriderref1_Sum
  have e1 : cK (.func (.func 72) [] []) [.int .u32 1, x] H = some (.tuple [.int .u32 ((onS 1 l : Nat) : Int), .bool true], H) := by
    refine c_outriderref1_On ?_
    unfold s_outriderref1_On
    have hp := gd_lt (s := 1) (by decide)
    have hf := fold_lt l (pr 1) hp.1 hp.2
    have e3 := rword_c (H := H) (l.foldl ad (pr 1)) hf.1 hf.2
    have lp := fun (k : K.Fn 2) => ron_loop (k := k) hx hb hl l 0 (pr 1) rfl hp.1 hp.2
    rw [show (((0 : Nat) : Int)) = 0 from rfl, show (((pr 1).1 : Nat) : Int) = 1 from rfl, show (((pr 1).2 : Nat) : Int) = 0 from rfl] at lp
    simp only [rgood_c, rhalves_c, lp, e3, onS, JN_0, JN_1, JN_2, JN_3, JN_4, JN_5, JN_6, JN_7, JN_8, JN_9, JN_10, JN_11, JN_12, JN_13, JN_14, JN_15, JN_16, JN_17, JN_18, JN_19, JN_20, JN_21, JN_22, JN_23, JN_24, B1_s, B2_s, BN_s, CD_t, CD_f, GO_tt, GO_ft, GO_tf, GO_ff, GO_ut, GO_uf, GD2_tt, GD2_ft, GD2_tf, GD2_ff, pk_t, pk_f, nilA_p, nilA_i, fa_p, fd_a, ex_t, iadd_i, isub_i, imul_i, ieq_i, ine_i, ilt_i, ile_i, igt_i, ige_i, seq_s, sne_s, slt_s, lens_s, lenx_0, lenx_s, not_b, bb_e, bb_n, cv_i, pe_00, pe_0p, pe_p0, eqB_e, eqB_n, List.getElem?_cons_zero, List.getElem?_cons_succ, Nat.zero_add, Bool.not_true, Bool.not_false, decide_true, decide_false, Int.reduceBEq, Int.reduceBNe, Int.reduceLT, Int.reduceLE, Int.reduceGT, Int.reduceGE, Int.reduceNeg, BEq.rfl, bne_self_eq_false, ge_iff_le, gt_iff_lt]
  simp only [e1, JN_0, JN_1, JN_2, JN_3, JN_4, JN_5, JN_6, JN_7, JN_8, JN_9, JN_10, JN_11, JN_12, JN_13, JN_14, JN_15, JN_16, JN_17, JN_18, JN_19, JN_20, JN_21, JN_22, JN_23, JN_24, B1_s, B2_s, BN_s, CD_t, CD_f, GO_tt, GO_ft, GO_tf, GO_ff, GO_ut, GO_uf, GD2_tt, GD2_ft, GD2_tf, GD2_ff, pk_t, pk_f, nilA_p, nilA_i, fa_p, fd_a, ex_t, iadd_i, isub_i, imul_i, ieq_i, ine_i, ilt_i, ile_i, igt_i, ige_i, seq_s, sne_s, slt_s, lens_s, lenx_0, lenx_s, not_b, bb_e, bb_n, cv_i, pe_00, pe_0p, pe_p0, eqB_e, eqB_n, List.getElem?_cons_zero, List.getElem?_cons_succ, Nat.zero_add, Bool.not_true, Bool.not_false, decide_true, decide_false, Int.reduceBEq, Int.reduceBNe, Int.reduceLT, Int.reduceLE, Int.reduceGT, Int.reduceGE, Int.reduceNeg, BEq.rfl, bne_self_eq_false, ge_iff_le, gt_iff_lt]
theorem rval_loop {k : K.Fn 1} {H : Hp} {x : AV} {l : List Nat} (hx : Rw H 1 x (bs l)) (hb : ∀ b ∈ l, b < 256) (hl : l.length ≤ 8) : ∀ (j : Nat), j ≤ l.length →
    l_outriderref1_value JN GO cK k x (.int .u64 ((ud (l.drop j) : Nat) : Int)) (.int .i64 (((j : Nat) : Int) - 1)) H = k (.int .u64 ((ud l : Nat) : Int)) H
  | 0, _ => by
    have d : decide ((0 : Int) ≤ (((0 : Nat) : Int)) - 1) = false := decide_eq_false (by omega)
    rw [ql_outriderref1_value]
    simp only [d, List.drop_zero, JN_0, JN_1, JN_2, JN_3, JN_4, JN_5, JN_6, JN_7, JN_8, JN_9, JN_10, JN_11, JN_12, JN_13, JN_14, JN_15, JN_16, JN_17, JN_18, JN_19, JN_20, JN_21, JN_22, JN_23, JN_24, B1_s, B2_s, BN_s, CD_t, CD_f, GO_tt, GO_ft, GO_tf, GO_ff, GO_ut, GO_uf, GD2_tt, GD2_ft, GD2_tf, GD2_ff, pk_t, pk_f, nilA_p, nilA_i, fa_p, fd_a, ex_t, iadd_i, isub_i, imul_i, ieq_i, ine_i, ilt_i, ile_i, igt_i, ige_i, seq_s, sne_s, slt_s, lens_s, lenx_0, lenx_s, not_b, bb_e, bb_n, cv_i, pe_00, pe_0p, pe_p0, eqB_e, eqB_n, List.getElem?_cons_zero, List.getElem?_cons_succ, Nat.zero_add, Bool.not_true, Bool.not_false, decide_true, decide_false, Int.reduceBEq, Int.reduceBNe, Int.reduceLT, Int.reduceLE, Int.reduceGT, Int.reduceGE, Int.reduceNeg, BEq.rfl, bne_self_eq_false, ge_iff_le, gt_iff_lt]
  | j + 1, hj => by
    have hd : l.drop j = l[j] :: l.drop (j + 1) := List.drop_eq_getElem_cons (by omega)
    generalize hv0 : l[j] = v at hd
    have hv : l[j]? = some v := by rw [← hv0]; exact List.getElem?_eq_getElem (by omega)
    have hv' : (bs l)[j]? = some (.int .u8 (v : Int)) := by simp [bs, hv]
    have hv2 := hb v (List.mem_of_getElem? hv)
    obtain ⟨q, q1, q2⟩ := hx.ia1 hv' .i64
    have hu := ud_lt (l.drop (j + 1)) fun b hb' => hb b (List.mem_of_mem_drop hb')
    have hp : 256 ^ (l.drop (j + 1)).length ≤ 256 ^ 7 := Nat.pow_le_pow_right (by decide) (by rw [List.length_drop]; omega)
    have h7 : (256 : Nat) ^ 7 = 72057594037927936 := by decide
    have ih := rval_loop (k := k) hx hb hl j (by omega)
    rw [hd, ud] at ih
    generalize ud (l.drop (j + 1)) = u at *
    have d : decide ((0 : Int) ≤ ((j : Nat) : Int)) = true := decide_eq_true (by omega)
    have w1 : IntKind.wrap .u64 (v : Int) = v := wrap_u rfl (show v < 18446744073709551616 by omega)
    have m1 := mulu (a := u) (b := 256) (by omega)
    have a1 := addu (a := u * 256) (b := v) (by omega)
    have s1 : IntKind.wrap .i64 (((j : Nat) : Int) - 1) = ((j : Nat) : Int) - 1 := wrap_i64 (by omega) (by omega)
    rw [show (((j + 1 : Nat) : Int)) - 1 = ((j : Nat) : Int) by omega]
    rw [show (((256 : Nat) : Int)) = 256 from rfl] at m1
    rw [show v + 256 * u = u * 256 + v by omega] at ih
    rw [ql_outriderref1_value]
    simp only [d, m1, q1, q2, w1, a1, s1, JN_0, JN_1, JN_2, JN_3, JN_4, JN_5, JN_6, JN_7, JN_8, JN_9, JN_10, JN_11, JN_12, JN_13, JN_14, JN_15, JN_16, JN_17, JN_18, JN_19, JN_20, JN_21, JN_22, JN_23, JN_24, B1_s, B2_s, BN_s, CD_t, CD_f, GO_tt, GO_ft, GO_tf, GO_ff, GO_ut, GO_uf, GD2_tt, GD2_ft, GD2_tf, GD2_ff, pk_t, pk_f, nilA_p, nilA_i, fa_p, fd_a, ex_t, iadd_i, isub_i, imul_i, ieq_i, ine_i, ilt_i, ile_i, igt_i, ige_i, seq_s, sne_s, slt_s, lens_s, lenx_0, lenx_s, not_b, bb_e, bb_n, cv_i, pe_00, pe_0p, pe_p0, eqB_e, eqB_n, List.getElem?_cons_zero, List.getElem?_cons_succ, Nat.zero_add, Bool.not_true, Bool.not_false, decide_true, decide_false, Int.reduceBEq, Int.reduceBNe, Int.reduceLT, Int.reduceLE, Int.reduceGT, Int.reduceGE, Int.reduceNeg, BEq.rfl, bne_self_eq_false, ge_iff_le, gt_iff_lt]
    exact ih
theorem rval_c {H : Hp} {x : AV} {l : List Nat} (hx : Rw H 1 x (bs l)) (hb : ∀ b ∈ l, b < 256) (hl : l.length ≤ 8) : cK (.func (.func 50) [] []) [x] H = some (.int .u64 ((ud l : Nat) : Int), H) := by
  refine c_outriderref1_value ?_
  unfold s_outriderref1_value
  have hn := hx.len1
  rw [bs_len] at hn
  have lp := fun (k : K.Fn 1) => rval_loop (k := k) hx hb hl l.length (Nat.le_refl _)
  have e0 : l.drop l.length = [] := List.drop_eq_nil_of_le (Nat.le_refl _)
  rw [e0, ud, show (((0 : Nat) : Int)) = 0 from rfl] at lp
  have s1 : IntKind.wrap .i64 (((l.length : Nat) : Int) - 1) = ((l.length : Nat) : Int) - 1 := wrap_i64 (by omega) (by omega)
  simp only [hn, s1, lp, JN_0, JN_1, JN_2, JN_3, JN_4, JN_5, JN_6, JN_7, JN_8, JN_9, JN_10, JN_11, JN_12, JN_13, JN_14, JN_15, JN_16, JN_17, JN_18, JN_19, JN_20, JN_21, JN_22, JN_23, JN_24, B1_s, B2_s, BN_s, CD_t, CD_f, GO_tt, GO_ft, GO_tf, GO_ff, GO_ut, GO_uf, GD2_tt, GD2_ft, GD2_tf, GD2_ff, pk_t, pk_f, nilA_p, nilA_i, fa_p, fd_a, ex_t, iadd_i, isub_i, imul_i, ieq_i, ine_i, ilt_i, ile_i, igt_i, ige_i, seq_s, sne_s, slt_s, lens_s, lenx_0, lenx_s, not_b, bb_e, bb_n, cv_i, pe_00, pe_0p, pe_p0, eqB_e, eqB_n, List.getElem?_cons_zero, List.getElem?_cons_succ, Nat.zero_add, Bool.not_true, Bool.not_false, decide_true, decide_false, Int.reduceBEq, Int.reduceBNe, Int.reduceLT, Int.reduceLE, Int.reduceGT, Int.reduceGE, Int.reduceNeg, BEq.rfl, bne_self_eq_false, ge_iff_le, gt_iff_lt]
theorem rgetrec_c {H : Hp} {x : AV} {l : List Nat} (hx : Rw H 1 x (bs l)) (hb : ∀ b ∈ l, b < 256) (hl : l.length ≤ 16000000) :
    ∃ H', cK (.func (.func 29) [] []) [x] H = some (.tuple [.agg [.int .u64 ((if gE l = 0 then gA l else 0 : Nat) : Int), .str (if gE l = 0 then gB l else [])], .int .i64 ((if gE l = 0 then 16 + gN l else 0 : Nat) : Int), .int .i64 ((gE l : Nat) : Int)], H') ∧ Out [] H H' := by
  obtain ⟨H1, n1, n2, n3, n4⟩ := newCells_ok H [.int .u64 0, .str []] 69 0 (by simp)
  have one2 : ∀ (a : Int) (b : List Nat), ∀ v ∈ [AV.int .u64 a, AV.str b], oneC v = true := by
    intro a b v hv
    rcases List.mem_cons.1 hv with rfl | hv
    · rfl
    · rcases List.mem_cons.1 hv with rfl | hv
      · rfl
      · cases hv
  have hx1 := hx.out n3 fun j _ q => by cases q
  have hn := hx.len1
  rw [bs_len] at hn
  have h30 : ¬ (3 : Nat) = 0 := by decide
  have h140 : ¬ (14 : Nat) = 0 := by decide
  have h20 : ¬ (2 : Nat) = 0 := by decide
  have sub : ∀ a b, ∀ v ∈ (l.drop a).take b, v < 256 := fun a b v hv => hb v (List.mem_of_mem_drop (List.mem_of_mem_take hv))
  obtain ⟨H2, t1, t2, t3, t4⟩ := st_all (n := 2) n2 (by omega) (v := .agg [.int .u64 0, .str []]) (cs := [.int .u64 0, .str []]) rfl rfl rfl (one2 0 [])
  have t5 : lda 2 (.ptr H.next 0) H2 = some (.agg [.int .u64 0, .str []]) := t2.lda (n := 2) (o := 0) (by simp)
  have o2 : Out [] H H2 := n3.then t3 fun j hj => by
    rw [List.mem_singleton] at hj
    exact .inr (by omega)
  by_cases c1 : l.length < 4
  · have ge : gE l = 3 := if_pos c1
    rw [ge, if_neg h30, if_neg h30, if_neg h30]
    refine ⟨H2, c_outriderref1_GetRec ?_, o2⟩
    unfold s_outriderref1_GetRec
    have d1 : decide ((4 : Int) ≤ ((l.length : Nat) : Int)) = false := decide_eq_false (by omega)
    have d2 : decide (((l.length : Nat) : Int) < 16) = true := decide_eq_true (by omega)
    simp only [n1, hn, d1, d2, fl_nil, t1, t5, JN_0, JN_1, JN_2, JN_3, JN_4, JN_5, JN_6, JN_7, JN_8, JN_9, JN_10, JN_11, JN_12, JN_13, JN_14, JN_15, JN_16, JN_17, JN_18, JN_19, JN_20, JN_21, JN_22, JN_23, JN_24, B1_s, B2_s, BN_s, CD_t, CD_f, GO_tt, GO_ft, GO_tf, GO_ff, GO_ut, GO_uf, GD2_tt, GD2_ft, GD2_tf, GD2_ff, pk_t, pk_f, nilA_p, nilA_i, fa_p, fd_a, ex_t, iadd_i, isub_i, imul_i, ieq_i, ine_i, ilt_i, ile_i, igt_i, ige_i, seq_s, sne_s, slt_s, lens_s, lenx_0, lenx_s, not_b, bb_e, bb_n, cv_i, pe_00, pe_0p, pe_p0, eqB_e, eqB_n, List.getElem?_cons_zero, List.getElem?_cons_succ, Nat.zero_add, Bool.not_true, Bool.not_false, decide_true, decide_false, Int.reduceBEq, Int.reduceBNe, Int.reduceLT, Int.reduceLE, Int.reduceGT, Int.reduceGE, Int.reduceNeg, BEq.rfl, bne_self_eq_false, ge_iff_le, gt_iff_lt]
    rfl
  · have d1 : decide ((4 : Int) ≤ ((l.length : Nat) : Int)) = true := decide_eq_true (by omega)
    obtain ⟨x4, u1, u2⟩ := cut_c hx1 (a := 0) (b := 4) (Nat.zero_le _) (by omega) (lo := none) (hi := some (.int .i64 ((4 : Nat) : Int))) (Bd.no 0) (Bd.yes _ _ _)
    have r4 := rval_c u2 (sub _ _) (by simp; omega)
    have e4 : ud ((l.drop 0).take (4 - 0)) = gN l := rfl
    rw [e4] at r4
    have b4 : gN l < 4294967296 := by
      have := ud_lt (l.take 4) fun v hv => hb v (List.mem_of_mem_take hv)
      rw [List.length_take, Nat.min_eq_left (by omega)] at this
      exact this
    have w4 := w64 (a := gN l) (by omega)
    rw [show (((4 : Nat) : Int)) = 4 from rfl] at u1
    by_cases c2 : 1024 < gN l
    · have ge : gE l = 14 := by unfold gE; rw [if_neg c1, if_pos c2]
      rw [ge, if_neg h140, if_neg h140, if_neg h140]
      refine ⟨H2, c_outriderref1_GetRec ?_, o2⟩
      unfold s_outriderref1_GetRec
      have d2 : decide (1024 < ((gN l : Nat) : Int)) = true := decide_eq_true (by omega)
      simp only [n1, hn, d1, u1, r4, w4, d2, fl_nil, t1, t5, JN_0, JN_1, JN_2, JN_3, JN_4, JN_5, JN_6, JN_7, JN_8, JN_9, JN_10, JN_11, JN_12, JN_13, JN_14, JN_15, JN_16, JN_17, JN_18, JN_19, JN_20, JN_21, JN_22, JN_23, JN_24, B1_s, B2_s, BN_s, CD_t, CD_f, GO_tt, GO_ft, GO_tf, GO_ff, GO_ut, GO_uf, GD2_tt, GD2_ft, GD2_tf, GD2_ff, pk_t, pk_f, nilA_p, nilA_i, fa_p, fd_a, ex_t, iadd_i, isub_i, imul_i, ieq_i, ine_i, ilt_i, ile_i, igt_i, ige_i, seq_s, sne_s, slt_s, lens_s, lenx_0, lenx_s, not_b, bb_e, bb_n, cv_i, pe_00, pe_0p, pe_p0, eqB_e, eqB_n, List.getElem?_cons_zero, List.getElem?_cons_succ, Nat.zero_add, Bool.not_true, Bool.not_false, decide_true, decide_false, Int.reduceBEq, Int.reduceBNe, Int.reduceLT, Int.reduceLE, Int.reduceGT, Int.reduceGE, Int.reduceNeg, BEq.rfl, bne_self_eq_false, ge_iff_le, gt_iff_lt]
      rfl
    · have d2 : decide (1024 < ((gN l : Nat) : Int)) = false := decide_eq_false (by omega)
      have a16 : IntKind.wrap .i64 (16 + ((gN l : Nat) : Int)) = ((16 + gN l : Nat) : Int) := by rw [wrap_i64 (by omega) (by omega)]; rfl
      by_cases c3 : l.length < 16 + gN l
      · have ge : gE l = 3 := by unfold gE; rw [if_neg c1, if_neg c2, if_pos c3]
        rw [ge, if_neg h30, if_neg h30, if_neg h30]
        refine ⟨H2, c_outriderref1_GetRec ?_, o2⟩
        unfold s_outriderref1_GetRec
        by_cases c16 : l.length < 16
        · have d3 : decide (((l.length : Nat) : Int) < 16) = true := decide_eq_true (by omega)
          simp only [n1, hn, d1, u1, r4, w4, d2, d3, fl_nil, t1, t5, JN_0, JN_1, JN_2, JN_3, JN_4, JN_5, JN_6, JN_7, JN_8, JN_9, JN_10, JN_11, JN_12, JN_13, JN_14, JN_15, JN_16, JN_17, JN_18, JN_19, JN_20, JN_21, JN_22, JN_23, JN_24, B1_s, B2_s, BN_s, CD_t, CD_f, GO_tt, GO_ft, GO_tf, GO_ff, GO_ut, GO_uf, GD2_tt, GD2_ft, GD2_tf, GD2_ff, pk_t, pk_f, nilA_p, nilA_i, fa_p, fd_a, ex_t, iadd_i, isub_i, imul_i, ieq_i, ine_i, ilt_i, ile_i, igt_i, ige_i, seq_s, sne_s, slt_s, lens_s, lenx_0, lenx_s, not_b, bb_e, bb_n, cv_i, pe_00, pe_0p, pe_p0, eqB_e, eqB_n, List.getElem?_cons_zero, List.getElem?_cons_succ, Nat.zero_add, Bool.not_true, Bool.not_false, decide_true, decide_false, Int.reduceBEq, Int.reduceBNe, Int.reduceLT, Int.reduceLE, Int.reduceGT, Int.reduceGE, Int.reduceNeg, BEq.rfl, bne_self_eq_false, ge_iff_le, gt_iff_lt]
          rfl
        · have d3 : decide (((l.length : Nat) : Int) < 16) = false := decide_eq_false (by omega)
          have d4 : decide (((l.length : Nat) : Int) < ((16 + gN l : Nat) : Int)) = true := decide_eq_true (by omega)
          simp only [n1, hn, d1, u1, r4, w4, d2, d3, a16, d4, fl_nil, t1, t5, JN_0, JN_1, JN_2, JN_3, JN_4, JN_5, JN_6, JN_7, JN_8, JN_9, JN_10, JN_11, JN_12, JN_13, JN_14, JN_15, JN_16, JN_17, JN_18, JN_19, JN_20, JN_21, JN_22, JN_23, JN_24, B1_s, B2_s, BN_s, CD_t, CD_f, GO_tt, GO_ft, GO_tf, GO_ff, GO_ut, GO_uf, GD2_tt, GD2_ft, GD2_tf, GD2_ff, pk_t, pk_f, nilA_p, nilA_i, fa_p, fd_a, ex_t, iadd_i, isub_i, imul_i, ieq_i, ine_i, ilt_i, ile_i, igt_i, ige_i, seq_s, sne_s, slt_s, lens_s, lenx_0, lenx_s, not_b, bb_e, bb_n, cv_i, pe_00, pe_0p, pe_p0, eqB_e, eqB_n, List.getElem?_cons_zero, List.getElem?_cons_succ, Nat.zero_add, Bool.not_true, Bool.not_false, decide_true, decide_false, Int.reduceBEq, Int.reduceBNe, Int.reduceLT, Int.reduceLE, Int.reduceGT, Int.reduceGE, Int.reduceNeg, BEq.rfl, bne_self_eq_false, ge_iff_le, gt_iff_lt]
          rfl
      · have d3 : decide (((l.length : Nat) : Int) < 16) = false := decide_eq_false (by omega)
        have d4 : decide (((l.length : Nat) : Int) < ((16 + gN l : Nat) : Int)) = false := decide_eq_false (by omega)
        obtain ⟨x12, p1, p2⟩ := cut_c hx1 (a := 0) (b := 12) (Nat.zero_le _) (by omega) (lo := none) (hi := some (.int .i64 ((12 : Nat) : Int))) (Bd.no 0) (Bd.yes _ _ _)
        obtain ⟨xb, q1, q2⟩ := cut_c hx1 (a := 16) (b := 16 + gN l) (by omega) (by omega) (lo := some (.int .i64 ((16 : Nat) : Int))) (hi := some (.int .i64 ((16 + gN l : Nat) : Int))) (Bd.yes _ _ _) (Bd.yes _ _ _)
        have eB : (l.drop 16).take (16 + gN l - 16) = gB l := by rw [Nat.add_sub_cancel_left]; rfl
        rw [eB] at q2
        have hB : ∀ v ∈ gB l, v < 256 := sub _ _
        have lB : (gB l).length = gN l := by unfold gB; rw [List.length_take, List.length_drop]; omega
        have l12 : (l.take 12).length = 12 := by rw [List.length_take]; omega
        obtain ⟨H3, m1, m2, m3, m4⟩ := newCells_ok H1 [] 5 0 (by simp)
        obtain ⟨y1, H4, a1, a2, a3, a4⟩ := append_ok (z := [.int .u8 0]) (s := .slice H1.next 0 0 0 true 1) (l := []) (el := 5) .emp (p2.out m3 fun j _ q => by cases q) (bs_one _) (by omega) (by rw [bs_len, List.length_nil]; simp; omega)
        have r0 : rid (.slice H1.next 0 0 0 true 1) = [] := rfl
        rw [r0] at a3 a4
        rw [show (l.drop 0).take (12 - 0) = l.take 12 from rfl, List.nil_append] at a2
        have o4 : Out [] H1 H4 := m3.trans a3
        obtain ⟨y2, H5, b1, b2, b3, b4'⟩ := append_ok (z := [.int .u8 0]) a2 (q2.out o4 fun j _ q => by cases q) (bs_one _) (by omega) (by rw [bs_len, bs_len, l12, lB]; omega)
        rw [← bs_app] at b2
        have o5 : Out [] H1 H5 := o4.then b3 fun j hj => .inr ((a4 j hj).elim (fun q => by cases q) fun q => Nat.le_trans m3.1 q)
        have f1 := rsum_c b2.rw (fun v hv => (List.mem_append.1 hv).elim (fun q => hb v (List.mem_of_mem_take q)) (hB v)) (by rw [List.length_append, l12, lB]; omega)
        have g2 := onS_lt (s := 1) (by decide) (l.take 12 ++ gB l)
        have w2 : IntKind.wrap .u64 ((onS 1 (l.take 12 ++ gB l) : Nat) : Int) = ((onS 1 (l.take 12 ++ gB l) : Nat) : Int) := wrap_u rfl (Nat.lt_trans g2.1 (by decide))
        have hx5 := hx1.out o5 fun j _ q => by cases q
        obtain ⟨xs, s1, s2⟩ := cut_c hx5 (a := 12) (b := 16) (by omega) (by omega) (lo := some (.int .i64 ((12 : Nat) : Int))) (hi := some (.int .i64 ((16 : Nat) : Int))) (Bd.yes _ _ _) (Bd.yes _ _ _)
        obtain ⟨xa, v1, v2⟩ := cut_c hx5 (a := 4) (b := 12) (by omega) (by omega) (lo := some (.int .i64 ((4 : Nat) : Int))) (hi := some (.int .i64 ((12 : Nat) : Int))) (Bd.yes _ _ _) (Bd.yes _ _ _)
        have f3 := rval_c s2 (sub _ _) (by simp; omega)
        have f4 := rval_c v2 (sub _ _) (by simp; omega)
        rw [show (l.drop 12).take (16 - 12) = (l.drop 12).take 4 from rfl] at f3
        rw [show ud ((l.drop 4).take (12 - 4)) = gA l from rfl] at f4
        rw [show (((12 : Nat) : Int)) = 12 from rfl] at p1 s1 v1
        rw [show (((16 : Nat) : Int)) = 16 from rfl] at q1 s1
        rw [show (((4 : Nat) : Int)) = 4 from rfl] at v1
        have qb := b2s_ok (q2.out o5 fun j _ q => by cases q) hB
        have n2' := n2.out o5 fun q => by cases q
        have o15 : Out [] H H5 := n3.trans o5
        by_cases c4 : onS 1 (l.take 12 ++ gB l) ≠ ud ((l.drop 12).take 4)
        · have ge : gE l = 2 := by unfold gE; rw [if_neg c1, if_neg c2, if_neg c3, if_pos c4]
          rw [ge, if_neg h20, if_neg h20, if_neg h20]
          obtain ⟨H6, z1, z2, z3, z4⟩ := st_all (n := 2) n2' (by omega) (v := .agg [.int .u64 0, .str []]) (cs := [.int .u64 0, .str []]) rfl rfl rfl (one2 0 [])
          have z5 : lda 2 (.ptr H.next 0) H6 = some (.agg [.int .u64 0, .str []]) := z2.lda (n := 2) (o := 0) (by simp)
          refine ⟨H6, c_outriderref1_GetRec ?_, o15.then z3 fun j hj => by rw [List.mem_singleton] at hj; exact .inr (by omega)⟩
          unfold s_outriderref1_GetRec
          have d5 : (((onS 1 (l.take 12 ++ gB l) : Nat) : Int) != ((ud ((l.drop 12).take 4) : Nat) : Int)) = true := by rw [bne_iff_ne]; omega
          simp only [n1, hn, d1, u1, r4, w4, d2, d3, a16, d4, q1, fl_nil, m1, p1, a1, b1, f1, w2, s1, f3, SM_t (same_rw p2), SM_t (same_rw s2), d5, z1, z5, JN_0, JN_1, JN_2, JN_3, JN_4, JN_5, JN_6, JN_7, JN_8, JN_9, JN_10, JN_11, JN_12, JN_13, JN_14, JN_15, JN_16, JN_17, JN_18, JN_19, JN_20, JN_21, JN_22, JN_23, JN_24, B1_s, B2_s, BN_s, CD_t, CD_f, GO_tt, GO_ft, GO_tf, GO_ff, GO_ut, GO_uf, GD2_tt, GD2_ft, GD2_tf, GD2_ff, pk_t, pk_f, nilA_p, nilA_i, fa_p, fd_a, ex_t, iadd_i, isub_i, imul_i, ieq_i, ine_i, ilt_i, ile_i, igt_i, ige_i, seq_s, sne_s, slt_s, lens_s, lenx_0, lenx_s, not_b, bb_e, bb_n, cv_i, pe_00, pe_0p, pe_p0, eqB_e, eqB_n, List.getElem?_cons_zero, List.getElem?_cons_succ, Nat.zero_add, Bool.not_true, Bool.not_false, decide_true, decide_false, Int.reduceBEq, Int.reduceBNe, Int.reduceLT, Int.reduceLE, Int.reduceGT, Int.reduceGE, Int.reduceNeg, BEq.rfl, bne_self_eq_false, ge_iff_le, gt_iff_lt]
          rfl
        · have ge : gE l = 0 := by unfold gE; rw [if_neg c1, if_neg c2, if_neg c3, if_neg c4]
          rw [ge, if_pos rfl, if_pos rfl, if_pos rfl]
          have d5 : (((onS 1 (l.take 12 ++ gB l) : Nat) : Int) != ((ud ((l.drop 12).take 4) : Nat) : Int)) = false := by rw [bne_eq_false_iff_eq]; omega
          obtain ⟨H6, z1, z2, z3, z4⟩ := st_all (n := 2) n2' (by omega) (v := .agg [.int .u64 ((gA l : Nat) : Int), .str (gB l)]) (cs := [.int .u64 ((gA l : Nat) : Int), .str (gB l)]) rfl rfl rfl (one2 _ _)
          have z5 : lda 2 (.ptr H.next 0) H6 = some (.agg [.int .u64 ((gA l : Nat) : Int), .str (gB l)]) := z2.lda (n := 2) (o := 0) (by simp)
          have fl2 : fl [.int .u64 0, .str []] [(0, 1, .int .u64 ((gA l : Nat) : Int)), (1, 1, .str (gB l))] = some [.int .u64 ((gA l : Nat) : Int), .str (gB l)] := rfl
          have sst : same (.str (gB l)) (.str (gB l)) = true := by simp [same, sameS]
          refine ⟨H6, c_outriderref1_GetRec ?_, o15.then z3 fun j hj => by rw [List.mem_singleton] at hj; exact .inr (by omega)⟩
          unfold s_outriderref1_GetRec
          simp only [n1, hn, d1, u1, r4, w4, d2, d3, a16, d4, q1, fl_nil, m1, p1, a1, b1, f1, w2, s1, f3, SM_t (same_rw p2), SM_t (same_rw s2), d5, v1, f4, qb, fl2, z1, SM_t sst, z5, JN_0, JN_1, JN_2, JN_3, JN_4, JN_5, JN_6, JN_7, JN_8, JN_9, JN_10, JN_11, JN_12, JN_13, JN_14, JN_15, JN_16, JN_17, JN_18, JN_19, JN_20, JN_21, JN_22, JN_23, JN_24, B1_s, B2_s, BN_s, CD_t, CD_f, GO_tt, GO_ft, GO_tf, GO_ff, GO_ut, GO_uf, GD2_tt, GD2_ft, GD2_tf, GD2_ff, pk_t, pk_f, nilA_p, nilA_i, fa_p, fd_a, ex_t, iadd_i, isub_i, imul_i, ieq_i, ine_i, ilt_i, ile_i, igt_i, ige_i, seq_s, sne_s, slt_s, lens_s, lenx_0, lenx_s, not_b, bb_e, bb_n, cv_i, pe_00, pe_0p, pe_p0, eqB_e, eqB_n, List.getElem?_cons_zero, List.getElem?_cons_succ, Nat.zero_add, Bool.not_true, Bool.not_false, decide_true, decide_false, Int.reduceBEq, Int.reduceBNe, Int.reduceLT, Int.reduceLE, Int.reduceGT, Int.reduceGE, Int.reduceNeg, BEq.rfl, bne_self_eq_false, ge_iff_le, gt_iff_lt]
          rfl
theorem roff_c {H : Hp} (s : Nat) (h : s < 18446744073709551616) : cK (.func (.func 30) [] []) [.int .u64 s] H = some (.int .i64 ((s % 17592186044416 : Nat) : Int), H) := by
  refine c_outriderref1_Off ?_
  unfold s_outriderref1_Off
  have e1 := remu (a := s) (b := 17592186044416) (by decide)
  rw [show (((17592186044416 : Nat) : Int)) = 17592186044416 from rfl] at e1
  have w1 := w64 (a := s % 17592186044416) (by omega)
  simp only [e1, w1, JN_0, JN_1, JN_2, JN_3, JN_4, JN_5, JN_6, JN_7, JN_8, JN_9, JN_10, JN_11, JN_12, JN_13, JN_14, JN_15, JN_16, JN_17, JN_18, JN_19, JN_20, JN_21, JN_22, JN_23, JN_24, B1_s, B2_s, BN_s, CD_t, CD_f, GO_tt, GO_ft, GO_tf, GO_ff, GO_ut, GO_uf, GD2_tt, GD2_ft, GD2_tf, GD2_ff, pk_t, pk_f, nilA_p, nilA_i, fa_p, fd_a, ex_t, iadd_i, isub_i, imul_i, ieq_i, ine_i, ilt_i, ile_i, igt_i, ige_i, seq_s, sne_s, slt_s, lens_s, lenx_0, lenx_s, not_b, bb_e, bb_n, cv_i, pe_00, pe_0p, pe_p0, eqB_e, eqB_n, List.getElem?_cons_zero, List.getElem?_cons_succ, Nat.zero_add, Bool.not_true, Bool.not_false, decide_true, decide_false, Int.reduceBEq, Int.reduceBNe, Int.reduceLT, Int.reduceLE, Int.reduceGT, Int.reduceGE, Int.reduceNeg, BEq.rfl, bne_self_eq_false, ge_iff_le, gt_iff_lt]
theorem repoch_c {H : Hp} (s : Nat) (h : s < 18446744073709551616) : cK (.func (.func 31) [] []) [.int .u64 s] H = some (.int .i64 ((s / 17592186044416 : Nat) : Int), H) := by
  refine c_outriderref1_Epoch ?_
  unfold s_outriderref1_Epoch
  have e1 := quou (a := s) (b := 17592186044416) (by decide) h
  rw [show (((17592186044416 : Nat) : Int)) = 17592186044416 from rfl] at e1
  have w1 := w64 (a := s / 17592186044416) (by omega)
  simp only [e1, w1, JN_0, JN_1, JN_2, JN_3, JN_4, JN_5, JN_6, JN_7, JN_8, JN_9, JN_10, JN_11, JN_12, JN_13, JN_14, JN_15, JN_16, JN_17, JN_18, JN_19, JN_20, JN_21, JN_22, JN_23, JN_24, B1_s, B2_s, BN_s, CD_t, CD_f, GO_tt, GO_ft, GO_tf, GO_ff, GO_ut, GO_uf, GD2_tt, GD2_ft, GD2_tf, GD2_ff, pk_t, pk_f, nilA_p, nilA_i, fa_p, fd_a, ex_t, iadd_i, isub_i, imul_i, ieq_i, ine_i, ilt_i, ile_i, igt_i, ige_i, seq_s, sne_s, slt_s, lens_s, lenx_0, lenx_s, not_b, bb_e, bb_n, cv_i, pe_00, pe_0p, pe_p0, eqB_e, eqB_n, List.getElem?_cons_zero, List.getElem?_cons_succ, Nat.zero_add, Bool.not_true, Bool.not_false, decide_true, decide_false, Int.reduceBEq, Int.reduceBNe, Int.reduceLT, Int.reduceLE, Int.reduceGT, Int.reduceGE, Int.reduceNeg, BEq.rfl, bne_self_eq_false, ge_iff_le, gt_iff_lt]
end Go.Proofs.YtdacjomfipkpaaaDoor.SgK
