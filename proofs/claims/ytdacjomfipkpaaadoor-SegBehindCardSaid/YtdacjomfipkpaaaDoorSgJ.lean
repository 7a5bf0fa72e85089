/- SegBehind over the symbolic heap. Conditions: what the listed variables hold. -/
import Derived.Test.YtdacjomfipkpaaaDoorSgI
namespace Go.Proofs.YtdacjomfipkpaaaDoor.SgK
open Go Am Am.K SgEnv
set_option linter.unusedVariables false
set_option linter.unusedSimpArgs false
theorem behind_loop {H0 : Hp} {x z : AV} {ms : List (Int × Int × List Nat)} (hm : Mk H0 x ms) (hb : ∀ m ∈ ms, MkOK m) (hl : ms.length ≤ 10) : ∀ (r : List (Int × Int × List Nat)) (i : Nat) (s : AV) (l : List Nat) (H : Hp), ms.drop i = r → Out [] H0 H → Rw H 1 s (bs l) → l.length ≤ i * 100 →
    (∃ H', ∀ k : K.Fn 3, l_outriderlaw6_SegBehind JN GO cK k x z s (.int .i64 (i : Nat)) H = some (.bool true, H')) ∨
    ∃ s' H', (∀ k : K.Fn 3, l_outriderlaw6_SegBehind JN GO cK k x z s (.int .i64 (i : Nat)) H = k x z s' H') ∧ Out [] H0 H' ∧ Rw H' 1 s' (bs (l ++ frs i (r.map (·.2.2)))) ∧ ∀ m ∈ r, m.2.2.length ≤ 60
  | [], i, s, l, H, hr, ho, hs, hle => by
    refine .inr ⟨s, H, fun k => ?_, ho, by rw [List.map_nil, frs, List.append_nil]; exact hs, fun m hm => by cases hm⟩
    have hxl := (hm.out ho).lenc
    have : ms.length ≤ i := by simpa using hr
    have d : decide (((i : Nat) : Int) < ((ms.length : Nat) : Int)) = false := decide_eq_false (by omega)
    rw [ql_outriderlaw6_SegBehind]
    simp only [hxl, d, JN_0, JN_1, JN_2, JN_3, JN_4, JN_5, JN_6, JN_7, JN_8, JN_9, JN_10, JN_11, JN_12, JN_13, JN_14, JN_15, JN_16, JN_17, JN_18, JN_19, JN_20, JN_21, JN_22, JN_23, JN_24, B1_s, B2_s, BN_s, CD_t, CD_f, GO_tt, GO_ft, GO_tf, GO_ff, GO_ut, GO_uf, GD2_tt, GD2_ft, GD2_tf, GD2_ff, pk_t, pk_f, nilA_p, nilA_i, fa_p, fd_a, ex_t, iadd_i, isub_i, imul_i, ieq_i, ine_i, ilt_i, ile_i, igt_i, ige_i, seq_s, sne_s, slt_s, lens_s, lenx_0, lenx_s, not_b, bb_e, bb_n, cv_i, pe_00, pe_0p, pe_p0, eqB_e, eqB_n, List.getElem?_cons_zero, List.getElem?_cons_succ, Nat.zero_add, Bool.not_true, Bool.not_false, decide_true, decide_false, Int.reduceBEq, Int.reduceBNe, Int.reduceLT, Int.reduceLE, Int.reduceGT, Int.reduceGE, Int.reduceNeg, BEq.rfl, bne_self_eq_false, ge_iff_le, gt_iff_lt]
  | m :: r, i, s, l, H, hr, ho, hs, hle => by
    obtain ⟨hi, hj, hr'⟩ := hd_drop hr
    have hxl := (hm.out ho).lenc
    have d : decide (((i : Nat) : Int) < ((ms.length : Nat) : Int)) = true := decide_eq_true (by omega)
    obtain ⟨a, o, y, u1, u2, u3, u4, u5⟩ := (hm.out ho).at hj .i64
    have hok := hb m (List.mem_of_getElem? hj)
    have hp := pack_c (H := H) 3 i (by decide) (by omega)
    rw [show (((3 : Nat) : Int)) = 3 from rfl] at hp
    have e0 : 3 * 17592186044416 + i = 52776558133248 + i := by omega
    rw [e0] at hp
    have hyl := u5.len1
    rw [bs_len] at hyl
    have fl2 := fl_rec u5 ((52776558133248 + i : Nat) : Int)
    by_cases hbig : 1024 < m.2.2.length
    · obtain ⟨H1, p1, p2⟩ := put_big (x := s) (s := ((52776558133248 + i : Nat) : Int)) u5 hbig
      obtain ⟨a', o', y', v1, v2, v3, v4, v5⟩ := (hm.out (ho.trans p2)).at hj .i64
      obtain ⟨rfl, rfl⟩ : a = a' ∧ o = o' := by have := u1.symm.trans v1; simpa using this
      have hyl' := v5.len1
      rw [bs_len] at hyl'
      have d60 : decide (60 < ((m.2.2.length : Nat) : Int)) = true := decide_eq_true (by omega)
      refine .inl ⟨H1, fun k => ?_⟩
      rw [ql_outriderlaw6_SegBehind]
      simp only [hxl, d, hp, u1, u4, fl2, p1, v1, v4, hyl', d60, JN_0, JN_1, JN_2, JN_3, JN_4, JN_5, JN_6, JN_7, JN_8, JN_9, JN_10, JN_11, JN_12, JN_13, JN_14, JN_15, JN_16, JN_17, JN_18, JN_19, JN_20, JN_21, JN_22, JN_23, JN_24, B1_s, B2_s, BN_s, CD_t, CD_f, GO_tt, GO_ft, GO_tf, GO_ff, GO_ut, GO_uf, GD2_tt, GD2_ft, GD2_tf, GD2_ff, pk_t, pk_f, nilA_p, nilA_i, fa_p, fd_a, ex_t, iadd_i, isub_i, imul_i, ieq_i, ine_i, ilt_i, ile_i, igt_i, ige_i, seq_s, sne_s, slt_s, lens_s, lenx_0, lenx_s, not_b, bb_e, bb_n, cv_i, pe_00, pe_0p, pe_p0, eqB_e, eqB_n, List.getElem?_cons_zero, List.getElem?_cons_succ, Nat.zero_add, Bool.not_true, Bool.not_false, decide_true, decide_false, Int.reduceBEq, Int.reduceBNe, Int.reduceLT, Int.reduceLE, Int.reduceGT, Int.reduceGE, Int.reduceNeg, BEq.rfl, bne_self_eq_false, ge_iff_le, gt_iff_lt]
    · obtain ⟨s', H1, p1, p2, p3, p4⟩ := put_c hs u5 (at' := 52776558133248 + i) (by omega) hok.2.2 (by omega) (by omega)
      obtain ⟨a', o', y', v1, v2, v3, v4, v5⟩ := (hm.out (ho.trans p2)).at hj .i64
      obtain ⟨rfl, rfl⟩ : a = a' ∧ o = o' := by have := u1.symm.trans v1; simpa using this
      have hyl' := v5.len1
      rw [bs_len] at hyl'
      by_cases h60 : 60 < m.2.2.length
      · have d60 : decide (60 < ((m.2.2.length : Nat) : Int)) = true := decide_eq_true (by omega)
        refine .inl ⟨H1, fun k => ?_⟩
        rw [ql_outriderlaw6_SegBehind]
        simp only [hxl, d, hp, u1, u4, fl2, p1, v1, v4, hyl', d60, JN_0, JN_1, JN_2, JN_3, JN_4, JN_5, JN_6, JN_7, JN_8, JN_9, JN_10, JN_11, JN_12, JN_13, JN_14, JN_15, JN_16, JN_17, JN_18, JN_19, JN_20, JN_21, JN_22, JN_23, JN_24, B1_s, B2_s, BN_s, CD_t, CD_f, GO_tt, GO_ft, GO_tf, GO_ff, GO_ut, GO_uf, GD2_tt, GD2_ft, GD2_tf, GD2_ff, pk_t, pk_f, nilA_p, nilA_i, fa_p, fd_a, ex_t, iadd_i, isub_i, imul_i, ieq_i, ine_i, ilt_i, ile_i, igt_i, ige_i, seq_s, sne_s, slt_s, lens_s, lenx_0, lenx_s, not_b, bb_e, bb_n, cv_i, pe_00, pe_0p, pe_p0, eqB_e, eqB_n, List.getElem?_cons_zero, List.getElem?_cons_succ, Nat.zero_add, Bool.not_true, Bool.not_false, decide_true, decide_false, Int.reduceBEq, Int.reduceBNe, Int.reduceLT, Int.reduceLE, Int.reduceGT, Int.reduceGE, Int.reduceNeg, BEq.rfl, bne_self_eq_false, ge_iff_le, gt_iff_lt]
      · have d60 : decide (60 < ((m.2.2.length : Nat) : Int)) = false := decide_eq_false (by omega)
        have e3 : IntKind.wrap .i64 (((i : Nat) : Int) + 1) = ((i + 1 : Nat) : Int) := by rw [wrap_i64 (by omega) (by omega)]; rfl
        have ih := behind_loop (z := z) hm hb hl r (i + 1) s' (l ++ fr (52776558133248 + i) m.2.2) H1 hr' (ho.trans p2) p3.rw (by rw [List.length_append, fr_len]; omega)
        rcases ih with ⟨H', ih⟩ | ⟨s2, H', ih, ih1, ih2, ih3⟩
        · refine .inl ⟨H', fun k => ?_⟩
          rw [ql_outriderlaw6_SegBehind]
          simp only [hxl, d, hp, u1, u4, fl2, p1, v1, v4, hyl', d60, e3, ih, JN_0, JN_1, JN_2, JN_3, JN_4, JN_5, JN_6, JN_7, JN_8, JN_9, JN_10, JN_11, JN_12, JN_13, JN_14, JN_15, JN_16, JN_17, JN_18, JN_19, JN_20, JN_21, JN_22, JN_23, JN_24, B1_s, B2_s, BN_s, CD_t, CD_f, GO_tt, GO_ft, GO_tf, GO_ff, GO_ut, GO_uf, GD2_tt, GD2_ft, GD2_tf, GD2_ff, pk_t, pk_f, nilA_p, nilA_i, fa_p, fd_a, ex_t, iadd_i, isub_i, imul_i, ieq_i, ine_i, ilt_i, ile_i, igt_i, ige_i, seq_s, sne_s, slt_s, lens_s, lenx_0, lenx_s, not_b, bb_e, bb_n, cv_i, pe_00, pe_0p, pe_p0, eqB_e, eqB_n, List.getElem?_cons_zero, List.getElem?_cons_succ, Nat.zero_add, Bool.not_true, Bool.not_false, decide_true, decide_false, Int.reduceBEq, Int.reduceBNe, Int.reduceLT, Int.reduceLE, Int.reduceGT, Int.reduceGE, Int.reduceNeg, BEq.rfl, bne_self_eq_false, ge_iff_le, gt_iff_lt]
        · refine .inr ⟨s2, H', fun k => ?_, ih1, ?_, ?_⟩
          · rw [ql_outriderlaw6_SegBehind]
            simp only [hxl, d, hp, u1, u4, fl2, p1, v1, v4, hyl', d60, e3, ih, JN_0, JN_1, JN_2, JN_3, JN_4, JN_5, JN_6, JN_7, JN_8, JN_9, JN_10, JN_11, JN_12, JN_13, JN_14, JN_15, JN_16, JN_17, JN_18, JN_19, JN_20, JN_21, JN_22, JN_23, JN_24, B1_s, B2_s, BN_s, CD_t, CD_f, GO_tt, GO_ft, GO_tf, GO_ff, GO_ut, GO_uf, GD2_tt, GD2_ft, GD2_tf, GD2_ff, pk_t, pk_f, nilA_p, nilA_i, fa_p, fd_a, ex_t, iadd_i, isub_i, imul_i, ieq_i, ine_i, ilt_i, ile_i, igt_i, ige_i, seq_s, sne_s, slt_s, lens_s, lenx_0, lenx_s, not_b, bb_e, bb_n, cv_i, pe_00, pe_0p, pe_p0, eqB_e, eqB_n, List.getElem?_cons_zero, List.getElem?_cons_succ, Nat.zero_add, Bool.not_true, Bool.not_false, decide_true, decide_false, Int.reduceBEq, Int.reduceBNe, Int.reduceLT, Int.reduceLE, Int.reduceGT, Int.reduceGE, Int.reduceNeg, BEq.rfl, bne_self_eq_false, ge_iff_le, gt_iff_lt]
          · rw [List.map_cons, frs, ← List.append_assoc]
            exact ih2
          · intro q hq
            rcases List.mem_cons.1 hq with rfl | hq
            · omega
            · exact ih3 q hq
theorem behind_loop1 {H : Hp} {x s : AV} {ms : List (Int × Int × List Nat)} {rs : List (Nat × List Nat)} {ys : List AV} (hm : Mk H x ms) (hb : ∀ m ∈ ms, MkOK m) (hs : Rs H s (rcM 0 (ms.map (·.2.2)) ++ rs) ys) (hl : ms.length ≤ 10) (k : K.Fn 0) : ∀ (r : List (Int × Int × List Nat)) (i : Nat), ms.drop i = r →
    l_outriderlaw6_SegBehind1 JN GO cK k x s (.int .i64 (i : Nat)) H = k H
  | [], i, hr => by
    have hxl := hm.lenc
    have : ms.length ≤ i := by simpa using hr
    have d : decide (((i : Nat) : Int) < ((ms.length : Nat) : Int)) = false := decide_eq_false (by omega)
    rw [ql_outriderlaw6_SegBehind1]
    simp only [hxl, d, JN_0, JN_1, JN_2, JN_3, JN_4, JN_5, JN_6, JN_7, JN_8, JN_9, JN_10, JN_11, JN_12, JN_13, JN_14, JN_15, JN_16, JN_17, JN_18, JN_19, JN_20, JN_21, JN_22, JN_23, JN_24, B1_s, B2_s, BN_s, CD_t, CD_f, GO_tt, GO_ft, GO_tf, GO_ff, GO_ut, GO_uf, GD2_tt, GD2_ft, GD2_tf, GD2_ff, pk_t, pk_f, nilA_p, nilA_i, fa_p, fd_a, ex_t, iadd_i, isub_i, imul_i, ieq_i, ine_i, ilt_i, ile_i, igt_i, ige_i, seq_s, sne_s, slt_s, lens_s, lenx_0, lenx_s, not_b, bb_e, bb_n, cv_i, pe_00, pe_0p, pe_p0, eqB_e, eqB_n, List.getElem?_cons_zero, List.getElem?_cons_succ, Nat.zero_add, Bool.not_true, Bool.not_false, decide_true, decide_false, Int.reduceBEq, Int.reduceBNe, Int.reduceLT, Int.reduceLE, Int.reduceGT, Int.reduceGE, Int.reduceNeg, BEq.rfl, bne_self_eq_false, ge_iff_le, gt_iff_lt]
  | m :: r, i, hr => by
    obtain ⟨hi, hj, hr'⟩ := hd_drop hr
    have hxl := hm.lenc
    have d : decide (((i : Nat) : Int) < ((ms.length : Nat) : Int)) = true := decide_eq_true (by omega)
    obtain ⟨a, o, y, u1, u2, u3, u4, u5⟩ := hm.at hj .i64
    have hok := hb m (List.mem_of_getElem? hj)
    have hq : (rcM 0 (ms.map (·.2.2)) ++ rs)[i]? = some (52776558133248 + i, m.2.2) := by
      rw [List.getElem?_append_left (by rw [rcM_len, List.length_map]; exact hi)]
      have := rcM_get (ms.map (·.2.2)) 0 i m.2.2 (by rw [List.getElem?_map, hj]; rfl)
      rw [Nat.zero_add] at this
      exact this
    obtain ⟨a', o', y', w1, w2, w3, w4⟩ := hs.at hq .i64
    have b1 := b2s_ok u5 hok.2.2
    have b2 := b2s_ok w4 hok.2.2
    have e1 : (m.2.2 == m.2.2) = true := by simp
    have f1 := off_c (H := H) (52776558133248 + i) (by omega)
    have f2 := epoch_c (H := H) (52776558133248 + i) (by omega)
    rw [show (52776558133248 + i) % 17592186044416 = i by omega] at f1
    rw [show (52776558133248 + i) / 17592186044416 = 3 by omega, show (((3 : Nat) : Int)) = 3 from rfl] at f2
    have e3 : IntKind.wrap .i64 (((i : Nat) : Int) + 1) = ((i + 1 : Nat) : Int) := by rw [wrap_i64 (by omega) (by omega)]; rfl
    have ih := behind_loop1 hm hb hs hl k r (i + 1) hr'
    simp only at w2 w4 b2
    rw [ql_outriderlaw6_SegBehind1]
    simp only [hxl, d, u1, u4, b1, w1, w3, b2, e1, w2, f1, f2, e3, ih, JN_0, JN_1, JN_2, JN_3, JN_4, JN_5, JN_6, JN_7, JN_8, JN_9, JN_10, JN_11, JN_12, JN_13, JN_14, JN_15, JN_16, JN_17, JN_18, JN_19, JN_20, JN_21, JN_22, JN_23, JN_24, B1_s, B2_s, BN_s, CD_t, CD_f, GO_tt, GO_ft, GO_tf, GO_ff, GO_ut, GO_uf, GD2_tt, GD2_ft, GD2_tf, GD2_ff, pk_t, pk_f, nilA_p, nilA_i, fa_p, fd_a, ex_t, iadd_i, isub_i, imul_i, ieq_i, ine_i, ilt_i, ile_i, igt_i, ige_i, seq_s, sne_s, slt_s, lens_s, lenx_0, lenx_s, not_b, bb_e, bb_n, cv_i, pe_00, pe_0p, pe_p0, eqB_e, eqB_n, List.getElem?_cons_zero, List.getElem?_cons_succ, Nat.zero_add, Bool.not_true, Bool.not_false, decide_true, decide_false, Int.reduceBEq, Int.reduceBNe, Int.reduceLT, Int.reduceLE, Int.reduceGT, Int.reduceGE, Int.reduceNeg, BEq.rfl, bne_self_eq_false, ge_iff_le, gt_iff_lt]
theorem behind_law {H : Hp} {x z : AV} {ms : List (Int × Int × List Nat)} {b : List Nat} (hm : Mk H x ms) (hk : ∀ m ∈ ms, MkOK m) (hz : Rw H 1 z (bs b)) (hb : ∀ v ∈ b, v < 256) (hT : hasT H begin0) (hn : 9 ≤ H.next) :
    ∃ H', cK (.func (.func 6) [] []) [x, z] H = some (.bool true, H') := by
  have hA := awake_c an hT hn
  have hxl := hm.lenc
  have hzl := hz.len1
  rw [bs_len] at hzl
  by_cases h1 : 10 < ms.length
  · have d1 : decide (10 < ((ms.length : Nat) : Int)) = true := decide_eq_true (by omega)
    refine ⟨H, c_outriderlaw6_SegBehind ?_⟩
    unfold s_outriderlaw6_SegBehind
    simp only [hA, hxl, d1, JN_0, JN_1, JN_2, JN_3, JN_4, JN_5, JN_6, JN_7, JN_8, JN_9, JN_10, JN_11, JN_12, JN_13, JN_14, JN_15, JN_16, JN_17, JN_18, JN_19, JN_20, JN_21, JN_22, JN_23, JN_24, B1_s, B2_s, BN_s, CD_t, CD_f, GO_tt, GO_ft, GO_tf, GO_ff, GO_ut, GO_uf, GD2_tt, GD2_ft, GD2_tf, GD2_ff, pk_t, pk_f, nilA_p, nilA_i, fa_p, fd_a, ex_t, iadd_i, isub_i, imul_i, ieq_i, ine_i, ilt_i, ile_i, igt_i, ige_i, seq_s, sne_s, slt_s, lens_s, lenx_0, lenx_s, not_b, bb_e, bb_n, cv_i, pe_00, pe_0p, pe_p0, eqB_e, eqB_n, List.getElem?_cons_zero, List.getElem?_cons_succ, Nat.zero_add, Bool.not_true, Bool.not_false, decide_true, decide_false, Int.reduceBEq, Int.reduceBNe, Int.reduceLT, Int.reduceLE, Int.reduceGT, Int.reduceGE, Int.reduceNeg, BEq.rfl, bne_self_eq_false, ge_iff_le, gt_iff_lt]
  have d1 : decide (10 < ((ms.length : Nat) : Int)) = false := decide_eq_false (by omega)
  by_cases h2 : 300 < b.length
  · have d2 : decide (300 < ((b.length : Nat) : Int)) = true := decide_eq_true (by omega)
    refine ⟨H, c_outriderlaw6_SegBehind ?_⟩
    unfold s_outriderlaw6_SegBehind
    simp only [hA, hxl, d1, hzl, d2, JN_0, JN_1, JN_2, JN_3, JN_4, JN_5, JN_6, JN_7, JN_8, JN_9, JN_10, JN_11, JN_12, JN_13, JN_14, JN_15, JN_16, JN_17, JN_18, JN_19, JN_20, JN_21, JN_22, JN_23, JN_24, B1_s, B2_s, BN_s, CD_t, CD_f, GO_tt, GO_ft, GO_tf, GO_ff, GO_ut, GO_uf, GD2_tt, GD2_ft, GD2_tf, GD2_ff, pk_t, pk_f, nilA_p, nilA_i, fa_p, fd_a, ex_t, iadd_i, isub_i, imul_i, ieq_i, ine_i, ilt_i, ile_i, igt_i, ige_i, seq_s, sne_s, slt_s, lens_s, lenx_0, lenx_s, not_b, bb_e, bb_n, cv_i, pe_00, pe_0p, pe_p0, eqB_e, eqB_n, List.getElem?_cons_zero, List.getElem?_cons_succ, Nat.zero_add, Bool.not_true, Bool.not_false, decide_true, decide_false, Int.reduceBEq, Int.reduceBNe, Int.reduceLT, Int.reduceLE, Int.reduceGT, Int.reduceGE, Int.reduceNeg, BEq.rfl, bne_self_eq_false, ge_iff_le, gt_iff_lt]
  have d2 : decide (300 < ((b.length : Nat) : Int)) = false := decide_eq_false (by omega)
  rcases behind_loop (z := z) hm hk (by omega) ms 0 .slice0 [] H rfl (Out.refl _ _) .nil (Nat.zero_le _) with ⟨H1, q1⟩ | ⟨s, H1, q1, q2, q3, q4⟩
  · rw [show (((0 : Nat) : Int)) = 0 from rfl] at q1
    refine ⟨H1, c_outriderlaw6_SegBehind ?_⟩
    unfold s_outriderlaw6_SegBehind
    simp only [hA, hxl, d1, hzl, d2, q1, JN_0, JN_1, JN_2, JN_3, JN_4, JN_5, JN_6, JN_7, JN_8, JN_9, JN_10, JN_11, JN_12, JN_13, JN_14, JN_15, JN_16, JN_17, JN_18, JN_19, JN_20, JN_21, JN_22, JN_23, JN_24, B1_s, B2_s, BN_s, CD_t, CD_f, GO_tt, GO_ft, GO_tf, GO_ff, GO_ut, GO_uf, GD2_tt, GD2_ft, GD2_tf, GD2_ff, pk_t, pk_f, nilA_p, nilA_i, fa_p, fd_a, ex_t, iadd_i, isub_i, imul_i, ieq_i, ine_i, ilt_i, ile_i, igt_i, ige_i, seq_s, sne_s, slt_s, lens_s, lenx_0, lenx_s, not_b, bb_e, bb_n, cv_i, pe_00, pe_0p, pe_p0, eqB_e, eqB_n, List.getElem?_cons_zero, List.getElem?_cons_succ, Nat.zero_add, Bool.not_true, Bool.not_false, decide_true, decide_false, Int.reduceBEq, Int.reduceBNe, Int.reduceLT, Int.reduceLE, Int.reduceGT, Int.reduceGE, Int.reduceNeg, BEq.rfl, bne_self_eq_false, ge_iff_le, gt_iff_lt]
  rw [show (((0 : Nat) : Int)) = 0 from rfl] at q1
  rw [List.nil_append] at q3
  have hle : ∀ m ∈ ms.map (·.2.2), m.length ≤ 60 := fun m h => by
    obtain ⟨q, h', rfl⟩ := List.mem_map.1 h
    exact q4 q h'
  have hby : ∀ m ∈ ms.map (·.2.2), ∀ v ∈ m, v < 256 := fun m h => by
    obtain ⟨q, h', rfl⟩ := List.mem_map.1 h
    exact (hk q h').2.2
  have hfb := frs_byte (ms.map (·.2.2)) 0 hby
  have hfl := frs_len (ms.map (·.2.2)) 0 hle
  rw [List.length_map] at hfl
  obtain ⟨rs, n', hsc⟩ := scan_frs (ms.map (·.2.2)) (frs 0 (ms.map (·.2.2)) ++ b).length 0 0 b (fun m h => Nat.le_trans (hle m h) (by decide)) (by
    have : ∀ (l : List (List Nat)) (i : Nat), l.length ≤ (frs i l).length := by
      intro l
      induction l with
      | nil => intro i; exact Nat.zero_le _
      | cons m l ih =>
        intro i
        have := ih (i + 1)
        rw [frs, List.length_append, fr_len, List.length_cons]
        omega
    have := this (ms.map (·.2.2)) 0
    rw [List.length_append]
    omega) (by rw [List.length_map]; omega) (by decide)
  have hml : (ms.map (·.2.2)).length = ms.length := List.length_map ..
  have hrl := rcM_len 0 (ms.map (·.2.2))
  have hlp := fun {s : AV} {rs : List (Nat × List Nat)} {ys : List AV} {H' : Hp} (hm : Mk H' x ms) (hs : Rs H' s (rcM 0 (ms.map (·.2.2)) ++ rs) ys) (k : K.Fn 0) => behind_loop1 hm hk hs (by omega) k ms 0 rfl
  generalize frs 0 (ms.map (·.2.2)) = L at *
  generalize rcM 0 (ms.map (·.2.2)) = M at *
  have hsl := q3.len1
  rw [bs_len] at hsl
  obtain ⟨H2, n1, n2, n3, n4⟩ := newCells_ok H1 [] 5 0 (by simp)
  obtain ⟨y1, H3, a1, a2, a3, a4⟩ := append_ok (z := [.int .u8 0]) (s := .slice H1.next 0 0 0 true 1) (l := []) (el := 5) .emp (q3.out n3 fun j _ q => by cases q) (bs_one _) (by omega) (by rw [bs_len, List.length_nil]; omega)
  have r0 : rid (.slice H1.next 0 0 0 true 1) = [] := rfl
  rw [r0] at a3 a4
  have o3 : Out [] H H3 := (q2.trans n3).trans a3
  obtain ⟨y2, H4, c1, c2, c3, c4⟩ := append_ok (z := [.int .u8 0]) a2 (hz.out o3 fun j _ q => by cases q) (bs_one _) (by omega) (by rw [List.nil_append, bs_len, bs_len]; omega)
  rw [List.nil_append, ← bs_app] at c2
  have o4 : Out [] H H4 := o3.then c3 fun j hj => .inr ((a4 j hj).elim (fun q => by cases q) fun q => Nat.le_trans (q2.trans n3).1 q)
  obtain ⟨r, ys, H5, e1, e2, e3, e4⟩ := scan_c c2.rw (fun v hv => (List.mem_append.1 hv).elim (hfb v) (hb v)) (by rw [List.length_append]; omega) 0 0
  rw [show (((0 : Nat) : Int)) = 0 from rfl] at hsc
  rw [hsc] at e1 e3
  simp only at e1 e3
  have o5 : Out [] H H5 := o4.trans e2
  have hm5 := hm.out o5
  have hrl5 := e3.lenc
  rw [List.length_append] at hrl5
  have d3 : decide (((M.length + rs.length : Nat) : Int) < ((ms.length : Nat) : Int)) = false := decide_eq_false (by omega)
  have d4 : decide (((L.length + n' : Nat) : Int) < ((L.length : Nat) : Int)) = false := decide_eq_false (by omega)
  have lp := hlp hm5 e3
  rw [show (((0 : Nat) : Int)) = 0 from rfl] at lp
  refine ⟨H5, c_outriderlaw6_SegBehind ?_⟩
  unfold s_outriderlaw6_SegBehind
  simp only [hA, hxl, d1, hzl, d2, q1, fl_nil, n1, a1, c1, e1, hrl5, d3, hsl, d4, lp, JN_0, JN_1, JN_2, JN_3, JN_4, JN_5, JN_6, JN_7, JN_8, JN_9, JN_10, JN_11, JN_12, JN_13, JN_14, JN_15, JN_16, JN_17, JN_18, JN_19, JN_20, JN_21, JN_22, JN_23, JN_24, B1_s, B2_s, BN_s, CD_t, CD_f, GO_tt, GO_ft, GO_tf, GO_ff, GO_ut, GO_uf, GD2_tt, GD2_ft, GD2_tf, GD2_ff, pk_t, pk_f, nilA_p, nilA_i, fa_p, fd_a, ex_t, iadd_i, isub_i, imul_i, ieq_i, ine_i, ilt_i, ile_i, igt_i, ige_i, seq_s, sne_s, slt_s, lens_s, lenx_0, lenx_s, not_b, bb_e, bb_n, cv_i, pe_00, pe_0p, pe_p0, eqB_e, eqB_n, List.getElem?_cons_zero, List.getElem?_cons_succ, Nat.zero_add, Bool.not_true, Bool.not_false, decide_true, decide_false, Int.reduceBEq, Int.reduceBNe, Int.reduceLT, Int.reduceLE, Int.reduceGT, Int.reduceGE, Int.reduceNeg, BEq.rfl, bne_self_eq_false, ge_iff_le, gt_iff_lt]
theorem behind_top {H : Hp} {as' : List AV} {ds : List D} (h : ArgsIs H [.slice 3 MarkTy, .slice 1 (.int .u8)] as' ds) (hT : hasT H begin0) (hn : 9 ≤ H.next) :
    ∃ H', cK (.func (.func 6) [] []) as' H = some (.bool true, H') := by
  cases h with
  | cons h0 h =>
  cases h with
  | cons h1 h =>
  cases h
  obtain ⟨ms, hm, hk⟩ := marks_of (isA_row h0)
  obtain ⟨b, hz, hb⟩ := isA_bytes h1
  exact behind_law hm hk hz hb hT hn
end Go.Proofs.YtdacjomfipkpaaaDoor.SgK
