/- SegScans over the symbolic heap. Conditions: what the listed variables hold. -/
import Derived.Test.YtdacjomfipkpaaaDoorSgT
namespace Go.Proofs.YtdacjomfipkpaaaDoor.SgK
open Go Am Am.K SgEnv
set_option linter.unusedVariables false
set_option linter.unusedSimpArgs false
theorem pack_f {H : Hp} {e o : Int} (h : ¬ (0 ≤ e ∧ e ≤ 1048575 ∧ 0 ≤ o ∧ o ≤ 17592186044415)) : cK (.func (.func 17) [] []) [.int .i64 e, .int .i64 o] H = some (.tuple [.int .u64 0, .bool false], H) := by
  refine c_stamp_Pack ?_
  unfold s_stamp_Pack
  by_cases h1 : e < 0
  · have d1 : decide (e < 0) = true := decide_eq_true h1
    simp only [d1, JN_0, JN_1, JN_2, JN_3, JN_4, JN_5, JN_6, JN_7, JN_8, JN_9, JN_10, JN_11, JN_12, JN_13, JN_14, JN_15, JN_16, JN_17, JN_18, JN_19, JN_20, JN_21, JN_22, JN_23, JN_24, B1_s, B2_s, BN_s, CD_t, CD_f, GO_tt, GO_ft, GO_tf, GO_ff, GO_ut, GO_uf, GD2_tt, GD2_ft, GD2_tf, GD2_ff, pk_t, pk_f, nilA_p, nilA_i, fa_p, fd_a, ex_t, iadd_i, isub_i, imul_i, ieq_i, ine_i, ilt_i, ile_i, igt_i, ige_i, seq_s, sne_s, slt_s, lens_s, lenx_0, lenx_s, not_b, bb_e, bb_n, cv_i, pe_00, pe_0p, pe_p0, eqB_e, eqB_n, List.getElem?_cons_zero, List.getElem?_cons_succ, Nat.zero_add, Bool.not_true, Bool.not_false, decide_true, decide_false, Int.reduceBEq, Int.reduceBNe, Int.reduceLT, Int.reduceLE, Int.reduceGT, Int.reduceGE, Int.reduceNeg, BEq.rfl, bne_self_eq_false, ge_iff_le, gt_iff_lt]
  have d1 : decide (e < 0) = false := decide_eq_false h1
  by_cases h2 : 1048575 < e
  · have d2 : decide (1048575 < e) = true := decide_eq_true h2
    simp only [d1, d2, JN_0, JN_1, JN_2, JN_3, JN_4, JN_5, JN_6, JN_7, JN_8, JN_9, JN_10, JN_11, JN_12, JN_13, JN_14, JN_15, JN_16, JN_17, JN_18, JN_19, JN_20, JN_21, JN_22, JN_23, JN_24, B1_s, B2_s, BN_s, CD_t, CD_f, GO_tt, GO_ft, GO_tf, GO_ff, GO_ut, GO_uf, GD2_tt, GD2_ft, GD2_tf, GD2_ff, pk_t, pk_f, nilA_p, nilA_i, fa_p, fd_a, ex_t, iadd_i, isub_i, imul_i, ieq_i, ine_i, ilt_i, ile_i, igt_i, ige_i, seq_s, sne_s, slt_s, lens_s, lenx_0, lenx_s, not_b, bb_e, bb_n, cv_i, pe_00, pe_0p, pe_p0, eqB_e, eqB_n, List.getElem?_cons_zero, List.getElem?_cons_succ, Nat.zero_add, Bool.not_true, Bool.not_false, decide_true, decide_false, Int.reduceBEq, Int.reduceBNe, Int.reduceLT, Int.reduceLE, Int.reduceGT, Int.reduceGE, Int.reduceNeg, BEq.rfl, bne_self_eq_false, ge_iff_le, gt_iff_lt]
  have d2 : decide (1048575 < e) = false := decide_eq_false h2
  by_cases h3 : o < 0
  · have d3 : decide (o < 0) = true := decide_eq_true h3
    simp only [d1, d2, d3, JN_0, JN_1, JN_2, JN_3, JN_4, JN_5, JN_6, JN_7, JN_8, JN_9, JN_10, JN_11, JN_12, JN_13, JN_14, JN_15, JN_16, JN_17, JN_18, JN_19, JN_20, JN_21, JN_22, JN_23, JN_24, B1_s, B2_s, BN_s, CD_t, CD_f, GO_tt, GO_ft, GO_tf, GO_ff, GO_ut, GO_uf, GD2_tt, GD2_ft, GD2_tf, GD2_ff, pk_t, pk_f, nilA_p, nilA_i, fa_p, fd_a, ex_t, iadd_i, isub_i, imul_i, ieq_i, ine_i, ilt_i, ile_i, igt_i, ige_i, seq_s, sne_s, slt_s, lens_s, lenx_0, lenx_s, not_b, bb_e, bb_n, cv_i, pe_00, pe_0p, pe_p0, eqB_e, eqB_n, List.getElem?_cons_zero, List.getElem?_cons_succ, Nat.zero_add, Bool.not_true, Bool.not_false, decide_true, decide_false, Int.reduceBEq, Int.reduceBNe, Int.reduceLT, Int.reduceLE, Int.reduceGT, Int.reduceGE, Int.reduceNeg, BEq.rfl, bne_self_eq_false, ge_iff_le, gt_iff_lt]
  have d3 : decide (o < 0) = false := decide_eq_false h3
  have d4 : decide (17592186044415 < o) = true := decide_eq_true (by omega)
  simp only [d1, d2, d3, d4, JN_0, JN_1, JN_2, JN_3, JN_4, JN_5, JN_6, JN_7, JN_8, JN_9, JN_10, JN_11, JN_12, JN_13, JN_14, JN_15, JN_16, JN_17, JN_18, JN_19, JN_20, JN_21, JN_22, JN_23, JN_24, B1_s, B2_s, BN_s, CD_t, CD_f, GO_tt, GO_ft, GO_tf, GO_ff, GO_ut, GO_uf, GD2_tt, GD2_ft, GD2_tf, GD2_ff, pk_t, pk_f, nilA_p, nilA_i, fa_p, fd_a, ex_t, iadd_i, isub_i, imul_i, ieq_i, ine_i, ilt_i, ile_i, igt_i, ige_i, seq_s, sne_s, slt_s, lens_s, lenx_0, lenx_s, not_b, bb_e, bb_n, cv_i, pe_00, pe_0p, pe_p0, eqB_e, eqB_n, List.getElem?_cons_zero, List.getElem?_cons_succ, Nat.zero_add, Bool.not_true, Bool.not_false, decide_true, decide_false, Int.reduceBEq, Int.reduceBNe, Int.reduceLT, Int.reduceLE, Int.reduceGT, Int.reduceGE, Int.reduceNeg, BEq.rfl, bne_self_eq_false, ge_iff_le, gt_iff_lt]
theorem fr_byte {a : Nat} {m : List Nat} (h : ∀ v ∈ m, v < 256) : ∀ v ∈ fr a m, v < 256 := by
  intro v hv
  unfold fr at hv
  rcases List.mem_append.1 hv with h' | h'
  · rcases List.mem_append.1 h' with h' | h'
    · exact hd12_byte _ _ v h'
    · exact le_byte _ _ v h'
  · exact h v h'
theorem scans_loop {H0 : Hp} {x z1 z2 z3 : AV} {ms : List (Int × Int × List Nat)} (hm : Mk H0 x ms) (hb : ∀ m ∈ ms, MkOK m) (hl : ms.length ≤ 15) : ∀ (r : List (Int × Int × List Nat)) (i : Nat) (s : AV) (l : List Nat) (H : Hp), ms.drop i = r → i ≤ ms.length → Out [] H0 H → Rw H 1 s (bs l) → (∀ v ∈ l, v < 256) → l.length ≤ i * 100 →
    (∃ H', ∀ k : K.Fn 4, l_outriderlaw6_SegScans JN GO cK k x z1 z2 z3 s (.int .i64 (i : Nat)) H = some (.bool true, H')) ∨
    ∃ s' b H', (∀ k : K.Fn 4, l_outriderlaw6_SegScans JN GO cK k x z1 z2 z3 s (.int .i64 (i : Nat)) H = k z1 z2 z3 s' H') ∧ Out [] H0 H' ∧ Rw H' 1 s' (bs b) ∧ (∀ v ∈ b, v < 256) ∧ b.length ≤ 1500
  | [], i, s, l, H, hr, hii, ho, hs, hlb, hle => by
    have : ms.length ≤ i := by simpa using hr
    refine .inr ⟨s, l, H, fun k => ?_, ho, hs, hlb, by omega⟩
    have hxl := (hm.out ho).lenc
    have d : decide (((i : Nat) : Int) < ((ms.length : Nat) : Int)) = false := decide_eq_false (by omega)
    rw [ql_outriderlaw6_SegScans]
    simp only [hxl, d, JN_0, JN_1, JN_2, JN_3, JN_4, JN_5, JN_6, JN_7, JN_8, JN_9, JN_10, JN_11, JN_12, JN_13, JN_14, JN_15, JN_16, JN_17, JN_18, JN_19, JN_20, JN_21, JN_22, JN_23, JN_24, B1_s, B2_s, BN_s, CD_t, CD_f, GO_tt, GO_ft, GO_tf, GO_ff, GO_ut, GO_uf, GD2_tt, GD2_ft, GD2_tf, GD2_ff, pk_t, pk_f, nilA_p, nilA_i, fa_p, fd_a, ex_t, iadd_i, isub_i, imul_i, ieq_i, ine_i, ilt_i, ile_i, igt_i, ige_i, seq_s, sne_s, slt_s, lens_s, lenx_0, lenx_s, not_b, bb_e, bb_n, cv_i, pe_00, pe_0p, pe_p0, eqB_e, eqB_n, List.getElem?_cons_zero, List.getElem?_cons_succ, Nat.zero_add, Bool.not_true, Bool.not_false, decide_true, decide_false, Int.reduceBEq, Int.reduceBNe, Int.reduceLT, Int.reduceLE, Int.reduceGT, Int.reduceGE, Int.reduceNeg, BEq.rfl, bne_self_eq_false, ge_iff_le, gt_iff_lt]
  | m :: r, i, s, l, H, hr, hii, ho, hs, hlb, hle => by
    obtain ⟨hi, hj, hr'⟩ := hd_drop hr
    have hxl := (hm.out ho).lenc
    have d : decide (((i : Nat) : Int) < ((ms.length : Nat) : Int)) = true := decide_eq_true (by omega)
    obtain ⟨a, o, y, u1, u2, u3, u4, u5⟩ := (hm.out ho).at hj .i64
    have hok := hb m (List.mem_of_getElem? hj)
    have hyl := u5.len1
    rw [bs_len] at hyl
    by_cases hp : 0 ≤ m.1 ∧ m.1 ≤ 1048575 ∧ 0 ≤ m.2.1 ∧ m.2.1 ≤ 17592186044415
    · obtain ⟨e, he⟩ := Int.eq_ofNat_of_zero_le hp.1
      obtain ⟨f, hf⟩ := Int.eq_ofNat_of_zero_le hp.2.2.1
      rw [he] at u2 hp
      rw [hf] at u3 hp
      have hpk := pack_c (H := H) e f (by omega) (by omega)
      by_cases h60 : 60 < m.2.2.length
      · have d60 : decide (60 < ((m.2.2.length : Nat) : Int)) = true := decide_eq_true (by omega)
        refine .inl ⟨H, fun k => ?_⟩
        rw [ql_outriderlaw6_SegScans]
        simp only [hxl, d, u1, u2, u3, hpk, u4, hyl, d60, JN_0, JN_1, JN_2, JN_3, JN_4, JN_5, JN_6, JN_7, JN_8, JN_9, JN_10, JN_11, JN_12, JN_13, JN_14, JN_15, JN_16, JN_17, JN_18, JN_19, JN_20, JN_21, JN_22, JN_23, JN_24, B1_s, B2_s, BN_s, CD_t, CD_f, GO_tt, GO_ft, GO_tf, GO_ff, GO_ut, GO_uf, GD2_tt, GD2_ft, GD2_tf, GD2_ff, pk_t, pk_f, nilA_p, nilA_i, fa_p, fd_a, ex_t, iadd_i, isub_i, imul_i, ieq_i, ine_i, ilt_i, ile_i, igt_i, ige_i, seq_s, sne_s, slt_s, lens_s, lenx_0, lenx_s, not_b, bb_e, bb_n, cv_i, pe_00, pe_0p, pe_p0, eqB_e, eqB_n, List.getElem?_cons_zero, List.getElem?_cons_succ, Nat.zero_add, Bool.not_true, Bool.not_false, decide_true, decide_false, Int.reduceBEq, Int.reduceBNe, Int.reduceLT, Int.reduceLE, Int.reduceGT, Int.reduceGE, Int.reduceNeg, BEq.rfl, bne_self_eq_false, ge_iff_le, gt_iff_lt]
      · have d60 : decide (60 < ((m.2.2.length : Nat) : Int)) = false := decide_eq_false (by omega)
        have fl2 := fl_rec u5 ((e * 17592186044416 + f : Nat) : Int)
        obtain ⟨s', H1, p1, p2, p3, p4⟩ := put_c hs u5 (at' := e * 17592186044416 + f) (by omega) hok.2.2 (by omega) (by omega)
        have e3 : IntKind.wrap .i64 (((i : Nat) : Int) + 1) = ((i + 1 : Nat) : Int) := by rw [wrap_i64 (by omega) (by omega)]; rfl
        have ih := scans_loop (z1 := z1) (z2 := z2) (z3 := z3) hm hb hl r (i + 1) s' (l ++ fr (e * 17592186044416 + f) m.2.2) H1 hr' (by omega) (ho.trans p2) p3.rw (fun v hv => (List.mem_append.1 hv).elim (hlb v) (fr_byte hok.2.2 v)) (by rw [List.length_append, fr_len]; omega)
        rcases ih with ⟨H', ih⟩ | ⟨s2, b, H', ih, ih1, ih2, ih3⟩
        · refine .inl ⟨H', fun k => ?_⟩
          rw [ql_outriderlaw6_SegScans]
          simp only [hxl, d, u1, u2, u3, hpk, u4, hyl, d60, fl2, p1, e3, ih, JN_0, JN_1, JN_2, JN_3, JN_4, JN_5, JN_6, JN_7, JN_8, JN_9, JN_10, JN_11, JN_12, JN_13, JN_14, JN_15, JN_16, JN_17, JN_18, JN_19, JN_20, JN_21, JN_22, JN_23, JN_24, B1_s, B2_s, BN_s, CD_t, CD_f, GO_tt, GO_ft, GO_tf, GO_ff, GO_ut, GO_uf, GD2_tt, GD2_ft, GD2_tf, GD2_ff, pk_t, pk_f, nilA_p, nilA_i, fa_p, fd_a, ex_t, iadd_i, isub_i, imul_i, ieq_i, ine_i, ilt_i, ile_i, igt_i, ige_i, seq_s, sne_s, slt_s, lens_s, lenx_0, lenx_s, not_b, bb_e, bb_n, cv_i, pe_00, pe_0p, pe_p0, eqB_e, eqB_n, List.getElem?_cons_zero, List.getElem?_cons_succ, Nat.zero_add, Bool.not_true, Bool.not_false, decide_true, decide_false, Int.reduceBEq, Int.reduceBNe, Int.reduceLT, Int.reduceLE, Int.reduceGT, Int.reduceGE, Int.reduceNeg, BEq.rfl, bne_self_eq_false, ge_iff_le, gt_iff_lt]
        · refine .inr ⟨s2, b, H', fun k => ?_, ih1, ih2, ih3⟩
          rw [ql_outriderlaw6_SegScans]
          simp only [hxl, d, u1, u2, u3, hpk, u4, hyl, d60, fl2, p1, e3, ih, JN_0, JN_1, JN_2, JN_3, JN_4, JN_5, JN_6, JN_7, JN_8, JN_9, JN_10, JN_11, JN_12, JN_13, JN_14, JN_15, JN_16, JN_17, JN_18, JN_19, JN_20, JN_21, JN_22, JN_23, JN_24, B1_s, B2_s, BN_s, CD_t, CD_f, GO_tt, GO_ft, GO_tf, GO_ff, GO_ut, GO_uf, GD2_tt, GD2_ft, GD2_tf, GD2_ff, pk_t, pk_f, nilA_p, nilA_i, fa_p, fd_a, ex_t, iadd_i, isub_i, imul_i, ieq_i, ine_i, ilt_i, ile_i, igt_i, ige_i, seq_s, sne_s, slt_s, lens_s, lenx_0, lenx_s, not_b, bb_e, bb_n, cv_i, pe_00, pe_0p, pe_p0, eqB_e, eqB_n, List.getElem?_cons_zero, List.getElem?_cons_succ, Nat.zero_add, Bool.not_true, Bool.not_false, decide_true, decide_false, Int.reduceBEq, Int.reduceBNe, Int.reduceLT, Int.reduceLE, Int.reduceGT, Int.reduceGE, Int.reduceNeg, BEq.rfl, bne_self_eq_false, ge_iff_le, gt_iff_lt]
    · have hpk := pack_f (H := H) hp
      refine .inl ⟨H, fun k => ?_⟩
      rw [ql_outriderlaw6_SegScans]
      simp only [hxl, d, u1, u2, u3, hpk, JN_0, JN_1, JN_2, JN_3, JN_4, JN_5, JN_6, JN_7, JN_8, JN_9, JN_10, JN_11, JN_12, JN_13, JN_14, JN_15, JN_16, JN_17, JN_18, JN_19, JN_20, JN_21, JN_22, JN_23, JN_24, B1_s, B2_s, BN_s, CD_t, CD_f, GO_tt, GO_ft, GO_tf, GO_ff, GO_ut, GO_uf, GD2_tt, GD2_ft, GD2_tf, GD2_ff, pk_t, pk_f, nilA_p, nilA_i, fa_p, fd_a, ex_t, iadd_i, isub_i, imul_i, ieq_i, ine_i, ilt_i, ile_i, igt_i, ige_i, seq_s, sne_s, slt_s, lens_s, lenx_0, lenx_s, not_b, bb_e, bb_n, cv_i, pe_00, pe_0p, pe_p0, eqB_e, eqB_n, List.getElem?_cons_zero, List.getElem?_cons_succ, Nat.zero_add, Bool.not_true, Bool.not_false, decide_true, decide_false, Int.reduceBEq, Int.reduceBNe, Int.reduceLT, Int.reduceLE, Int.reduceGT, Int.reduceGE, Int.reduceNeg, BEq.rfl, bne_self_eq_false, ge_iff_le, gt_iff_lt]
theorem scans_loop1 {H : Hp} {x : AV} {first ep : Int} {rs : List (Nat × List Nat)} {ys : List AV} (hs : Rs H x rs ys) (hl : rs.length ≤ 16000000)
    (hf : ∀ (j : Nat) (r : Nat × List Nat), rs[j]? = some r → r.1 < 18446744073709551616 ∧ ((r.1 % 17592186044416 : Nat) : Int) = first + j ∧ ep ≤ ((r.1 / 17592186044416 : Nat) : Int) ∧ ∀ q, rs[j + 1]? = some q → r.1 / 17592186044416 ≤ q.1 / 17592186044416) (k : K.Fn 0) : ∀ (r : List (Nat × List Nat)) (i : Nat), rs.drop i = r →
    l_outriderlaw6_SegScans1 JN GO cK k (.int .i64 first) (.int .i64 ep) x (.int .i64 (i : Nat)) H = k H
  | [], i, hr => by
    have hn := hs.lenc
    have : rs.length ≤ i := by simpa using hr
    have d : decide (((i : Nat) : Int) < ((rs.length : Nat) : Int)) = false := decide_eq_false (by omega)
    rw [ql_outriderlaw6_SegScans1]
    simp only [hn, d, JN_0, JN_1, JN_2, JN_3, JN_4, JN_5, JN_6, JN_7, JN_8, JN_9, JN_10, JN_11, JN_12, JN_13, JN_14, JN_15, JN_16, JN_17, JN_18, JN_19, JN_20, JN_21, JN_22, JN_23, JN_24, B1_s, B2_s, BN_s, CD_t, CD_f, GO_tt, GO_ft, GO_tf, GO_ff, GO_ut, GO_uf, GD2_tt, GD2_ft, GD2_tf, GD2_ff, pk_t, pk_f, nilA_p, nilA_i, fa_p, fd_a, ex_t, iadd_i, isub_i, imul_i, ieq_i, ine_i, ilt_i, ile_i, igt_i, ige_i, seq_s, sne_s, slt_s, lens_s, lenx_0, lenx_s, not_b, bb_e, bb_n, cv_i, pe_00, pe_0p, pe_p0, eqB_e, eqB_n, List.getElem?_cons_zero, List.getElem?_cons_succ, Nat.zero_add, Bool.not_true, Bool.not_false, decide_true, decide_false, Int.reduceBEq, Int.reduceBNe, Int.reduceLT, Int.reduceLE, Int.reduceGT, Int.reduceGE, Int.reduceNeg, BEq.rfl, bne_self_eq_false, ge_iff_le, gt_iff_lt]
  | r :: r', i, hr => by
    obtain ⟨hi, hj, hr'⟩ := hd_drop hr
    have hn := hs.lenc
    have d : decide (((i : Nat) : Int) < ((rs.length : Nat) : Int)) = true := decide_eq_true (by omega)
    obtain ⟨a, o, z, u1, u2, u3, u4⟩ := hs.at hj .i64
    obtain ⟨g1, g2, g3, g4⟩ := hf i r hj
    have f1 := off_c (H := H) r.1 g1
    have f2 := epoch_c (H := H) r.1 g1
    have w1 : IntKind.wrap .i64 (first + ((i : Nat) : Int)) = ((r.1 % 17592186044416 : Nat) : Int) := by rw [← g2]; exact w64 (by omega)
    have d2 : decide (((r.1 / 17592186044416 : Nat) : Int) < ep) = false := decide_eq_false (by omega)
    have e3 : IntKind.wrap .i64 (((i : Nat) : Int) + 1) = ((i + 1 : Nat) : Int) := by rw [wrap_i64 (by omega) (by omega)]; rfl
    have ih := scans_loop1 hs hl hf k r' (i + 1) hr'
    cases i with
    | zero =>
      have d3 : decide ((0 : Int) < ((0 : Nat) : Int)) = false := by decide
      rw [ql_outriderlaw6_SegScans1]
      simp only [hn, d, u1, u2, f1, w1, f2, d2, d3, e3, ih, JN_0, JN_1, JN_2, JN_3, JN_4, JN_5, JN_6, JN_7, JN_8, JN_9, JN_10, JN_11, JN_12, JN_13, JN_14, JN_15, JN_16, JN_17, JN_18, JN_19, JN_20, JN_21, JN_22, JN_23, JN_24, B1_s, B2_s, BN_s, CD_t, CD_f, GO_tt, GO_ft, GO_tf, GO_ff, GO_ut, GO_uf, GD2_tt, GD2_ft, GD2_tf, GD2_ff, pk_t, pk_f, nilA_p, nilA_i, fa_p, fd_a, ex_t, iadd_i, isub_i, imul_i, ieq_i, ine_i, ilt_i, ile_i, igt_i, ige_i, seq_s, sne_s, slt_s, lens_s, lenx_0, lenx_s, not_b, bb_e, bb_n, cv_i, pe_00, pe_0p, pe_p0, eqB_e, eqB_n, List.getElem?_cons_zero, List.getElem?_cons_succ, Nat.zero_add, Bool.not_true, Bool.not_false, decide_true, decide_false, Int.reduceBEq, Int.reduceBNe, Int.reduceLT, Int.reduceLE, Int.reduceGT, Int.reduceGE, Int.reduceNeg, BEq.rfl, bne_self_eq_false, ge_iff_le, gt_iff_lt]
    | succ i =>
      have d3 : decide ((0 : Int) < ((i + 1 : Nat) : Int)) = true := decide_eq_true (by omega)
      obtain ⟨q, hq⟩ : ∃ q, rs[i]? = some q := ⟨_, List.getElem?_eq_getElem (by omega)⟩
      obtain ⟨a', o', z', v1, v2, v3, v4⟩ := hs.at hq .i64
      obtain ⟨k1, k2, k3, k4⟩ := hf i q hq
      have f3 := epoch_c (H := H) q.1 k1
      have k5 := k4 r hj
      have d4 : decide (((r.1 / 17592186044416 : Nat) : Int) < ((q.1 / 17592186044416 : Nat) : Int)) = false := decide_eq_false (by omega)
      have e4 : IntKind.wrap .i64 (((i + 1 : Nat) : Int) - 1) = ((i : Nat) : Int) := by rw [wrap_i64 (by omega) (by omega)]; omega
      rw [ql_outriderlaw6_SegScans1]
      simp only [hn, d, u1, u2, f1, w1, f2, d2, d3, e4, v1, v2, f3, d4, SM_t (same_i .u64 ((q.1 : Nat) : Int)), e3, ih, JN_0, JN_1, JN_2, JN_3, JN_4, JN_5, JN_6, JN_7, JN_8, JN_9, JN_10, JN_11, JN_12, JN_13, JN_14, JN_15, JN_16, JN_17, JN_18, JN_19, JN_20, JN_21, JN_22, JN_23, JN_24, B1_s, B2_s, BN_s, CD_t, CD_f, GO_tt, GO_ft, GO_tf, GO_ff, GO_ut, GO_uf, GD2_tt, GD2_ft, GD2_tf, GD2_ff, pk_t, pk_f, nilA_p, nilA_i, fa_p, fd_a, ex_t, iadd_i, isub_i, imul_i, ieq_i, ine_i, ilt_i, ile_i, igt_i, ige_i, seq_s, sne_s, slt_s, lens_s, lenx_0, lenx_s, not_b, bb_e, bb_n, cv_i, pe_00, pe_0p, pe_p0, eqB_e, eqB_n, List.getElem?_cons_zero, List.getElem?_cons_succ, Nat.zero_add, Bool.not_true, Bool.not_false, decide_true, decide_false, Int.reduceBEq, Int.reduceBNe, Int.reduceLT, Int.reduceLE, Int.reduceGT, Int.reduceGE, Int.reduceNeg, BEq.rfl, bne_self_eq_false, ge_iff_le, gt_iff_lt]
theorem scans_law {H : Hp} {x : AV} {ms : List (Int × Int × List Nat)} {first ep cut : Int} (hm : Mk H x ms) (hk : ∀ m ∈ ms, MkOK m) (hT : hasT H begin0) (hn : 9 ≤ H.next) :
    ∃ H', cK (.func (.func 5) [] []) [x, .int .i64 first, .int .i64 ep, .int .i64 cut] H = some (.bool true, H') := by
  have hA := awake_c an hT hn
  have hxl := hm.lenc
  by_cases h1 : 15 < ms.length
  · have d1 : decide (15 < ((ms.length : Nat) : Int)) = true := decide_eq_true (by omega)
    refine ⟨H, c_outriderlaw6_SegScans ?_⟩
    unfold s_outriderlaw6_SegScans
    simp only [hA, hxl, d1, JN_0, JN_1, JN_2, JN_3, JN_4, JN_5, JN_6, JN_7, JN_8, JN_9, JN_10, JN_11, JN_12, JN_13, JN_14, JN_15, JN_16, JN_17, JN_18, JN_19, JN_20, JN_21, JN_22, JN_23, JN_24, B1_s, B2_s, BN_s, CD_t, CD_f, GO_tt, GO_ft, GO_tf, GO_ff, GO_ut, GO_uf, GD2_tt, GD2_ft, GD2_tf, GD2_ff, pk_t, pk_f, nilA_p, nilA_i, fa_p, fd_a, ex_t, iadd_i, isub_i, imul_i, ieq_i, ine_i, ilt_i, ile_i, igt_i, ige_i, seq_s, sne_s, slt_s, lens_s, lenx_0, lenx_s, not_b, bb_e, bb_n, cv_i, pe_00, pe_0p, pe_p0, eqB_e, eqB_n, List.getElem?_cons_zero, List.getElem?_cons_succ, Nat.zero_add, Bool.not_true, Bool.not_false, decide_true, decide_false, Int.reduceBEq, Int.reduceBNe, Int.reduceLT, Int.reduceLE, Int.reduceGT, Int.reduceGE, Int.reduceNeg, BEq.rfl, bne_self_eq_false, ge_iff_le, gt_iff_lt]
  have d1 : decide (15 < ((ms.length : Nat) : Int)) = false := decide_eq_false (by omega)
  rcases scans_loop (z1 := .int .i64 first) (z2 := .int .i64 ep) (z3 := .int .i64 cut) hm hk (by omega) ms 0 .slice0 [] H rfl (Nat.zero_le _) (Out.refl _ _) .nil (fun v hv => by cases hv) (Nat.zero_le _) with ⟨H1, q1⟩ | ⟨s, b, H1, q1, q2, q3, q4, q5⟩
  · rw [show (((0 : Nat) : Int)) = 0 from rfl] at q1
    refine ⟨H1, c_outriderlaw6_SegScans ?_⟩
    unfold s_outriderlaw6_SegScans
    simp only [hA, hxl, d1, q1, JN_0, JN_1, JN_2, JN_3, JN_4, JN_5, JN_6, JN_7, JN_8, JN_9, JN_10, JN_11, JN_12, JN_13, JN_14, JN_15, JN_16, JN_17, JN_18, JN_19, JN_20, JN_21, JN_22, JN_23, JN_24, B1_s, B2_s, BN_s, CD_t, CD_f, GO_tt, GO_ft, GO_tf, GO_ff, GO_ut, GO_uf, GD2_tt, GD2_ft, GD2_tf, GD2_ff, pk_t, pk_f, nilA_p, nilA_i, fa_p, fd_a, ex_t, iadd_i, isub_i, imul_i, ieq_i, ine_i, ilt_i, ile_i, igt_i, ige_i, seq_s, sne_s, slt_s, lens_s, lenx_0, lenx_s, not_b, bb_e, bb_n, cv_i, pe_00, pe_0p, pe_p0, eqB_e, eqB_n, List.getElem?_cons_zero, List.getElem?_cons_succ, Nat.zero_add, Bool.not_true, Bool.not_false, decide_true, decide_false, Int.reduceBEq, Int.reduceBNe, Int.reduceLT, Int.reduceLE, Int.reduceGT, Int.reduceGE, Int.reduceNeg, BEq.rfl, bne_self_eq_false, ge_iff_le, gt_iff_lt]
  rw [show (((0 : Nat) : Int)) = 0 from rfl] at q1
  have hsl := q3.len1
  rw [bs_len] at hsl
  -- what is behind the cut
  have key : ∀ (s2 : AV) (b2 : List Nat), Rw H1 1 s2 (bs b2) → (∀ v ∈ b2, v < 256) → b2.length ≤ 1500 → ∃ (H3 : Hp) (r r' : AV) (cnt : Nat) (H2 : Hp),
      cK (.func (.func 14) [] []) [s2, .int .i64 first, .int .i64 ep] H1 = some (.tuple [r, .int .i64 (cnt : Nat)], H2) ∧
      cK (.func (.func 15) [] []) [s2, .int .i64 first, .int .i64 ep] H2 = some (.tuple [r', .int .i64 (cnt : Nat)], H3) ∧
      cK (.func (.func 16) [] []) [r, r'] H3 = some (.bool true, H3) ∧
      lenx s2 = some (.int .i64 b2.length) ∧ decide (((b2.length : Nat) : Int) < ((cnt : Nat) : Int)) = false ∧
      ∀ k : K.Fn 0, l_outriderlaw6_SegScans1 JN GO cK k (.int .i64 first) (.int .i64 ep) r (.int .i64 0) H3 = k H3 := by
    intro s2 b2 k1 k2 k3
    obtain ⟨r, ys, H2, e1, e2, e3, e4⟩ := scan_c k1 k2 (by omega) first ep
    obtain ⟨r', H3, e5, e6, e7⟩ := rscan_c (k1.out e2 fun j _ q => by cases q) k2 (by omega) first ep
    have hsb := scanM_byte b2.length b2 first ep k2
    have hsl := scanM_le b2.length b2 first ep
    have hsg := scanM_get b2.length b2 first ep
    have hl := k1.len1
    rw [bs_len] at hl
    have lp := scans_loop1 (first := first) (ep := ep) (e3.out e6) (by omega) (fun j r hj => ⟨(hsb r (List.mem_of_getElem? hj)).1, hsg j r hj⟩)
    refine ⟨H3, r, r', _, H2, e1, e5, recs_c (e3.out e6) e7 (fun r hr => (hsb r hr).2) (by omega), hl, decide_eq_false (by omega), fun k => ?_⟩
    have := lp k _ 0 rfl
    rw [show (((0 : Nat) : Int)) = 0 from rfl] at this
    exact this
  by_cases hc : 0 ≤ cut ∧ cut < b.length
  · obtain ⟨n, rfl⟩ := Int.eq_ofNat_of_zero_le hc.1
    obtain ⟨s2, u1, u2⟩ := cut_c q3 (a := 0) (b := n) (Nat.zero_le _) (by omega) (lo := none) (hi := some (.int .i64 ((n : Nat) : Int))) (Bd.no 0) (Bd.yes _ _ _)
    obtain ⟨H3, r, r', cnt, H2, e1, e2, e3, e4, e5, e6⟩ := key s2 _ u2 (fun v hv => q4 v (List.mem_of_mem_drop (List.mem_of_mem_take hv))) (by simp; omega)
    have d2 : decide ((0 : Int) ≤ ((n : Nat) : Int)) = true := decide_eq_true (by omega)
    have d3 : decide (((n : Nat) : Int) < ((b.length : Nat) : Int)) = true := decide_eq_true hc.2
    refine ⟨H3, c_outriderlaw6_SegScans ?_⟩
    unfold s_outriderlaw6_SegScans
    simp only [hA, hxl, d1, q1, hsl, d2, d3, u1, e1, e2, e3, e4, e5, e6, JN_0, JN_1, JN_2, JN_3, JN_4, JN_5, JN_6, JN_7, JN_8, JN_9, JN_10, JN_11, JN_12, JN_13, JN_14, JN_15, JN_16, JN_17, JN_18, JN_19, JN_20, JN_21, JN_22, JN_23, JN_24, B1_s, B2_s, BN_s, CD_t, CD_f, GO_tt, GO_ft, GO_tf, GO_ff, GO_ut, GO_uf, GD2_tt, GD2_ft, GD2_tf, GD2_ff, pk_t, pk_f, nilA_p, nilA_i, fa_p, fd_a, ex_t, iadd_i, isub_i, imul_i, ieq_i, ine_i, ilt_i, ile_i, igt_i, ige_i, seq_s, sne_s, slt_s, lens_s, lenx_0, lenx_s, not_b, bb_e, bb_n, cv_i, pe_00, pe_0p, pe_p0, eqB_e, eqB_n, List.getElem?_cons_zero, List.getElem?_cons_succ, Nat.zero_add, Bool.not_true, Bool.not_false, decide_true, decide_false, Int.reduceBEq, Int.reduceBNe, Int.reduceLT, Int.reduceLE, Int.reduceGT, Int.reduceGE, Int.reduceNeg, BEq.rfl, bne_self_eq_false, ge_iff_le, gt_iff_lt]
  · obtain ⟨H3, r, r', cnt, H2, e1, e2, e3, e4, e5, e6⟩ := key s b q3 q4 q5
    refine ⟨H3, c_outriderlaw6_SegScans ?_⟩
    unfold s_outriderlaw6_SegScans
    by_cases h0 : 0 ≤ cut
    · have d2 : decide ((0 : Int) ≤ cut) = true := decide_eq_true h0
      have d3 : decide (cut < ((b.length : Nat) : Int)) = false := decide_eq_false (by omega)
      simp only [hA, hxl, d1, q1, hsl, d2, d3, e1, e2, e3, e4, e5, e6, JN_0, JN_1, JN_2, JN_3, JN_4, JN_5, JN_6, JN_7, JN_8, JN_9, JN_10, JN_11, JN_12, JN_13, JN_14, JN_15, JN_16, JN_17, JN_18, JN_19, JN_20, JN_21, JN_22, JN_23, JN_24, B1_s, B2_s, BN_s, CD_t, CD_f, GO_tt, GO_ft, GO_tf, GO_ff, GO_ut, GO_uf, GD2_tt, GD2_ft, GD2_tf, GD2_ff, pk_t, pk_f, nilA_p, nilA_i, fa_p, fd_a, ex_t, iadd_i, isub_i, imul_i, ieq_i, ine_i, ilt_i, ile_i, igt_i, ige_i, seq_s, sne_s, slt_s, lens_s, lenx_0, lenx_s, not_b, bb_e, bb_n, cv_i, pe_00, pe_0p, pe_p0, eqB_e, eqB_n, List.getElem?_cons_zero, List.getElem?_cons_succ, Nat.zero_add, Bool.not_true, Bool.not_false, decide_true, decide_false, Int.reduceBEq, Int.reduceBNe, Int.reduceLT, Int.reduceLE, Int.reduceGT, Int.reduceGE, Int.reduceNeg, BEq.rfl, bne_self_eq_false, ge_iff_le, gt_iff_lt]
    · have d2 : decide ((0 : Int) ≤ cut) = false := decide_eq_false h0
      simp only [hA, hxl, d1, q1, hsl, d2, e1, e2, e3, e4, e5, e6, JN_0, JN_1, JN_2, JN_3, JN_4, JN_5, JN_6, JN_7, JN_8, JN_9, JN_10, JN_11, JN_12, JN_13, JN_14, JN_15, JN_16, JN_17, JN_18, JN_19, JN_20, JN_21, JN_22, JN_23, JN_24, B1_s, B2_s, BN_s, CD_t, CD_f, GO_tt, GO_ft, GO_tf, GO_ff, GO_ut, GO_uf, GD2_tt, GD2_ft, GD2_tf, GD2_ff, pk_t, pk_f, nilA_p, nilA_i, fa_p, fd_a, ex_t, iadd_i, isub_i, imul_i, ieq_i, ine_i, ilt_i, ile_i, igt_i, ige_i, seq_s, sne_s, slt_s, lens_s, lenx_0, lenx_s, not_b, bb_e, bb_n, cv_i, pe_00, pe_0p, pe_p0, eqB_e, eqB_n, List.getElem?_cons_zero, List.getElem?_cons_succ, Nat.zero_add, Bool.not_true, Bool.not_false, decide_true, decide_false, Int.reduceBEq, Int.reduceBNe, Int.reduceLT, Int.reduceLE, Int.reduceGT, Int.reduceGE, Int.reduceNeg, BEq.rfl, bne_self_eq_false, ge_iff_le, gt_iff_lt]
theorem scans_top {H : Hp} {as' : List AV} {ds : List D} (h : ArgsIs H [.slice 3 MarkTy, .int .i64, .int .i64, .int .i64] as' ds) (hT : hasT H begin0) (hn : 9 ≤ H.next) :
    ∃ H', cK (.func (.func 5) [] []) as' H = some (.bool true, H') := by
  cases h with
  | cons h0 h =>
  cases h with
  | cons h1 h =>
  cases h with
  | cons h2 h =>
  cases h with
  | cons h3 h =>
  cases h
  obtain ⟨ms, hm, hk⟩ := marks_of (isA_row h0)
  obtain ⟨a, rfl, _⟩ := isA_int h1
  obtain ⟨e, rfl, _⟩ := isA_int h2
  obtain ⟨c, rfl, _⟩ := isA_int h3
  exact scans_law hm hk hT hn
end Go.Proofs.YtdacjomfipkpaaaDoor.SgK
