/- The document's own Scan; records compared; the plain law of scanned records. Conditions: as stated. -/
import Derived.Test.YtdacjomfipkpaaaDoorSgR
namespace Go.Proofs.YtdacjomfipkpaaaDoor.SgK
open Go Am Am.K SgEnv
set_option linter.unusedVariables false
set_option linter.unusedSimpArgs false
/-- the document's records' cells -/
def rqs : List (Nat × List Nat) → List AV
  | [] => []
  | r :: rs => .int .u64 (r.1 : Nat) :: .str r.2 :: rqs rs
theorem rqs_app : ∀ (a : List (Nat × List Nat)) (r : Nat × List Nat), rqs (a ++ [r]) = rqs a ++ [.int .u64 (r.1 : Nat), .str r.2]
  | [], r => rfl
  | q :: a, r => by
    show _ :: _ :: rqs (a ++ [r]) = _
    rw [rqs_app a r]; rfl
theorem rqs_len : ∀ (a : List (Nat × List Nat)), (rqs a).length = a.length * 2
  | [] => rfl
  | q :: a => by
    simp only [rqs, List.length_cons, rqs_len a]; omega
theorem rqs_get : ∀ (rs : List (Nat × List Nat)) (j : Nat) (r : Nat × List Nat), rs[j]? = some r → (rqs rs)[j * 2 + 0]? = some (.int .u64 (r.1 : Nat)) ∧ (rqs rs)[j * 2 + 1]? = some (.str r.2)
  | _ :: _, 0, r, h => by cases h; exact ⟨rfl, rfl⟩
  | _ :: rs, j + 1, r, h => by
    have := rqs_get rs j r h
    rw [show (j + 1) * 2 + 0 = j * 2 + 0 + 1 + 1 by omega, show (j + 1) * 2 + 1 = j * 2 + 1 + 1 + 1 by omega]
    exact this
theorem one2 (a : Int) (b : List Nat) : ∀ v ∈ [AV.int .u64 a, AV.str b], oneC v = true := by
  intro v hv
  rcases List.mem_cons.1 hv with rfl | hv
  · rfl
  · rcases List.mem_cons.1 hv with rfl | hv
    · rfl
    · cases hv
theorem rscan_loop {k : K.Fn 2} {H0 : Hp} {x : AV} {l : List Nat} (hx : Rw H0 1 x (bs l)) (hb : ∀ b ∈ l, b < 256) (hl : l.length ≤ 16000000) : ∀ (f n : Nat) (first ep : Int) (s : AV) (rs : List (Nat × List Nat)) (H : Hp),
    l.length ≤ n + f → n ≤ l.length → Out [] H0 H → Ow H 69 2 s (rqs rs) → (∀ j ∈ rid s, H0.next ≤ j) → rs.length * 16 ≤ n →
    ∃ s' H', l_outriderref1_Scan JN GO cK k x (.int .i64 first) (.int .i64 ep) s (.int .i64 (n : Nat)) H = k s' (.int .i64 ((n + (scanM f (l.drop n) first ep).2 : Nat) : Int)) H' ∧ Out [] H0 H' ∧
      Ow H' 69 2 s' (rqs (rs ++ (scanM f (l.drop n) first ep).1)) ∧ (∀ j ∈ rid s', H0.next ≤ j)
  | 0, n, first, ep, s, rs, H, hf, hn, ho, hs, hr, hc => by
    have hxn := hx.len1
    rw [bs_len] at hxn
    refine ⟨s, H, ?_, ho, by simpa [scanM] using hs, hr⟩
    rw [ql_outriderref1_Scan]
    have d : decide (((n : Nat) : Int) < ((l.length : Nat) : Int)) = false := decide_eq_false (by omega)
    simp only [hxn, d, scanM, Nat.add_zero, JN_0, JN_1, JN_2, JN_3, JN_4, JN_5, JN_6, JN_7, JN_8, JN_9, JN_10, JN_11, JN_12, JN_13, JN_14, JN_15, JN_16, JN_17, JN_18, JN_19, JN_20, JN_21, JN_22, JN_23, JN_24, B1_s, B2_s, BN_s, CD_t, CD_f, GO_tt, GO_ft, GO_tf, GO_ff, GO_ut, GO_uf, GD2_tt, GD2_ft, GD2_tf, GD2_ff, pk_t, pk_f, nilA_p, nilA_i, fa_p, fd_a, ex_t, iadd_i, isub_i, imul_i, ieq_i, ine_i, ilt_i, ile_i, igt_i, ige_i, seq_s, sne_s, slt_s, lens_s, lenx_0, lenx_s, not_b, bb_e, bb_n, cv_i, pe_00, pe_0p, pe_p0, eqB_e, eqB_n, List.getElem?_cons_zero, List.getElem?_cons_succ, Nat.zero_add, Bool.not_true, Bool.not_false, decide_true, decide_false, Int.reduceBEq, Int.reduceBNe, Int.reduceLT, Int.reduceLE, Int.reduceGT, Int.reduceGE, Int.reduceNeg, BEq.rfl, bne_self_eq_false, ge_iff_le, gt_iff_lt]
  | f + 1, n, first, ep, s, rs, H, hf, hn, ho, hs, hr, hc => by
    have hxn := hx.len1
    rw [bs_len] at hxn
    by_cases hend : l.length ≤ n
    · have he : l.drop n = [] := List.drop_eq_nil_of_le hend
      refine ⟨s, H, ?_, ho, by rw [he]; simpa [scanM] using hs, hr⟩
      rw [ql_outriderref1_Scan, he]
      have d : decide (((n : Nat) : Int) < ((l.length : Nat) : Int)) = false := decide_eq_false (by omega)
      simp only [hxn, d, scanM, if_true, Nat.add_zero, JN_0, JN_1, JN_2, JN_3, JN_4, JN_5, JN_6, JN_7, JN_8, JN_9, JN_10, JN_11, JN_12, JN_13, JN_14, JN_15, JN_16, JN_17, JN_18, JN_19, JN_20, JN_21, JN_22, JN_23, JN_24, B1_s, B2_s, BN_s, CD_t, CD_f, GO_tt, GO_ft, GO_tf, GO_ff, GO_ut, GO_uf, GD2_tt, GD2_ft, GD2_tf, GD2_ff, pk_t, pk_f, nilA_p, nilA_i, fa_p, fd_a, ex_t, iadd_i, isub_i, imul_i, ieq_i, ine_i, ilt_i, ile_i, igt_i, ige_i, seq_s, sne_s, slt_s, lens_s, lenx_0, lenx_s, not_b, bb_e, bb_n, cv_i, pe_00, pe_0p, pe_p0, eqB_e, eqB_n, List.getElem?_cons_zero, List.getElem?_cons_succ, Nat.zero_add, Bool.not_true, Bool.not_false, decide_true, decide_false, Int.reduceBEq, Int.reduceBNe, Int.reduceLT, Int.reduceLE, Int.reduceGT, Int.reduceGE, Int.reduceNeg, BEq.rfl, bne_self_eq_false, ge_iff_le, gt_iff_lt]
    · have d : decide (((n : Nat) : Int) < ((l.length : Nat) : Int)) = true := decide_eq_true (by omega)
      have hne : l.drop n ≠ [] := fun q => by
        have := congrArg List.length q
        rw [List.length_drop] at this
        simp at this
        omega
      have hx1 := hx.out ho fun j _ q => by cases q
      obtain ⟨x1, u1, u2⟩ := cut_c hx1 (a := n) (b := l.length) (by omega) (Nat.le_refl _) (lo := some (.int .i64 (n : Nat))) (hi := none) (Bd.yes _ _ _) (Bd.no _)
      rw [show (l.drop n).take (l.length - n) = l.drop n from List.take_of_length_le (by rw [List.length_drop]; exact Nat.le_refl _)] at u2
      have hb1 : ∀ b ∈ l.drop n, b < 256 := fun b hv => hb b (List.mem_of_mem_drop hv)
      obtain ⟨H1, g1, g2⟩ := rgetrec_c u2 hb1 (by rw [List.length_drop]; omega)
      obtain ⟨H2, n1, n2, n3, n4⟩ := newCells_ok H1 [.int .u64 0, .str []] 69 0 (by simp)
      have hgA := gA_lt hb1
      generalize hL : l.drop n = L at *
      obtain ⟨H3, t1, t2, t3, t4⟩ := st_all (n := 2) n2 (by omega) (v := .agg [.int .u64 ((if gE L = 0 then gA L else 0 : Nat) : Int), .str (if gE L = 0 then gB L else [])]) (cs := [.int .u64 ((if gE L = 0 then gA L else 0 : Nat) : Int), .str (if gE L = 0 then gB L else [])]) rfl rfl rfl (one2 _ _)
      have l0 : ld (.ptr H1.next 0) H3 = some (.int .u64 ((if gE L = 0 then gA L else 0 : Nat) : Int)) := t2.ld rfl
      have o3 : Out [] H1 H3 := n3.then t3 fun j hj => by rw [List.mem_singleton] at hj; exact .inr (by omega)
      have oH3 : Out [] H0 H3 := (ho.trans g2).trans o3
      by_cases hE : gE L = 0
      · simp only [if_pos hE] at g1 t1 t2 l0
        have d1 : (((gE L : Nat) : Int) != 0) = false := by rw [hE]; rfl
        have f1 := roff_c (H := H3) (gA L) hgA
        have f2 := repoch_c (H := H3) (gA L) hgA
        by_cases h1 : ((gA L % 17592186044416 : Nat) : Int) = first
        · have d2 : (((gA L % 17592186044416 : Nat) : Int) != first) = false := by rw [bne_eq_false_iff_eq]; exact h1
          by_cases h2 : ep ≤ ((gA L / 17592186044416 : Nat) : Int)
          · have d3 : decide (((gA L / 17592186044416 : Nat) : Int) < ep) = false := decide_eq_false (by omega)
            have hon : on L first ep = true := by unfold on; rw [decide_eq_true hE, decide_eq_true h1, decide_eq_true h2]; rfl
            obtain ⟨b1, b2⟩ := gE_0 hE
            have bL : L.length + n = l.length := by rw [← hL, List.length_drop]; omega
            have t5 : lda 2 (.ptr H1.next 0) H3 = some (.agg [.int .u64 ((gA L : Nat) : Int), .str (gB L)]) := t2.lda (n := 2) (o := 0) (by simp)
            have fl2 : fl [.int .u64 0, .str []] [(0, 2, .agg [.int .u64 ((gA L : Nat) : Int), .str (gB L)])] = some [.int .u64 ((gA L : Nat) : Int), .str (gB L)] := rfl
            obtain ⟨H4, m1, m2, m3, m4⟩ := newCells_ok H3 [.int .u64 ((gA L : Nat) : Int), .str (gB L)] 69 0 (by simp)
            have oH4 : Out [] H H4 := (g2.trans o3).trans m3
            have hrow : Rw H4 2 (.slice H3.next 0 1 1 true 2) [.int .u64 ((gA L : Nat) : Int), .str (gB L)] := .mk m2.ro rfl (Nat.le_refl _) rfl
            have hs4 := hs.out oH4 fun j _ q => by cases q
            have hsl := hs.rw.lt
            obtain ⟨s', H5, a1, a2, a3, a4⟩ := append_ok (z := [.int .u64 0, .str []]) hs4 hrow (one2 _ _) (by omega) (by rw [rqs_len]; simp only [List.length_cons, List.length_nil]; omega)
            have o5 : Out [] H0 H5 := (ho.trans oH4).then a3 fun j hj => .inr (hr j hj)
            have hr5 : ∀ j ∈ rid s', H0.next ≤ j := fun j hj => (a4 j hj).elim (hr j) fun q => Nat.le_trans (ho.trans oH4).1 q
            have t6 : ld (.ptr H1.next 0) H5 = some (.int .u64 ((gA L : Nat) : Int)) := ((t2.out m3 fun q => by cases q).out a3 fun q => by
              have := hsl _ q
              have := g2.1
              omega).ld rfl
            have f3 := repoch_c (H := H5) (gA L) hgA
            rw [← rqs_app rs (gA L, gB L)] at a2
            obtain ⟨s2, H6, k1, k2, k3, k4⟩ := rscan_loop (k := k) hx hb hl f (n + (16 + gN L)) (IntKind.wrap .i64 (first + 1)) ((gA L / 17592186044416 : Nat) : Int) s' _ H5 (by omega) (by omega) o5 a2 hr5 (by rw [List.length_append]; simp only [List.length_cons, List.length_nil]; omega)
            have hdr : l.drop (n + (16 + gN L)) = L.drop (16 + gN L) := by rw [← List.drop_drop, hL]
            rw [hdr] at k1 k3
            have hsm : scanM (f + 1) L first ep = ((gA L, gB L) :: (scanM f (L.drop (16 + gN L)) (IntKind.wrap .i64 (first + 1)) ((gA L / 17592186044416 : Nat) : Int)).1, 16 + gN L + (scanM f (L.drop (16 + gN L)) (IntKind.wrap .i64 (first + 1)) ((gA L / 17592186044416 : Nat) : Int)).2) := by
              rw [scanM, if_neg hne, if_pos hon]
            have w1 : IntKind.wrap .i64 (((n : Nat) : Int) + ((16 + gN L : Nat) : Int)) = ((n + (16 + gN L) : Nat) : Int) := by rw [wrap_i64 (by omega) (by omega)]; rfl
            rw [hsm]
            refine ⟨s2, H6, ?_, k2, by simpa using k3, k4⟩
            rw [ql_outriderref1_Scan]
            simp only [hxn, d, u1, g1, n1, t1, l0, d1, f1, d2, f2, d3, t5, fl2, m1, a1, w1, t6, f3, JN_0, JN_1, JN_2, JN_3, JN_4, JN_5, JN_6, JN_7, JN_8, JN_9, JN_10, JN_11, JN_12, JN_13, JN_14, JN_15, JN_16, JN_17, JN_18, JN_19, JN_20, JN_21, JN_22, JN_23, JN_24, B1_s, B2_s, BN_s, CD_t, CD_f, GO_tt, GO_ft, GO_tf, GO_ff, GO_ut, GO_uf, GD2_tt, GD2_ft, GD2_tf, GD2_ff, pk_t, pk_f, nilA_p, nilA_i, fa_p, fd_a, ex_t, iadd_i, isub_i, imul_i, ieq_i, ine_i, ilt_i, ile_i, igt_i, ige_i, seq_s, sne_s, slt_s, lens_s, lenx_0, lenx_s, not_b, bb_e, bb_n, cv_i, pe_00, pe_0p, pe_p0, eqB_e, eqB_n, List.getElem?_cons_zero, List.getElem?_cons_succ, Nat.zero_add, Bool.not_true, Bool.not_false, decide_true, decide_false, Int.reduceBEq, Int.reduceBNe, Int.reduceLT, Int.reduceLE, Int.reduceGT, Int.reduceGE, Int.reduceNeg, BEq.rfl, bne_self_eq_false, ge_iff_le, gt_iff_lt]
            rw [k1]
            congr 3
            omega
          · have d3 : decide (((gA L / 17592186044416 : Nat) : Int) < ep) = true := decide_eq_true (by omega)
            have hon : ¬ on L first ep = true := by unfold on; rw [decide_eq_false h2, Bool.and_false]; decide
            have hsm : scanM (f + 1) L first ep = ([], 0) := by rw [scanM, if_neg hne, if_neg hon]
            rw [hsm]
            refine ⟨s, H3, ?_, oH3, by simpa using hs.out (g2.trans o3) (fun j _ q => by cases q), hr⟩
            rw [ql_outriderref1_Scan]
            simp only [hxn, d, u1, g1, n1, t1, l0, d1, f1, d2, f2, d3, Nat.add_zero, JN_0, JN_1, JN_2, JN_3, JN_4, JN_5, JN_6, JN_7, JN_8, JN_9, JN_10, JN_11, JN_12, JN_13, JN_14, JN_15, JN_16, JN_17, JN_18, JN_19, JN_20, JN_21, JN_22, JN_23, JN_24, B1_s, B2_s, BN_s, CD_t, CD_f, GO_tt, GO_ft, GO_tf, GO_ff, GO_ut, GO_uf, GD2_tt, GD2_ft, GD2_tf, GD2_ff, pk_t, pk_f, nilA_p, nilA_i, fa_p, fd_a, ex_t, iadd_i, isub_i, imul_i, ieq_i, ine_i, ilt_i, ile_i, igt_i, ige_i, seq_s, sne_s, slt_s, lens_s, lenx_0, lenx_s, not_b, bb_e, bb_n, cv_i, pe_00, pe_0p, pe_p0, eqB_e, eqB_n, List.getElem?_cons_zero, List.getElem?_cons_succ, Nat.zero_add, Bool.not_true, Bool.not_false, decide_true, decide_false, Int.reduceBEq, Int.reduceBNe, Int.reduceLT, Int.reduceLE, Int.reduceGT, Int.reduceGE, Int.reduceNeg, BEq.rfl, bne_self_eq_false, ge_iff_le, gt_iff_lt]
        · have d2 : (((gA L % 17592186044416 : Nat) : Int) != first) = true := by rw [bne_iff_ne]; exact h1
          have hon : ¬ on L first ep = true := by unfold on; rw [decide_eq_false h1, Bool.and_false, Bool.false_and]; decide
          have hsm : scanM (f + 1) L first ep = ([], 0) := by rw [scanM, if_neg hne, if_neg hon]
          rw [hsm]
          refine ⟨s, H3, ?_, oH3, by simpa using hs.out (g2.trans o3) (fun j _ q => by cases q), hr⟩
          rw [ql_outriderref1_Scan]
          simp only [hxn, d, u1, g1, n1, t1, l0, d1, f1, d2, Nat.add_zero, JN_0, JN_1, JN_2, JN_3, JN_4, JN_5, JN_6, JN_7, JN_8, JN_9, JN_10, JN_11, JN_12, JN_13, JN_14, JN_15, JN_16, JN_17, JN_18, JN_19, JN_20, JN_21, JN_22, JN_23, JN_24, B1_s, B2_s, BN_s, CD_t, CD_f, GO_tt, GO_ft, GO_tf, GO_ff, GO_ut, GO_uf, GD2_tt, GD2_ft, GD2_tf, GD2_ff, pk_t, pk_f, nilA_p, nilA_i, fa_p, fd_a, ex_t, iadd_i, isub_i, imul_i, ieq_i, ine_i, ilt_i, ile_i, igt_i, ige_i, seq_s, sne_s, slt_s, lens_s, lenx_0, lenx_s, not_b, bb_e, bb_n, cv_i, pe_00, pe_0p, pe_p0, eqB_e, eqB_n, List.getElem?_cons_zero, List.getElem?_cons_succ, Nat.zero_add, Bool.not_true, Bool.not_false, decide_true, decide_false, Int.reduceBEq, Int.reduceBNe, Int.reduceLT, Int.reduceLE, Int.reduceGT, Int.reduceGE, Int.reduceNeg, BEq.rfl, bne_self_eq_false, ge_iff_le, gt_iff_lt]
      · have d1 : (((gE L : Nat) : Int) != 0) = true := by rw [bne_iff_ne]; omega
        have hon : ¬ on L first ep = true := by unfold on; rw [decide_eq_false hE, Bool.false_and, Bool.false_and]; decide
        have hsm : scanM (f + 1) L first ep = ([], 0) := by rw [scanM, if_neg hne, if_neg hon]
        rw [hsm]
        refine ⟨s, H3, ?_, oH3, by simpa using hs.out (g2.trans o3) (fun j _ q => by cases q), hr⟩
        rw [ql_outriderref1_Scan]
        simp only [hxn, d, u1, g1, n1, t1, d1, Nat.add_zero, JN_0, JN_1, JN_2, JN_3, JN_4, JN_5, JN_6, JN_7, JN_8, JN_9, JN_10, JN_11, JN_12, JN_13, JN_14, JN_15, JN_16, JN_17, JN_18, JN_19, JN_20, JN_21, JN_22, JN_23, JN_24, B1_s, B2_s, BN_s, CD_t, CD_f, GO_tt, GO_ft, GO_tf, GO_ff, GO_ut, GO_uf, GD2_tt, GD2_ft, GD2_tf, GD2_ff, pk_t, pk_f, nilA_p, nilA_i, fa_p, fd_a, ex_t, iadd_i, isub_i, imul_i, ieq_i, ine_i, ilt_i, ile_i, igt_i, ige_i, seq_s, sne_s, slt_s, lens_s, lenx_0, lenx_s, not_b, bb_e, bb_n, cv_i, pe_00, pe_0p, pe_p0, eqB_e, eqB_n, List.getElem?_cons_zero, List.getElem?_cons_succ, Nat.zero_add, Bool.not_true, Bool.not_false, decide_true, decide_false, Int.reduceBEq, Int.reduceBNe, Int.reduceLT, Int.reduceLE, Int.reduceGT, Int.reduceGE, Int.reduceNeg, BEq.rfl, bne_self_eq_false, ge_iff_le, gt_iff_lt]
theorem rscan_c {H : Hp} {x : AV} {l : List Nat} (hx : Rw H 1 x (bs l)) (hb : ∀ b ∈ l, b < 256) (hl : l.length ≤ 16000000) (first ep : Int) :
    ∃ s H', cK (.func (.func 15) [] []) [x, .int .i64 first, .int .i64 ep] H = some (.tuple [s, .int .i64 (((scanM l.length l first ep).2 : Nat) : Int)], H') ∧ Out [] H H' ∧ Ow H' 69 2 s (rqs (scanM l.length l first ep).1) := by
  obtain ⟨s, H', h1, h2, h3, h4⟩ := rscan_loop (k := fun a b h => some (.tuple [a, b], h)) hx hb hl l.length 0 first ep .slice0 [] H (by omega) (Nat.zero_le _) (Out.refl _ _) .nil (fun j hj => by cases hj) (by simp)
  rw [List.drop_zero, Nat.zero_add, show (((0 : Nat) : Int)) = 0 from rfl] at h1
  rw [List.drop_zero, List.nil_append] at h3
  refine ⟨s, H', c_outriderref1_Scan ?_, h2, h3⟩
  unfold s_outriderref1_Scan
  simp only [JN_0, JN_1, JN_2, JN_3, JN_4, JN_5, JN_6, JN_7, JN_8, JN_9, JN_10, JN_11, JN_12, JN_13, JN_14, JN_15, JN_16, JN_17, JN_18, JN_19, JN_20, JN_21, JN_22, JN_23, JN_24, B1_s, B2_s, BN_s, CD_t, CD_f, GO_tt, GO_ft, GO_tf, GO_ff, GO_ut, GO_uf, GD2_tt, GD2_ft, GD2_tf, GD2_ff, pk_t, pk_f, nilA_p, nilA_i, fa_p, fd_a, ex_t, iadd_i, isub_i, imul_i, ieq_i, ine_i, ilt_i, ile_i, igt_i, ige_i, seq_s, sne_s, slt_s, lens_s, lenx_0, lenx_s, not_b, bb_e, bb_n, cv_i, pe_00, pe_0p, pe_p0, eqB_e, eqB_n, List.getElem?_cons_zero, List.getElem?_cons_succ, Nat.zero_add, Bool.not_true, Bool.not_false, decide_true, decide_false, Int.reduceBEq, Int.reduceBNe, Int.reduceLT, Int.reduceLE, Int.reduceGT, Int.reduceGE, Int.reduceNeg, BEq.rfl, bne_self_eq_false, ge_iff_le, gt_iff_lt]
  exact h1
theorem rq_at {H : Hp} {el : Nat} {x : AV} {rs : List (Nat × List Nat)} (h : Ow H el 2 x (rqs rs)) {j : Nat} {r : Nat × List Nat} (hj : rs[j]? = some r) (k : IntKind) :
    ∃ i o, ia 2 x (.int k j) = some (.ptr i o) ∧ ld (.ptr i (o + 0)) H = some (.int .u64 (r.1 : Nat)) ∧ ld (.ptr i (o + 1)) H = some (.str r.2) := by
  have hlt := (List.getElem?_eq_some_iff.1 hj).1
  obtain ⟨g0, g1⟩ := rqs_get rs j r hj
  obtain ⟨i, o, a1, a2⟩ := iaN h.rw (by decide) (j := j) (by rw [rqs_len]; omega) k
  exact ⟨i, o, a1, a2 0 _ g0, a2 1 _ g1⟩
theorem rq_lenx {H : Hp} {el : Nat} {x : AV} {rs : List (Nat × List Nat)} (h : Ow H el 2 x (rqs rs)) : lenx x = some (.int .i64 rs.length) := by
  obtain ⟨n, h1, h2⟩ := h.rw.len
  rw [rqs_len] at h2
  rw [h1]
  have : n = rs.length := by omega
  rw [this]
theorem recs_loop {k : K.Fn 0} {H : Hp} {x y : AV} {rs : List (Nat × List Nat)} {ys : List AV} {el : Nat} (hx : Rs H x rs ys) (hy : Ow H el 2 y (rqs rs)) (hb : ∀ r ∈ rs, ∀ v ∈ r.2, v < 256) (hl : rs.length ≤ 16000000) : ∀ (r : List (Nat × List Nat)) (i : Nat), rs.drop i = r →
    l_outriderlaw6_recs JN GO cK k x y (.int .i64 (i : Nat)) H = k H
  | [], i, hr => by
    have hn := hx.lenc
    have : rs.length ≤ i := by simpa using hr
    have d : decide (((i : Nat) : Int) < ((rs.length : Nat) : Int)) = false := decide_eq_false (by omega)
    rw [ql_outriderlaw6_recs]
    simp only [hn, d, JN_0, JN_1, JN_2, JN_3, JN_4, JN_5, JN_6, JN_7, JN_8, JN_9, JN_10, JN_11, JN_12, JN_13, JN_14, JN_15, JN_16, JN_17, JN_18, JN_19, JN_20, JN_21, JN_22, JN_23, JN_24, B1_s, B2_s, BN_s, CD_t, CD_f, GO_tt, GO_ft, GO_tf, GO_ff, GO_ut, GO_uf, GD2_tt, GD2_ft, GD2_tf, GD2_ff, pk_t, pk_f, nilA_p, nilA_i, fa_p, fd_a, ex_t, iadd_i, isub_i, imul_i, ieq_i, ine_i, ilt_i, ile_i, igt_i, ige_i, seq_s, sne_s, slt_s, lens_s, lenx_0, lenx_s, not_b, bb_e, bb_n, cv_i, pe_00, pe_0p, pe_p0, eqB_e, eqB_n, List.getElem?_cons_zero, List.getElem?_cons_succ, Nat.zero_add, Bool.not_true, Bool.not_false, decide_true, decide_false, Int.reduceBEq, Int.reduceBNe, Int.reduceLT, Int.reduceLE, Int.reduceGT, Int.reduceGE, Int.reduceNeg, BEq.rfl, bne_self_eq_false, ge_iff_le, gt_iff_lt]
  | r :: r', i, hr => by
    obtain ⟨hi, hj, hr'⟩ := hd_drop hr
    have hn := hx.lenc
    have d : decide (((i : Nat) : Int) < ((rs.length : Nat) : Int)) = true := decide_eq_true (by omega)
    obtain ⟨a, o, z, u1, u2, u3, u4⟩ := hx.at hj .i64
    obtain ⟨a', o', w1, w2, w3⟩ := rq_at hy hj .i64
    have b1 := b2s_ok u4 (hb r (List.mem_of_getElem? hj))
    have e1 : (r.2 == r.2) = true := by simp
    have e3 : IntKind.wrap .i64 (((i : Nat) : Int) + 1) = ((i + 1 : Nat) : Int) := by rw [wrap_i64 (by omega) (by omega)]; rfl
    have ih := recs_loop (k := k) hx hy hb hl r' (i + 1) hr'
    rw [ql_outriderlaw6_recs]
    simp only [hn, d, u1, u2, w1, w2, u3, b1, w3, e1, e3, ih, JN_0, JN_1, JN_2, JN_3, JN_4, JN_5, JN_6, JN_7, JN_8, JN_9, JN_10, JN_11, JN_12, JN_13, JN_14, JN_15, JN_16, JN_17, JN_18, JN_19, JN_20, JN_21, JN_22, JN_23, JN_24, B1_s, B2_s, BN_s, CD_t, CD_f, GO_tt, GO_ft, GO_tf, GO_ff, GO_ut, GO_uf, GD2_tt, GD2_ft, GD2_tf, GD2_ff, pk_t, pk_f, nilA_p, nilA_i, fa_p, fd_a, ex_t, iadd_i, isub_i, imul_i, ieq_i, ine_i, ilt_i, ile_i, igt_i, ige_i, seq_s, sne_s, slt_s, lens_s, lenx_0, lenx_s, not_b, bb_e, bb_n, cv_i, pe_00, pe_0p, pe_p0, eqB_e, eqB_n, List.getElem?_cons_zero, List.getElem?_cons_succ, Nat.zero_add, Bool.not_true, Bool.not_false, decide_true, decide_false, Int.reduceBEq, Int.reduceBNe, Int.reduceLT, Int.reduceLE, Int.reduceGT, Int.reduceGE, Int.reduceNeg, BEq.rfl, bne_self_eq_false, ge_iff_le, gt_iff_lt]
theorem recs_c {H : Hp} {x y : AV} {rs : List (Nat × List Nat)} {ys : List AV} {el : Nat} (hx : Rs H x rs ys) (hy : Ow H el 2 y (rqs rs)) (hb : ∀ r ∈ rs, ∀ v ∈ r.2, v < 256) (hl : rs.length ≤ 16000000) :
    cK (.func (.func 16) [] []) [x, y] H = some (.bool true, H) := by
  have h1 := hx.lenc
  have h2 := rq_lenx hy
  have lp := fun (k : K.Fn 0) => recs_loop (k := k) hx hy hb hl rs 0 rfl
  rw [show (((0 : Nat) : Int)) = 0 from rfl] at lp
  refine c_outriderlaw6_recs ?_
  unfold s_outriderlaw6_recs
  simp only [h1, h2, lp, JN_0, JN_1, JN_2, JN_3, JN_4, JN_5, JN_6, JN_7, JN_8, JN_9, JN_10, JN_11, JN_12, JN_13, JN_14, JN_15, JN_16, JN_17, JN_18, JN_19, JN_20, JN_21, JN_22, JN_23, JN_24, B1_s, B2_s, BN_s, CD_t, CD_f, GO_tt, GO_ft, GO_tf, GO_ff, GO_ut, GO_uf, GD2_tt, GD2_ft, GD2_tf, GD2_ff, pk_t, pk_f, nilA_p, nilA_i, fa_p, fd_a, ex_t, iadd_i, isub_i, imul_i, ieq_i, ine_i, ilt_i, ile_i, igt_i, ige_i, seq_s, sne_s, slt_s, lens_s, lenx_0, lenx_s, not_b, bb_e, bb_n, cv_i, pe_00, pe_0p, pe_p0, eqB_e, eqB_n, List.getElem?_cons_zero, List.getElem?_cons_succ, Nat.zero_add, Bool.not_true, Bool.not_false, decide_true, decide_false, Int.reduceBEq, Int.reduceBNe, Int.reduceLT, Int.reduceLE, Int.reduceGT, Int.reduceGE, Int.reduceNeg, BEq.rfl, bne_self_eq_false, ge_iff_le, gt_iff_lt]
/-- what a scan's records are -/
theorem scanM_byte : ∀ (f : Nat) (l : List Nat) (first ep : Int), (∀ b ∈ l, b < 256) → ∀ r ∈ (scanM f l first ep).1, r.1 < 18446744073709551616 ∧ ∀ v ∈ r.2, v < 256
  | 0, l, first, ep, hb, r, hr => by cases hr
  | f + 1, l, first, ep, hb, r, hr => by
    rw [scanM] at hr
    split at hr
    · cases hr
    · split at hr
      · rcases List.mem_cons.1 hr with rfl | hr
        · exact ⟨gA_lt hb, fun v hv => hb v (List.mem_of_mem_drop (List.mem_of_mem_take hv))⟩
        · exact scanM_byte f _ _ _ (fun b h => hb b (List.mem_of_mem_drop h)) r hr
      · cases hr
theorem scanM_le : ∀ (f : Nat) (l : List Nat) (first ep : Int), (scanM f l first ep).2 ≤ l.length ∧ (scanM f l first ep).1.length * 16 ≤ l.length
  | 0, l, first, ep => ⟨Nat.zero_le _, by simp [scanM]⟩
  | f + 1, l, first, ep => by
    rw [scanM]
    split
    · exact ⟨Nat.zero_le _, by simp⟩
    · split
      · rename_i h
        unfold on at h
        rw [Bool.and_eq_true, Bool.and_eq_true] at h
        obtain ⟨h1, h2⟩ := gE_0 (of_decide_eq_true h.1.1)
        have ih := scanM_le f (l.drop (16 + gN l)) (IntKind.wrap .i64 (first + 1)) ((gA l / 17592186044416 : Nat) : Int)
        rw [List.length_drop] at ih
        simp only [List.length_cons]
        omega
      · exact ⟨Nat.zero_le _, by simp⟩
theorem scanM_get : ∀ (f : Nat) (l : List Nat) (first ep : Int) (j : Nat) (r : Nat × List Nat), (scanM f l first ep).1[j]? = some r → ((r.1 % 17592186044416 : Nat) : Int) = first + j ∧ ep ≤ ((r.1 / 17592186044416 : Nat) : Int) ∧ ∀ q, (scanM f l first ep).1[j + 1]? = some q → r.1 / 17592186044416 ≤ q.1 / 17592186044416
  | 0, l, first, ep, j, r, h => by simp [scanM] at h
  | f + 1, l, first, ep, j, r, h => by
    rw [scanM] at h ⊢
    split at h
    · simp at h
    · rename_i hne
      rw [if_neg hne]
      split at h
      · rename_i hon
        rw [if_pos hon]
        have hon' := hon
        unfold on at hon'
        rw [Bool.and_eq_true, Bool.and_eq_true] at hon'
        have h1 := of_decide_eq_true hon'.1.2
        have h2 := of_decide_eq_true hon'.2
        have hw : IntKind.wrap .i64 (first + 1) = first + 1 := wrap_i64 (by omega) (by omega)
        have ih := scanM_get f (l.drop (16 + gN l)) (IntKind.wrap .i64 (first + 1)) ((gA l / 17592186044416 : Nat) : Int)
        cases j with
        | zero =>
          simp only [List.getElem?_cons_zero, Option.some.injEq] at h
          subst h
          refine ⟨by simp only; omega, h2, fun q hq => ?_⟩
          simp only [Nat.zero_add, List.getElem?_cons_succ] at hq
          have := (ih 0 q hq).2.1
          simp only
          omega
        | succ j =>
          simp only [List.getElem?_cons_succ] at h
          obtain ⟨a, b, c⟩ := ih j r h
          rw [hw] at a
          refine ⟨by omega, by omega, fun q hq => ?_⟩
          simp only [List.getElem?_cons_succ] at hq
          exact c q hq
      · simp at h
end Go.Proofs.YtdacjomfipkpaaaDoor.SgK
