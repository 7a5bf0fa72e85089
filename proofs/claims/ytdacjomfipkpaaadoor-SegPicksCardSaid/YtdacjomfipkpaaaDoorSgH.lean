/- seg.Scan: contract over the symbolic heap. Conditions: as stated. -/
import Derived.Test.YtdacjomfipkpaaaDoorSgG
namespace Go.Proofs.YtdacjomfipkpaaaDoor.SgK
open Go Am Am.K SgEnv
set_option linter.unusedVariables false
set_option linter.unusedSimpArgs false
/-- records' cells -/
def rcs : List (Nat × List Nat) → List AV → List AV
  | r :: rs, y :: ys => .int .u64 (r.1 : Nat) :: y :: rcs rs ys
  | _, _ => []
theorem rcs_app : ∀ (a : List (Nat × List Nat)) (x : List AV) (r : Nat × List Nat) (y : AV), x.length = a.length → rcs (a ++ [r]) (x ++ [y]) = rcs a x ++ [.int .u64 (r.1 : Nat), y]
  | [], [], r, y, h => rfl
  | q :: a, z :: x, r, y, h => by
    have := rcs_app a x r y (by simpa using h)
    show _ :: _ :: rcs (a ++ [r]) (x ++ [y]) = _
    rw [this]; rfl
theorem rcs_len : ∀ (a : List (Nat × List Nat)) (x : List AV), x.length = a.length → (rcs a x).length = a.length * 2
  | [], [], h => rfl
  | q :: a, z :: x, h => by
    have := rcs_len a x (by simpa using h)
    simp only [rcs, List.length_cons, this]; omega
/-- a slice of records -/
structure Rs (H : Hp) (x : AV) (rs : List (Nat × List Nat)) (ys : List AV) : Prop where
  own : Ow H 48 2 x (rcs rs ys)
  len : ys.length = rs.length
  row : ∀ (j : Nat) (y : AV) (r : Nat × List Nat), ys[j]? = some y → rs[j]? = some r → Rw H 1 y (bs r.2)
  sep : ∀ y ∈ ys, ∀ i ∈ rid y, i ∉ rid x
theorem Rs.out {H H' : Hp} {x : AV} {rs : List (Nat × List Nat)} {ys : List AV} (h : Rs H x rs ys) (k : Out [] H H') : Rs H' x rs ys :=
  ⟨h.own.out k (fun j _ q => by cases q), h.len, fun j y r h1 h2 => (h.row j y r h1 h2).out k (fun j _ q => by cases q), h.sep⟩
/-- does the next record go on? -/
def on (l : List Nat) (first ep : Int) : Bool := decide (gE l = 0) && decide (((gA l % 17592186044416 : Nat) : Int) = first) && decide (ep ≤ ((gA l / 17592186044416 : Nat) : Int))
def scanM : Nat → List Nat → Int → Int → List (Nat × List Nat) × Nat
  | 0, _, _, _ => ([], 0)
  | f + 1, l, first, ep =>
    if l = [] then ([], 0) else
    if on l first ep = true then
      let q := scanM f (l.drop (16 + gN l)) (IntKind.wrap .i64 (first + 1)) ((gA l / 17592186044416 : Nat) : Int)
      ((gA l, gB l) :: q.1, 16 + gN l + q.2)
    else ([], 0)
theorem gA_lt {l : List Nat} (hb : ∀ b ∈ l, b < 256) : gA l < 18446744073709551616 := by
  have h1 := ud_lt ((l.drop 4).take 8) fun v hv => hb v (List.mem_of_mem_drop (List.mem_of_mem_take hv))
  have h2 : ((l.drop 4).take 8).length ≤ 8 := by rw [List.length_take]; omega
  have h3 : 256 ^ ((l.drop 4).take 8).length ≤ 256 ^ 8 := Nat.pow_le_pow_right (by decide) h2
  have h8 : (256 : Nat) ^ 8 = 18446744073709551616 := by decide
  unfold gA
  omega
theorem gE_0 {l : List Nat} (h : gE l = 0) : gN l ≤ 1024 ∧ 16 + gN l ≤ l.length := by
  unfold gE at h
  by_cases c1 : l.length < 4
  · rw [if_pos c1] at h; cases h
  rw [if_neg c1] at h
  by_cases c2 : 1024 < gN l
  · rw [if_pos c2] at h; cases h
  rw [if_neg c2] at h
  by_cases c3 : l.length < 16 + gN l
  · rw [if_pos c3] at h; cases h
  omega
theorem scan_loop {k : K.Fn 2} {H0 : Hp} {x : AV} {l : List Nat} (hx : Rw H0 1 x (bs l)) (hb : ∀ b ∈ l, b < 256) (hl : l.length ≤ 16000000) : ∀ (f n : Nat) (first ep : Int) (s : AV) (rs : List (Nat × List Nat)) (ys : List AV) (H : Hp),
    l.length ≤ n + f → n ≤ l.length → Out [] H0 H → Rs H s rs ys → (∀ j ∈ rid s, H0.next ≤ j) → rs.length * 16 ≤ n →
    ∃ s' ys' H', l_seg_Scan JN GO cK k x (.int .i64 first) (.int .i64 ep) s (.int .i64 (n : Nat)) H = k s' (.int .i64 ((n + (scanM f (l.drop n) first ep).2 : Nat) : Int)) H' ∧ Out [] H0 H' ∧
      Rs H' s' (rs ++ (scanM f (l.drop n) first ep).1) ys' ∧ (∀ j ∈ rid s', H0.next ≤ j)
  | 0, n, first, ep, s, rs, ys, H, hf, hn, ho, hs, hr, hc => by
    have hxn := hx.len1
    rw [bs_len] at hxn
    refine ⟨s, ys, H, ?_, ho, by simpa [scanM] using hs, hr⟩
    rw [ql_seg_Scan]
    have d : decide (((n : Nat) : Int) < ((l.length : Nat) : Int)) = false := decide_eq_false (by omega)
    simp only [hxn, d, scanM, Nat.add_zero, JN_0, JN_1, JN_2, JN_3, JN_4, JN_5, JN_6, JN_7, JN_8, JN_9, JN_10, JN_11, JN_12, JN_13, JN_14, JN_15, JN_16, JN_17, JN_18, JN_19, JN_20, JN_21, JN_22, JN_23, JN_24, B1_s, B2_s, BN_s, CD_t, CD_f, GO_tt, GO_ft, GO_tf, GO_ff, GO_ut, GO_uf, GD2_tt, GD2_ft, GD2_tf, GD2_ff, pk_t, pk_f, nilA_p, nilA_i, fa_p, fd_a, ex_t, iadd_i, isub_i, imul_i, ieq_i, ine_i, ilt_i, ile_i, igt_i, ige_i, seq_s, sne_s, slt_s, lens_s, lenx_0, lenx_s, not_b, bb_e, bb_n, cv_i, pe_00, pe_0p, pe_p0, eqB_e, eqB_n, List.getElem?_cons_zero, List.getElem?_cons_succ, Nat.zero_add, Bool.not_true, Bool.not_false, decide_true, decide_false, Int.reduceBEq, Int.reduceBNe, Int.reduceLT, Int.reduceLE, Int.reduceGT, Int.reduceGE, Int.reduceNeg, BEq.rfl, bne_self_eq_false, ge_iff_le, gt_iff_lt]
  | f + 1, n, first, ep, s, rs, ys, H, hf, hn, ho, hs, hr, hc => by
    have hxn := hx.len1
    rw [bs_len] at hxn
    by_cases hend : l.length ≤ n
    · have he : l.drop n = [] := List.drop_eq_nil_of_le hend
      refine ⟨s, ys, H, ?_, ho, by rw [he]; simpa [scanM] using hs, hr⟩
      rw [ql_seg_Scan, he]
      have d : decide (((n : Nat) : Int) < ((l.length : Nat) : Int)) = false := decide_eq_false (by omega)
      simp only [hxn, d, scanM, if_true, Nat.add_zero, JN_0, JN_1, JN_2, JN_3, JN_4, JN_5, JN_6, JN_7, JN_8, JN_9, JN_10, JN_11, JN_12, JN_13, JN_14, JN_15, JN_16, JN_17, JN_18, JN_19, JN_20, JN_21, JN_22, JN_23, JN_24, B1_s, B2_s, BN_s, CD_t, CD_f, GO_tt, GO_ft, GO_tf, GO_ff, GO_ut, GO_uf, GD2_tt, GD2_ft, GD2_tf, GD2_ff, pk_t, pk_f, nilA_p, nilA_i, fa_p, fd_a, ex_t, iadd_i, isub_i, imul_i, ieq_i, ine_i, ilt_i, ile_i, igt_i, ige_i, seq_s, sne_s, slt_s, lens_s, lenx_0, lenx_s, not_b, bb_e, bb_n, cv_i, pe_00, pe_0p, pe_p0, eqB_e, eqB_n, List.getElem?_cons_zero, List.getElem?_cons_succ, Nat.zero_add, Bool.not_true, Bool.not_false, decide_true, decide_false, Int.reduceBEq, Int.reduceBNe, Int.reduceLT, Int.reduceLE, Int.reduceGT, Int.reduceGE, Int.reduceNeg, BEq.rfl, bne_self_eq_false, ge_iff_le, gt_iff_lt]
    · have d : decide (((n : Nat) : Int) < ((l.length : Nat) : Int)) = true := decide_eq_true (by omega)
      have hne : l.drop n ≠ [] := fun q => by
        have := congrArg List.length q
        rw [List.length_drop] at this
        simp at this
        omega
      have hx1 := hx.out ho fun j _ q => by cases q
      obtain ⟨x1, u1, u2⟩ := cut_c hx1 (a := n) (b := l.length) (by omega) (Nat.le_refl _) (lo := some (.int .i64 (n : Nat))) (hi := none) (Bd.yes _ _ _) (Bd.no _)
      rw [show (l.drop n).take (l.length - n) = l.drop n from List.take_of_length_le (by rw [List.length_drop]; exact Nat.le_refl _)] at u2
      have hb1 : ∀ b ∈ l.drop n, b < 256 := fun b hv => hb b (List.mem_of_mem_drop hv)
      obtain ⟨y, H1, g1, g2, g3, g4⟩ := get_c u2 hb1 (by rw [List.length_drop]; omega)
      obtain ⟨H2, n1, n2, n3, n4⟩ := newCells_ok H1 [.int .u64 0, .slice0] 48 0 (by simp)
      have hgA := gA_lt hb1
      generalize hL : l.drop n = L at *
      have oy : Out [] H1 H2 := n3
      have yr2 := g3.rw.out n3 fun j _ q => by cases q
      obtain ⟨H3, t1, t2, t3, t4⟩ := st_all (n := 2) n2 (by omega) (cells_rec g3.rw ((if gE L = 0 then gA L else 0 : Nat) : Int)) rfl rfl (by
        intro v hv
        rcases List.mem_cons.1 hv with rfl | hv
        · rfl
        · rcases List.mem_cons.1 hv with rfl | hv
          · exact one_rw g3.rw
          · cases hv)
      have l0 : ld (.ptr H1.next 0) H3 = some (.int .u64 ((if gE L = 0 then gA L else 0 : Nat) : Int)) := t2.ld rfl
      have o3 : Out [] H1 H3 := n3.then t3 fun j hj => by rw [List.mem_singleton] at hj; exact .inr (by omega)
      have oH3 : Out [] H0 H3 := (ho.trans g2).trans o3
      by_cases hE : gE L = 0
      · simp only [if_pos hE] at g1 g3 t1 t2 l0
        have d1 : (((gE L : Nat) : Int) != 0) = false := by rw [hE]; rfl
        have f1 := off_c (H := H3) (gA L) hgA
        have f2 := epoch_c (H := H3) (gA L) hgA
        by_cases h1 : ((gA L % 17592186044416 : Nat) : Int) = first
        · have d2 : (((gA L % 17592186044416 : Nat) : Int) != first) = false := by rw [bne_eq_false_iff_eq]; exact h1
          by_cases h2 : ep ≤ ((gA L / 17592186044416 : Nat) : Int)
          · have d3 : decide (((gA L / 17592186044416 : Nat) : Int) < ep) = false := decide_eq_false (by omega)
            have hon : on L first ep = true := by unfold on; rw [decide_eq_true hE, decide_eq_true h1, decide_eq_true h2]; rfl
            obtain ⟨b1, b2⟩ := gE_0 hE
            have bL : L.length + n = l.length := by rw [← hL, List.length_drop]; omega
            have cr := cells_rec g3.rw ((gA L : Nat) : Int)
            have t5 : lda 2 (.ptr H1.next 0) H3 = some (.agg [.int .u64 ((gA L : Nat) : Int), y]) := t2.lda (n := 2) (o := 0) (by simp)
            have fl2 : fl [.int .u64 0, .slice0] [(0, 2, .agg [.int .u64 ((gA L : Nat) : Int), y])] = some [.int .u64 ((gA L : Nat) : Int), y] := by
              simp [fl, cr]
            obtain ⟨H4, m1, m2, m3, m4⟩ := newCells_ok H3 [.int .u64 ((gA L : Nat) : Int), y] 48 0 (by simp)
            have oH4 : Out [] H H4 := (g2.trans o3).trans m3
            have hrow : Rw H4 2 (.slice H3.next 0 1 1 true 2) [.int .u64 ((gA L : Nat) : Int), y] := .mk m2.ro rfl (Nat.le_refl _) rfl
            have hs4 := hs.out oH4
            have hsl := hs.own.rw.lt
            obtain ⟨s', H5, a1, a2, a3, a4⟩ := append_ok (z := [.int .u64 0, .slice0]) hs4.own hrow (by
              intro v hv
              rcases List.mem_cons.1 hv with rfl | hv
              · rfl
              · rcases List.mem_cons.1 hv with rfl | hv
                · exact one_rw g3.rw
                · cases hv) (by omega) (by rw [rcs_len _ _ hs.len]; simp only [List.length_cons, List.length_nil]; omega)
            have o5 : Out [] H0 H5 := (ho.trans oH4).then a3 fun j hj => .inr (hr j hj)
            have yo : Rw H4 1 y (bs (gB L)) := g3.rw.out (o3.trans m3) fun j _ q => by cases q
            have yns : ∀ i ∈ rid y, i ∉ rid s := fun i hi q => by
              have := g4 i hi
              have := hsl i q
              omega
            have hrs' : Rs H5 s' (rs ++ [(gA L, gB L)]) (ys ++ [y]) := by
              refine ⟨by rw [rcs_app _ _ _ _ hs.len]; exact a2, by simp [hs.len], ?_, ?_⟩
              · intro j z r h3 h4
                by_cases hj : j < ys.length
                · rw [List.getElem?_append_left hj] at h3
                  rw [List.getElem?_append_left (by rw [← hs.len]; exact hj)] at h4
                  exact (hs4.row j z r h3 h4).out a3 (hs.sep z (List.mem_of_getElem? h3))
                · rw [List.getElem?_append_right (by omega)] at h3
                  rw [List.getElem?_append_right (by rw [← hs.len]; omega), ← hs.len] at h4
                  obtain ⟨e1, rfl⟩ : j - ys.length = 0 ∧ z = y := by
                    cases hq : j - ys.length with
                    | zero => rw [hq] at h3; simp at h3; exact ⟨rfl, h3.symm⟩
                    | succ q => rw [hq] at h3; simp at h3
                  rw [e1] at h4
                  simp at h4
                  subst h4
                  exact yo.out a3 yns
              · intro z hz i hi q
                rcases List.mem_append.1 hz with hz | hz
                · rcases a4 i q with q | q
                  · exact hs.sep z hz i hi q
                  · obtain ⟨j, hj⟩ := List.mem_iff_getElem?.1 hz
                    obtain ⟨r, hr'⟩ : ∃ r, rs[j]? = some r := ⟨_, List.getElem?_eq_getElem (by rw [← hs.len]; exact (List.getElem?_eq_some_iff.1 hj).1)⟩
                    have := (hs4.row j z r hj hr').lt i hi
                    omega
                · rw [List.mem_singleton] at hz
                  subst hz
                  rcases a4 i q with q | q
                  · exact yns i hi q
                  · have := yo.lt i hi; omega
            have hr5 : ∀ j ∈ rid s', H0.next ≤ j := fun j hj => (a4 j hj).elim (hr j) fun q => Nat.le_trans (ho.trans oH4).1 q
            have t6 : ld (.ptr H1.next 0) H5 = some (.int .u64 ((gA L : Nat) : Int)) := ((t2.out m3 fun q => by cases q).out a3 fun q => by
              have := hsl _ q
              have := g2.1
              omega).ld rfl
            have f3 := epoch_c (H := H5) (gA L) hgA
            obtain ⟨s2, ys2, H6, k1, k2, k3, k4⟩ := scan_loop (k := k) hx hb hl f (n + (16 + gN L)) (IntKind.wrap .i64 (first + 1)) ((gA L / 17592186044416 : Nat) : Int) s' _ _ H5 (by omega) (by omega) o5 hrs' hr5 (by rw [List.length_append]; simp only [List.length_cons, List.length_nil]; omega)
            have hdr : l.drop (n + (16 + gN L)) = L.drop (16 + gN L) := by rw [← List.drop_drop, hL]
            rw [hdr] at k1 k3
            have hsm : scanM (f + 1) L first ep = ((gA L, gB L) :: (scanM f (L.drop (16 + gN L)) (IntKind.wrap .i64 (first + 1)) ((gA L / 17592186044416 : Nat) : Int)).1, 16 + gN L + (scanM f (L.drop (16 + gN L)) (IntKind.wrap .i64 (first + 1)) ((gA L / 17592186044416 : Nat) : Int)).2) := by
              rw [scanM, if_neg hne, if_pos hon]
            have w1 : IntKind.wrap .i64 (((n : Nat) : Int) + ((16 + gN L : Nat) : Int)) = ((n + (16 + gN L) : Nat) : Int) := by rw [wrap_i64 (by omega) (by omega)]; rfl
            rw [hsm]
            refine ⟨s2, ys2, H6, ?_, k2, by simpa using k3, k4⟩
            rw [ql_seg_Scan]
            simp only [hxn, d, u1, g1, n1, t1, l0, d1, f1, d2, f2, d3, t5, fl2, m1, a1, w1, t6, f3, JN_0, JN_1, JN_2, JN_3, JN_4, JN_5, JN_6, JN_7, JN_8, JN_9, JN_10, JN_11, JN_12, JN_13, JN_14, JN_15, JN_16, JN_17, JN_18, JN_19, JN_20, JN_21, JN_22, JN_23, JN_24, B1_s, B2_s, BN_s, CD_t, CD_f, GO_tt, GO_ft, GO_tf, GO_ff, GO_ut, GO_uf, GD2_tt, GD2_ft, GD2_tf, GD2_ff, pk_t, pk_f, nilA_p, nilA_i, fa_p, fd_a, ex_t, iadd_i, isub_i, imul_i, ieq_i, ine_i, ilt_i, ile_i, igt_i, ige_i, seq_s, sne_s, slt_s, lens_s, lenx_0, lenx_s, not_b, bb_e, bb_n, cv_i, pe_00, pe_0p, pe_p0, eqB_e, eqB_n, List.getElem?_cons_zero, List.getElem?_cons_succ, Nat.zero_add, Bool.not_true, Bool.not_false, decide_true, decide_false, Int.reduceBEq, Int.reduceBNe, Int.reduceLT, Int.reduceLE, Int.reduceGT, Int.reduceGE, Int.reduceNeg, BEq.rfl, bne_self_eq_false, ge_iff_le, gt_iff_lt]
            rw [k1]
            congr 3
            omega
          · have d3 : decide (((gA L / 17592186044416 : Nat) : Int) < ep) = true := decide_eq_true (by omega)
            have hon : ¬ on L first ep = true := by unfold on; rw [decide_eq_false h2, Bool.and_false]; decide
            have hsm : scanM (f + 1) L first ep = ([], 0) := by rw [scanM, if_neg hne, if_neg hon]
            rw [hsm]
            refine ⟨s, ys, H3, ?_, oH3, by simpa using hs.out (g2.trans o3), hr⟩
            rw [ql_seg_Scan]
            simp only [hxn, d, u1, g1, n1, t1, l0, d1, f1, d2, f2, d3, Nat.add_zero, JN_0, JN_1, JN_2, JN_3, JN_4, JN_5, JN_6, JN_7, JN_8, JN_9, JN_10, JN_11, JN_12, JN_13, JN_14, JN_15, JN_16, JN_17, JN_18, JN_19, JN_20, JN_21, JN_22, JN_23, JN_24, B1_s, B2_s, BN_s, CD_t, CD_f, GO_tt, GO_ft, GO_tf, GO_ff, GO_ut, GO_uf, GD2_tt, GD2_ft, GD2_tf, GD2_ff, pk_t, pk_f, nilA_p, nilA_i, fa_p, fd_a, ex_t, iadd_i, isub_i, imul_i, ieq_i, ine_i, ilt_i, ile_i, igt_i, ige_i, seq_s, sne_s, slt_s, lens_s, lenx_0, lenx_s, not_b, bb_e, bb_n, cv_i, pe_00, pe_0p, pe_p0, eqB_e, eqB_n, List.getElem?_cons_zero, List.getElem?_cons_succ, Nat.zero_add, Bool.not_true, Bool.not_false, decide_true, decide_false, Int.reduceBEq, Int.reduceBNe, Int.reduceLT, Int.reduceLE, Int.reduceGT, Int.reduceGE, Int.reduceNeg, BEq.rfl, bne_self_eq_false, ge_iff_le, gt_iff_lt]
        · have d2 : (((gA L % 17592186044416 : Nat) : Int) != first) = true := by rw [bne_iff_ne]; exact h1
          have hon : ¬ on L first ep = true := by unfold on; rw [decide_eq_false h1, Bool.and_false, Bool.false_and]; decide
          have hsm : scanM (f + 1) L first ep = ([], 0) := by rw [scanM, if_neg hne, if_neg hon]
          rw [hsm]
          refine ⟨s, ys, H3, ?_, oH3, by simpa using hs.out (g2.trans o3), hr⟩
          rw [ql_seg_Scan]
          simp only [hxn, d, u1, g1, n1, t1, l0, d1, f1, d2, Nat.add_zero, JN_0, JN_1, JN_2, JN_3, JN_4, JN_5, JN_6, JN_7, JN_8, JN_9, JN_10, JN_11, JN_12, JN_13, JN_14, JN_15, JN_16, JN_17, JN_18, JN_19, JN_20, JN_21, JN_22, JN_23, JN_24, B1_s, B2_s, BN_s, CD_t, CD_f, GO_tt, GO_ft, GO_tf, GO_ff, GO_ut, GO_uf, GD2_tt, GD2_ft, GD2_tf, GD2_ff, pk_t, pk_f, nilA_p, nilA_i, fa_p, fd_a, ex_t, iadd_i, isub_i, imul_i, ieq_i, ine_i, ilt_i, ile_i, igt_i, ige_i, seq_s, sne_s, slt_s, lens_s, lenx_0, lenx_s, not_b, bb_e, bb_n, cv_i, pe_00, pe_0p, pe_p0, eqB_e, eqB_n, List.getElem?_cons_zero, List.getElem?_cons_succ, Nat.zero_add, Bool.not_true, Bool.not_false, decide_true, decide_false, Int.reduceBEq, Int.reduceBNe, Int.reduceLT, Int.reduceLE, Int.reduceGT, Int.reduceGE, Int.reduceNeg, BEq.rfl, bne_self_eq_false, ge_iff_le, gt_iff_lt]
      · have d1 : (((gE L : Nat) : Int) != 0) = true := by rw [bne_iff_ne]; omega
        have hon : ¬ on L first ep = true := by unfold on; rw [decide_eq_false hE, Bool.false_and, Bool.false_and]; decide
        have hsm : scanM (f + 1) L first ep = ([], 0) := by rw [scanM, if_neg hne, if_neg hon]
        rw [hsm]
        refine ⟨s, ys, H3, ?_, oH3, by simpa using hs.out (g2.trans o3), hr⟩
        rw [ql_seg_Scan]
        simp only [hxn, d, u1, g1, n1, t1, d1, Nat.add_zero, JN_0, JN_1, JN_2, JN_3, JN_4, JN_5, JN_6, JN_7, JN_8, JN_9, JN_10, JN_11, JN_12, JN_13, JN_14, JN_15, JN_16, JN_17, JN_18, JN_19, JN_20, JN_21, JN_22, JN_23, JN_24, B1_s, B2_s, BN_s, CD_t, CD_f, GO_tt, GO_ft, GO_tf, GO_ff, GO_ut, GO_uf, GD2_tt, GD2_ft, GD2_tf, GD2_ff, pk_t, pk_f, nilA_p, nilA_i, fa_p, fd_a, ex_t, iadd_i, isub_i, imul_i, ieq_i, ine_i, ilt_i, ile_i, igt_i, ige_i, seq_s, sne_s, slt_s, lens_s, lenx_0, lenx_s, not_b, bb_e, bb_n, cv_i, pe_00, pe_0p, pe_p0, eqB_e, eqB_n, List.getElem?_cons_zero, List.getElem?_cons_succ, Nat.zero_add, Bool.not_true, Bool.not_false, decide_true, decide_false, Int.reduceBEq, Int.reduceBNe, Int.reduceLT, Int.reduceLE, Int.reduceGT, Int.reduceGE, Int.reduceNeg, BEq.rfl, bne_self_eq_false, ge_iff_le, gt_iff_lt]
theorem scan_c {H : Hp} {x : AV} {l : List Nat} (hx : Rw H 1 x (bs l)) (hb : ∀ b ∈ l, b < 256) (hl : l.length ≤ 16000000) (first ep : Int) :
    ∃ s ys H', cK (.func (.func 14) [] []) [x, .int .i64 first, .int .i64 ep] H = some (.tuple [s, .int .i64 (((scanM l.length l first ep).2 : Nat) : Int)], H') ∧ Out [] H H' ∧ Rs H' s (scanM l.length l first ep).1 ys ∧ (∀ j ∈ rid s, H.next ≤ j) := by
  obtain ⟨s, ys, H', h1, h2, h3, h4⟩ := scan_loop (k := fun a b h => some (.tuple [a, b], h)) hx hb hl l.length 0 first ep .slice0 [] [] H (by omega) (Nat.zero_le _) (Out.refl _ _) ⟨.nil, rfl, fun j y r h => by simp at h, fun y h => by cases h⟩ (fun j hj => by cases hj) (by simp)
  rw [List.drop_zero, Nat.zero_add, show (((0 : Nat) : Int)) = 0 from rfl] at h1
  rw [List.drop_zero, List.nil_append] at h3
  refine ⟨s, ys, H', c_seg_Scan ?_, h2, h3, h4⟩
  unfold s_seg_Scan
  simp only [JN_0, JN_1, JN_2, JN_3, JN_4, JN_5, JN_6, JN_7, JN_8, JN_9, JN_10, JN_11, JN_12, JN_13, JN_14, JN_15, JN_16, JN_17, JN_18, JN_19, JN_20, JN_21, JN_22, JN_23, JN_24, B1_s, B2_s, BN_s, CD_t, CD_f, GO_tt, GO_ft, GO_tf, GO_ff, GO_ut, GO_uf, GD2_tt, GD2_ft, GD2_tf, GD2_ff, pk_t, pk_f, nilA_p, nilA_i, fa_p, fd_a, ex_t, iadd_i, isub_i, imul_i, ieq_i, ine_i, ilt_i, ile_i, igt_i, ige_i, seq_s, sne_s, slt_s, lens_s, lenx_0, lenx_s, not_b, bb_e, bb_n, cv_i, pe_00, pe_0p, pe_p0, eqB_e, eqB_n, List.getElem?_cons_zero, List.getElem?_cons_succ, Nat.zero_add, Bool.not_true, Bool.not_false, decide_true, decide_false, Int.reduceBEq, Int.reduceBNe, Int.reduceLT, Int.reduceLE, Int.reduceGT, Int.reduceGE, Int.reduceNeg, BEq.rfl, bne_self_eq_false, ge_iff_le, gt_iff_lt]
  exact h1
end Go.Proofs.YtdacjomfipkpaaaDoor.SgK
