/- The document's own names of segments; SegSays over the symbolic heap. Conditions: what the listed variables hold. -/
import Derived.Test.YtdacjomfipkpaaaDoorSgT
import Derived.Test.YtdacjomfipkpaaaDoorSgL1
namespace Go.Proofs.YtdacjomfipkpaaaDoor.SgK
open Go Am Am.K SgEnv Sg SegPrim SgN
set_option linter.unusedVariables false
set_option linter.unusedSimpArgs false
theorem quo_n {a b : Nat} (hb : 0 < b) (ha : a ≤ 9223372036854775807) : iquo (.int .i64 (a : Int)) (.int .i64 (b : Int)) = some (.int .i64 ((a / b : Nat) : Int)) := by
  rw [iquo_i _ _ _ (by omega)]
  have : Int.tdiv (a : Int) (b : Int) = ((a / b : Nat) : Int) := rfl
  have h := Nat.div_le_self a b
  rw [this]
  generalize a / b = c at *
  rw [wrap_i64 (by omega) (by omega)]
theorem sls_dig (d : Nat) (h : d < 16) : sls (.str [48, 49, 50, 51, 52, 53, 54, 55, 56, 57, 97, 98, 99, 100, 101, 102]) (some (.int .i64 (d : Nat))) (some (.int .i64 ((d + 1 : Nat) : Int))) = some (.str [(hd d).toNat]) := by
  unfold sls
  have k : ∀ d : Fin 16, (([48, 49, 50, 51, 52, 53, 54, 55, 56, 57, 97, 98, 99, 100, 101, 102] : List Nat).drop d).take (d + 1 - d) = [(hd d).toNat] := by decide
  have e := sliceBnd_ok (len := 16) (cap := 16) (a := d) (b := d + 1) (lo := some (.int .i64 (d : Nat))) (hi := some (.int .i64 ((d + 1 : Nat) : Int))) (by omega) (by omega) (Nat.le_refl _) (Bd.yes _ _ _) (Bd.yes _ _ _)
  show ((sliceBnd 16 16 _ _ none).map _) = _
  rw [e]
  exact congrArg (fun l => some (AV.str l)) (k ⟨d, h⟩)
theorem rname_loop {k : K.Fn 1} {H : Hp} {n : Nat} (hn : n < 17592186044416) : ∀ (r j : Nat), j + r = 12 →
    l_outriderref1_SegName JN GO cK k (.int .i64 ((n / 16 ^ j : Nat) : Int)) (.str ((pad j n).map (·.toNat))) (.int .i64 (j : Nat)) H = k (.str ((pad 12 n).map (·.toNat))) H
  | 0, j, h => by
    obtain rfl : j = 12 := by omega
    rw [ql_outriderref1_SegName]
    have d : decide (((12 : Nat) : Int) < 12) = false := by decide
    simp only [d, JN_0, JN_1, JN_2, JN_3, JN_4, JN_5, JN_6, JN_7, JN_8, JN_9, JN_10, JN_11, JN_12, JN_13, JN_14, JN_15, JN_16, JN_17, JN_18, JN_19, JN_20, JN_21, JN_22, JN_23, JN_24, B1_s, B2_s, BN_s, CD_t, CD_f, GO_tt, GO_ft, GO_tf, GO_ff, GO_ut, GO_uf, GD2_tt, GD2_ft, GD2_tf, GD2_ff, pk_t, pk_f, nilA_p, nilA_i, fa_p, fd_a, ex_t, iadd_i, isub_i, imul_i, ieq_i, ine_i, ilt_i, ile_i, igt_i, ige_i, seq_s, sne_s, slt_s, lens_s, lenx_0, lenx_s, not_b, bb_e, bb_n, cv_i, pe_00, pe_0p, pe_p0, eqB_e, eqB_n, List.getElem?_cons_zero, List.getElem?_cons_succ, Nat.zero_add, Bool.not_true, Bool.not_false, decide_true, decide_false, Int.reduceBEq, Int.reduceBNe, Int.reduceLT, Int.reduceLE, Int.reduceGT, Int.reduceGE, Int.reduceNeg, BEq.rfl, bne_self_eq_false, ge_iff_le, gt_iff_lt]
  | r + 1, j, h => by
    have ih := rname_loop (k := k) (H := H) hn r (j + 1) (by omega)
    have d : decide (((j : Nat) : Int) < 12) = true := decide_eq_true (by omega)
    have hle := Nat.div_le_self n (16 ^ j)
    have hdd : n / 16 ^ j / 16 = n / 16 ^ (j + 1) := by rw [Nat.div_div_eq_div_mul, Nat.pow_succ]
    rw [pad_cons, List.map_cons, ← hdd] at ih
    have hpl : ((pad j n).map (·.toNat)).length = j := by rw [List.length_map, pad_length]
    generalize (pad j n).map (·.toNat) = pj at *
    generalize n / 16 ^ j = u at *
    have e1 := rem_n (a := u) (b := 16) (by decide)
    have hm := Nat.mod_lt u (show 0 < 16 by decide)
    have e2 : IntKind.wrap .i64 (((u % 16 : Nat) : Int) + 1) = ((u % 16 + 1 : Nat) : Int) := by rw [wrap_i64 (by omega) (by omega)]; rfl
    have e3 := sls_dig (u % 16) hm
    have e4 : scat (.str [(hd (u % 16)).toNat]) (.str pj) = some (.str ((hd (u % 16)).toNat :: pj)) := scat_s (by simp only [List.length_cons, List.length_nil]; omega)
    have e5 := quo_n (a := u) (b := 16) (by decide) (by omega)
    have e6 : IntKind.wrap .i64 (((j : Nat) : Int) + 1) = ((j + 1 : Nat) : Int) := by rw [wrap_i64 (by omega) (by omega)]; rfl
    rw [show (((16 : Nat) : Int)) = 16 from rfl] at e1 e5
    rw [ql_outriderref1_SegName]
    simp only [d, e1, e2, e3, e4, e5, e6, JN_0, JN_1, JN_2, JN_3, JN_4, JN_5, JN_6, JN_7, JN_8, JN_9, JN_10, JN_11, JN_12, JN_13, JN_14, JN_15, JN_16, JN_17, JN_18, JN_19, JN_20, JN_21, JN_22, JN_23, JN_24, B1_s, B2_s, BN_s, CD_t, CD_f, GO_tt, GO_ft, GO_tf, GO_ff, GO_ut, GO_uf, GD2_tt, GD2_ft, GD2_tf, GD2_ff, pk_t, pk_f, nilA_p, nilA_i, fa_p, fd_a, ex_t, iadd_i, isub_i, imul_i, ieq_i, ine_i, ilt_i, ile_i, igt_i, ige_i, seq_s, sne_s, slt_s, lens_s, lenx_0, lenx_s, not_b, bb_e, bb_n, cv_i, pe_00, pe_0p, pe_p0, eqB_e, eqB_n, List.getElem?_cons_zero, List.getElem?_cons_succ, Nat.zero_add, Bool.not_true, Bool.not_false, decide_true, decide_false, Int.reduceBEq, Int.reduceBNe, Int.reduceLT, Int.reduceLE, Int.reduceGT, Int.reduceGE, Int.reduceNeg, BEq.rfl, bne_self_eq_false, ge_iff_le, gt_iff_lt]
    exact ih
theorem rname_c {H : Hp} (a : Int) : cK (.func (.func 12) [] []) [.int .i64 a] H = some (.tuple [.str (nms a), .bool (inN a)], H) := by
  refine c_outriderref1_SegName ?_
  unfold s_outriderref1_SegName
  by_cases h0 : a < 0
  · have i0 : inN a = false := inN_f (by omega)
    have n0 : nms a = [] := by unfold nms; rw [i0]; rfl
    have d0 : decide (a < 0) = true := decide_eq_true h0
    rw [i0, n0]
    simp only [d0, JN_0, JN_1, JN_2, JN_3, JN_4, JN_5, JN_6, JN_7, JN_8, JN_9, JN_10, JN_11, JN_12, JN_13, JN_14, JN_15, JN_16, JN_17, JN_18, JN_19, JN_20, JN_21, JN_22, JN_23, JN_24, B1_s, B2_s, BN_s, CD_t, CD_f, GO_tt, GO_ft, GO_tf, GO_ff, GO_ut, GO_uf, GD2_tt, GD2_ft, GD2_tf, GD2_ff, pk_t, pk_f, nilA_p, nilA_i, fa_p, fd_a, ex_t, iadd_i, isub_i, imul_i, ieq_i, ine_i, ilt_i, ile_i, igt_i, ige_i, seq_s, sne_s, slt_s, lens_s, lenx_0, lenx_s, not_b, bb_e, bb_n, cv_i, pe_00, pe_0p, pe_p0, eqB_e, eqB_n, List.getElem?_cons_zero, List.getElem?_cons_succ, Nat.zero_add, Bool.not_true, Bool.not_false, decide_true, decide_false, Int.reduceBEq, Int.reduceBNe, Int.reduceLT, Int.reduceLE, Int.reduceGT, Int.reduceGE, Int.reduceNeg, BEq.rfl, bne_self_eq_false, ge_iff_le, gt_iff_lt]
  · have d0 : decide (a < 0) = false := decide_eq_false h0
    by_cases h1 : 17592186044416 ≤ a
    · have i0 : inN a = false := inN_f (by omega)
      have n0 : nms a = [] := by unfold nms; rw [i0]; rfl
      have d1 : decide (17592186044416 ≤ a) = true := decide_eq_true h1
      rw [i0, n0]
      simp only [d0, d1, JN_0, JN_1, JN_2, JN_3, JN_4, JN_5, JN_6, JN_7, JN_8, JN_9, JN_10, JN_11, JN_12, JN_13, JN_14, JN_15, JN_16, JN_17, JN_18, JN_19, JN_20, JN_21, JN_22, JN_23, JN_24, B1_s, B2_s, BN_s, CD_t, CD_f, GO_tt, GO_ft, GO_tf, GO_ff, GO_ut, GO_uf, GD2_tt, GD2_ft, GD2_tf, GD2_ff, pk_t, pk_f, nilA_p, nilA_i, fa_p, fd_a, ex_t, iadd_i, isub_i, imul_i, ieq_i, ine_i, ilt_i, ile_i, igt_i, ige_i, seq_s, sne_s, slt_s, lens_s, lenx_0, lenx_s, not_b, bb_e, bb_n, cv_i, pe_00, pe_0p, pe_p0, eqB_e, eqB_n, List.getElem?_cons_zero, List.getElem?_cons_succ, Nat.zero_add, Bool.not_true, Bool.not_false, decide_true, decide_false, Int.reduceBEq, Int.reduceBNe, Int.reduceLT, Int.reduceLE, Int.reduceGT, Int.reduceGE, Int.reduceNeg, BEq.rfl, bne_self_eq_false, ge_iff_le, gt_iff_lt]
    · have d1 : decide (17592186044416 ≤ a) = false := decide_eq_false h1
      have i1 : inN a = true := inN_t (by omega) (by omega)
      obtain ⟨n, rfl⟩ := Int.eq_ofNat_of_zero_le (show 0 ≤ a by omega)
      have n1 : nms ((n : Nat) : Int) = [119, 45] ++ (pad 12 n).map (·.toNat) := by rw [nms_t i1]; rfl
      have lp := fun (k : K.Fn 1) => rname_loop (k := k) (H := H) (n := n) (by omega) 12 0 rfl
      rw [Nat.pow_zero, Nat.div_one, show (((0 : Nat) : Int)) = 0 from rfl, show (pad 0 n).map (·.toNat) = [] from rfl] at lp
      have e4 : scat (.str [119, 45]) (.str ((pad 12 n).map (·.toNat))) = some (.str ([119, 45] ++ (pad 12 n).map (·.toNat))) := scat_s (by rw [List.length_map, pad_length]; simp)
      rw [i1, n1]
      simp only [d0, d1, lp, e4, JN_0, JN_1, JN_2, JN_3, JN_4, JN_5, JN_6, JN_7, JN_8, JN_9, JN_10, JN_11, JN_12, JN_13, JN_14, JN_15, JN_16, JN_17, JN_18, JN_19, JN_20, JN_21, JN_22, JN_23, JN_24, B1_s, B2_s, BN_s, CD_t, CD_f, GO_tt, GO_ft, GO_tf, GO_ff, GO_ut, GO_uf, GD2_tt, GD2_ft, GD2_tf, GD2_ff, pk_t, pk_f, nilA_p, nilA_i, fa_p, fd_a, ex_t, iadd_i, isub_i, imul_i, ieq_i, ine_i, ilt_i, ile_i, igt_i, ige_i, seq_s, sne_s, slt_s, lens_s, lenx_0, lenx_s, not_b, bb_e, bb_n, cv_i, pe_00, pe_0p, pe_p0, eqB_e, eqB_n, List.getElem?_cons_zero, List.getElem?_cons_succ, Nat.zero_add, Bool.not_true, Bool.not_false, decide_true, decide_false, Int.reduceBEq, Int.reduceBNe, Int.reduceLT, Int.reduceLE, Int.reduceGT, Int.reduceGE, Int.reduceNeg, BEq.rfl, bne_self_eq_false, ge_iff_le, gt_iff_lt]
theorem ixs_s {s : List Nat} {i c : Nat} (h : s[i]? = some c) : ixs (.str s) (.int .i64 (i : Nat)) = some (.int .u8 (c : Nat)) := by
  unfold ixs
  simp only
  rw [if_pos (Int.natCast_nonneg i), Int.toNat_natCast, h]
  rfl
theorem dgo_n {c : Nat} (h : c < 256) : dgo (UInt8.ofNat c) = if 97 ≤ c then (if c ≤ 102 then some (c - 87) else none) else if 48 ≤ c ∧ c ≤ 63 then some (c - 48) else none := by
  have : (UInt8.ofNat c).toNat = c := by
    rw [UInt8.toNat_ofNat']
    exact Nat.mod_eq_of_lt h
  unfold dgo
  rw [this]
theorem rparse_loop {k : K.Fn 2} {H : Hp} {s : List Nat} (hs : s.length = 14) (hb : ∀ c ∈ s, c < 256) : ∀ (r : List Nat) (i m : Nat), s.drop i = r → 2 ≤ i → i ≤ 14 → m < 16 ^ (i - 2) →
    l_outriderref1_SegParse JN GO cK k (.str s) (.int .i64 (m : Nat)) (.int .i64 (i : Nat)) H = match dec m (r.map UInt8.ofNat) with
      | none => some (.tuple [.int .i64 0, .bool false], H)
      | some v => k (.str s) (.int .i64 (v : Nat)) H
  | [], i, m, hr, h2, hi, hm => by
    have : s.length ≤ i := by simpa using hr
    obtain rfl : i = 14 := by omega
    rw [ql_outriderref1_SegParse]
    have d : decide (((14 : Nat) : Int) < 14) = false := by decide
    simp only [d, List.map_nil, dec, JN_0, JN_1, JN_2, JN_3, JN_4, JN_5, JN_6, JN_7, JN_8, JN_9, JN_10, JN_11, JN_12, JN_13, JN_14, JN_15, JN_16, JN_17, JN_18, JN_19, JN_20, JN_21, JN_22, JN_23, JN_24, B1_s, B2_s, BN_s, CD_t, CD_f, GO_tt, GO_ft, GO_tf, GO_ff, GO_ut, GO_uf, GD2_tt, GD2_ft, GD2_tf, GD2_ff, pk_t, pk_f, nilA_p, nilA_i, fa_p, fd_a, ex_t, iadd_i, isub_i, imul_i, ieq_i, ine_i, ilt_i, ile_i, igt_i, ige_i, seq_s, sne_s, slt_s, lens_s, lenx_0, lenx_s, not_b, bb_e, bb_n, cv_i, pe_00, pe_0p, pe_p0, eqB_e, eqB_n, List.getElem?_cons_zero, List.getElem?_cons_succ, Nat.zero_add, Bool.not_true, Bool.not_false, decide_true, decide_false, Int.reduceBEq, Int.reduceBNe, Int.reduceLT, Int.reduceLE, Int.reduceGT, Int.reduceGE, Int.reduceNeg, BEq.rfl, bne_self_eq_false, ge_iff_le, gt_iff_lt]
  | c :: r, i, m, hr, h2, hi, hm => by
    obtain ⟨hi', hv, hr'⟩ := hd_drop hr
    have d : decide (((i : Nat) : Int) < 14) = true := decide_eq_true (by omega)
    have hc := hb c (List.mem_of_getElem? hv)
    have e1 := ixs_s hv
    have w1 := w64 (a := c) (by omega)
    have w2 : IntKind.wrap .i64 (((c : Nat) : Int) - 48) = ((c : Nat) : Int) - 48 := wrap_i64 (by omega) (by omega)
    have e6 : IntKind.wrap .i64 (((i : Nat) : Int) + 1) = ((i + 1 : Nat) : Int) := by rw [wrap_i64 (by omega) (by omega)]; rfl
    have hp : 16 ^ (i - 2) ≤ 16 ^ 11 := Nat.pow_le_pow_right (by decide) (by omega)
    have h11 : (16 : Nat) ^ 11 = 17592186044416 := by decide
    have hp1 : 16 ^ (i + 1 - 2) = 16 ^ (i - 2) * 16 := by rw [show i + 1 - 2 = (i - 2) + 1 by omega, Nat.pow_succ]
    have hdec : dec m ((c :: r).map UInt8.ofNat) = match dgo (UInt8.ofNat c) with
        | none => none
        | some d => dec (m * 16 + d) (r.map UInt8.ofNat) := rfl
    rw [hdec, dgo_n hc, ql_outriderref1_SegParse]
    by_cases c97 : 97 ≤ c
    · have d97 : decide ((97 : Int) ≤ ((c : Nat) : Int)) = true := decide_eq_true (by omega)
      have w3 : IntKind.wrap .i64 (((c : Nat) : Int) - 97) = ((c : Nat) : Int) - 97 := wrap_i64 (by omega) (by omega)
      have w4 : IntKind.wrap .i64 (((c : Nat) : Int) - 97 + 10) = ((c - 87 : Nat) : Int) := by rw [wrap_i64 (by omega) (by omega)]; omega
      have dn : decide (((c - 87 : Nat) : Int) < 0) = false := decide_eq_false (by omega)
      rw [if_pos c97]
      by_cases c102 : c ≤ 102
      · have dg : decide (15 < ((c - 87 : Nat) : Int)) = false := decide_eq_false (by omega)
        have ih := rparse_loop (k := k) (H := H) hs hb r (i + 1) (m * 16 + (c - 87)) hr' (by omega) (by omega) (by rw [hp1]; omega)
        have w5 : IntKind.wrap .i64 (((m : Nat) : Int) * 16) = ((m * 16 : Nat) : Int) := by rw [wrap_i64 (by omega) (by omega)]; rfl
        have w6 : IntKind.wrap .i64 (((m * 16 : Nat) : Int) + ((c - 87 : Nat) : Int)) = ((m * 16 + (c - 87) : Nat) : Int) := by rw [wrap_i64 (by omega) (by omega)]; rfl
        rw [if_pos c102]
        simp only [d, e1, w1, w2, d97, w3, w4, dn, dg, w5, w6, e6, JN_0, JN_1, JN_2, JN_3, JN_4, JN_5, JN_6, JN_7, JN_8, JN_9, JN_10, JN_11, JN_12, JN_13, JN_14, JN_15, JN_16, JN_17, JN_18, JN_19, JN_20, JN_21, JN_22, JN_23, JN_24, B1_s, B2_s, BN_s, CD_t, CD_f, GO_tt, GO_ft, GO_tf, GO_ff, GO_ut, GO_uf, GD2_tt, GD2_ft, GD2_tf, GD2_ff, pk_t, pk_f, nilA_p, nilA_i, fa_p, fd_a, ex_t, iadd_i, isub_i, imul_i, ieq_i, ine_i, ilt_i, ile_i, igt_i, ige_i, seq_s, sne_s, slt_s, lens_s, lenx_0, lenx_s, not_b, bb_e, bb_n, cv_i, pe_00, pe_0p, pe_p0, eqB_e, eqB_n, List.getElem?_cons_zero, List.getElem?_cons_succ, Nat.zero_add, Bool.not_true, Bool.not_false, decide_true, decide_false, Int.reduceBEq, Int.reduceBNe, Int.reduceLT, Int.reduceLE, Int.reduceGT, Int.reduceGE, Int.reduceNeg, BEq.rfl, bne_self_eq_false, ge_iff_le, gt_iff_lt]
        exact ih
      · have dg : decide (15 < ((c - 87 : Nat) : Int)) = true := decide_eq_true (by omega)
        rw [if_neg c102]
        simp only [d, e1, w1, w2, d97, w3, w4, dn, dg, JN_0, JN_1, JN_2, JN_3, JN_4, JN_5, JN_6, JN_7, JN_8, JN_9, JN_10, JN_11, JN_12, JN_13, JN_14, JN_15, JN_16, JN_17, JN_18, JN_19, JN_20, JN_21, JN_22, JN_23, JN_24, B1_s, B2_s, BN_s, CD_t, CD_f, GO_tt, GO_ft, GO_tf, GO_ff, GO_ut, GO_uf, GD2_tt, GD2_ft, GD2_tf, GD2_ff, pk_t, pk_f, nilA_p, nilA_i, fa_p, fd_a, ex_t, iadd_i, isub_i, imul_i, ieq_i, ine_i, ilt_i, ile_i, igt_i, ige_i, seq_s, sne_s, slt_s, lens_s, lenx_0, lenx_s, not_b, bb_e, bb_n, cv_i, pe_00, pe_0p, pe_p0, eqB_e, eqB_n, List.getElem?_cons_zero, List.getElem?_cons_succ, Nat.zero_add, Bool.not_true, Bool.not_false, decide_true, decide_false, Int.reduceBEq, Int.reduceBNe, Int.reduceLT, Int.reduceLE, Int.reduceGT, Int.reduceGE, Int.reduceNeg, BEq.rfl, bne_self_eq_false, ge_iff_le, gt_iff_lt]
    · have d97 : decide ((97 : Int) ≤ ((c : Nat) : Int)) = false := decide_eq_false (by omega)
      rw [if_neg c97]
      by_cases c48 : 48 ≤ c
      · have ec : ((c : Nat) : Int) - 48 = ((c - 48 : Nat) : Int) := by omega
        rw [ec] at w2
        have dn : decide (((c - 48 : Nat) : Int) < 0) = false := decide_eq_false (by omega)
        by_cases c63 : c ≤ 63
        · have dg : decide (15 < ((c - 48 : Nat) : Int)) = false := decide_eq_false (by omega)
          have ih := rparse_loop (k := k) (H := H) hs hb r (i + 1) (m * 16 + (c - 48)) hr' (by omega) (by omega) (by rw [hp1]; omega)
          have w5 : IntKind.wrap .i64 (((m : Nat) : Int) * 16) = ((m * 16 : Nat) : Int) := by rw [wrap_i64 (by omega) (by omega)]; rfl
          have w6 : IntKind.wrap .i64 (((m * 16 : Nat) : Int) + ((c - 48 : Nat) : Int)) = ((m * 16 + (c - 48) : Nat) : Int) := by rw [wrap_i64 (by omega) (by omega)]; rfl
          rw [if_pos ⟨c48, c63⟩]
          simp only [d, e1, w1, ec, w2, d97, dn, dg, w5, w6, e6, JN_0, JN_1, JN_2, JN_3, JN_4, JN_5, JN_6, JN_7, JN_8, JN_9, JN_10, JN_11, JN_12, JN_13, JN_14, JN_15, JN_16, JN_17, JN_18, JN_19, JN_20, JN_21, JN_22, JN_23, JN_24, B1_s, B2_s, BN_s, CD_t, CD_f, GO_tt, GO_ft, GO_tf, GO_ff, GO_ut, GO_uf, GD2_tt, GD2_ft, GD2_tf, GD2_ff, pk_t, pk_f, nilA_p, nilA_i, fa_p, fd_a, ex_t, iadd_i, isub_i, imul_i, ieq_i, ine_i, ilt_i, ile_i, igt_i, ige_i, seq_s, sne_s, slt_s, lens_s, lenx_0, lenx_s, not_b, bb_e, bb_n, cv_i, pe_00, pe_0p, pe_p0, eqB_e, eqB_n, List.getElem?_cons_zero, List.getElem?_cons_succ, Nat.zero_add, Bool.not_true, Bool.not_false, decide_true, decide_false, Int.reduceBEq, Int.reduceBNe, Int.reduceLT, Int.reduceLE, Int.reduceGT, Int.reduceGE, Int.reduceNeg, BEq.rfl, bne_self_eq_false, ge_iff_le, gt_iff_lt]
          exact ih
        · have dg : decide (15 < ((c - 48 : Nat) : Int)) = true := decide_eq_true (by omega)
          rw [if_neg (fun q => c63 q.2)]
          simp only [d, e1, w1, ec, w2, d97, dn, dg, JN_0, JN_1, JN_2, JN_3, JN_4, JN_5, JN_6, JN_7, JN_8, JN_9, JN_10, JN_11, JN_12, JN_13, JN_14, JN_15, JN_16, JN_17, JN_18, JN_19, JN_20, JN_21, JN_22, JN_23, JN_24, B1_s, B2_s, BN_s, CD_t, CD_f, GO_tt, GO_ft, GO_tf, GO_ff, GO_ut, GO_uf, GD2_tt, GD2_ft, GD2_tf, GD2_ff, pk_t, pk_f, nilA_p, nilA_i, fa_p, fd_a, ex_t, iadd_i, isub_i, imul_i, ieq_i, ine_i, ilt_i, ile_i, igt_i, ige_i, seq_s, sne_s, slt_s, lens_s, lenx_0, lenx_s, not_b, bb_e, bb_n, cv_i, pe_00, pe_0p, pe_p0, eqB_e, eqB_n, List.getElem?_cons_zero, List.getElem?_cons_succ, Nat.zero_add, Bool.not_true, Bool.not_false, decide_true, decide_false, Int.reduceBEq, Int.reduceBNe, Int.reduceLT, Int.reduceLE, Int.reduceGT, Int.reduceGE, Int.reduceNeg, BEq.rfl, bne_self_eq_false, ge_iff_le, gt_iff_lt]
      · have dn : decide (((c : Nat) : Int) - 48 < 0) = true := decide_eq_true (by omega)
        rw [if_neg (fun q => c48 q.1)]
        simp only [d, e1, w1, w2, d97, dn, JN_0, JN_1, JN_2, JN_3, JN_4, JN_5, JN_6, JN_7, JN_8, JN_9, JN_10, JN_11, JN_12, JN_13, JN_14, JN_15, JN_16, JN_17, JN_18, JN_19, JN_20, JN_21, JN_22, JN_23, JN_24, B1_s, B2_s, BN_s, CD_t, CD_f, GO_tt, GO_ft, GO_tf, GO_ff, GO_ut, GO_uf, GD2_tt, GD2_ft, GD2_tf, GD2_ff, pk_t, pk_f, nilA_p, nilA_i, fa_p, fd_a, ex_t, iadd_i, isub_i, imul_i, ieq_i, ine_i, ilt_i, ile_i, igt_i, ige_i, seq_s, sne_s, slt_s, lens_s, lenx_0, lenx_s, not_b, bb_e, bb_n, cv_i, pe_00, pe_0p, pe_p0, eqB_e, eqB_n, List.getElem?_cons_zero, List.getElem?_cons_succ, Nat.zero_add, Bool.not_true, Bool.not_false, decide_true, decide_false, Int.reduceBEq, Int.reduceBNe, Int.reduceLT, Int.reduceLE, Int.reduceGT, Int.reduceGE, Int.reduceNeg, BEq.rfl, bne_self_eq_false, ge_iff_le, gt_iff_lt]
theorem map_nu : ∀ l : List Nat, (∀ c ∈ l, c < 256) → (l.map UInt8.ofNat).map (·.toNat) = l
  | [], _ => rfl
  | c :: l, h => by
    have h1 : (UInt8.ofNat c).toNat = c := by
      rw [UInt8.toNat_ofNat']
      exact Nat.mod_eq_of_lt (h c (.head _))
    rw [List.map_cons, List.map_cons, map_nu l fun x hx => h x (.tail _ hx), h1]
theorem map_un : ∀ l : List UInt8, (l.map (·.toNat)).map UInt8.ofNat = l
  | [] => rfl
  | c :: l => by
    have h1 : UInt8.ofNat c.toNat = c := by simp
    rw [List.map_cons, List.map_cons, map_un l, h1]
theorem rone_c {H : Hp} (b : Bool) : cK (.func (.func 27) [] []) [.bool b] H = some (.int .i64 (if b then 1 else 0), H) := by
  refine c_outriderref1_one ?_
  unfold s_outriderref1_one
  cases b <;> simp only [JN_0, JN_1, JN_2, JN_3, JN_4, JN_5, JN_6, JN_7, JN_8, JN_9, JN_10, JN_11, JN_12, JN_13, JN_14, JN_15, JN_16, JN_17, JN_18, JN_19, JN_20, JN_21, JN_22, JN_23, JN_24, B1_s, B2_s, BN_s, CD_t, CD_f, GO_tt, GO_ft, GO_tf, GO_ff, GO_ut, GO_uf, GD2_tt, GD2_ft, GD2_tf, GD2_ff, pk_t, pk_f, nilA_p, nilA_i, fa_p, fd_a, ex_t, iadd_i, isub_i, imul_i, ieq_i, ine_i, ilt_i, ile_i, igt_i, ige_i, seq_s, sne_s, slt_s, lens_s, lenx_0, lenx_s, not_b, bb_e, bb_n, cv_i, pe_00, pe_0p, pe_p0, eqB_e, eqB_n, List.getElem?_cons_zero, List.getElem?_cons_succ, Nat.zero_add, Bool.not_true, Bool.not_false, decide_true, decide_false, Int.reduceBEq, Int.reduceBNe, Int.reduceLT, Int.reduceLE, Int.reduceGT, Int.reduceGE, Int.reduceNeg, BEq.rfl, bne_self_eq_false, ge_iff_le, gt_iff_lt] <;> rfl
theorem dec_lt : ∀ (l : List UInt8) (m v : Nat), dec m l = some v → v < (m + 1) * 16 ^ l.length
  | [], m, v, h => by simp [dec] at h; subst h; simp
  | c :: l, m, v, h => by
    rw [dec] at h
    split at h
    · cases h
    · rename_i d hd'
      have := dec_lt l _ _ h
      have hd16 : d < 16 := by
        unfold dgo at hd'
        split at hd'
        · split at hd'
          · simp at hd'; omega
          · cases hd'
        · split at hd'
          · simp at hd'; omega
          · cases hd'
      rw [List.length_cons, Nat.pow_succ]
      have h2 : (m * 16 + d + 1) * 16 ^ l.length ≤ ((m + 1) * 16) * 16 ^ l.length := Nat.mul_le_mul_right _ (by omega)
      have h3 : (m + 1) * (16 ^ l.length * 16) = ((m + 1) * 16) * 16 ^ l.length := by rw [Nat.mul_comm (16 ^ l.length) 16, Nat.mul_assoc]
      omega
theorem rparse_c {H : Hp} {s : List Nat} (hb : ∀ c ∈ s, c < 256) : cK (.func (.func 13) [] []) [.str s] H = some (.tuple [.int .i64 ((sps s).1 : Nat), .bool (sps s).2], H) := by
  refine c_outriderref1_SegParse ?_
  unfold s_outriderref1_SegParse
  by_cases hl : s.length = 14
  · have d0 : (((s.length : Nat) : Int) != 14) = false := by rw [bne_eq_false_iff_eq, hl]; rfl
    have lp := fun (k : K.Fn 2) => rparse_loop (k := k) (H := H) hl hb (s.drop 2) 2 0 rfl (by decide) (by decide) (by decide)
    rw [show (((0 : Nat) : Int)) = 0 from rfl, show (((2 : Nat) : Int)) = 2 from rfl] at lp
    have hsp : sps s = match dec 0 ((s.drop 2).map UInt8.ofNat) with
        | none => (0, false)
        | some n => if n < 2 ^ 44 ∧ nm n = s.map UInt8.ofNat then (n, true) else (0, false) := by
      unfold sps sp
      rw [if_pos (by rw [List.length_map]; exact hl), List.map_drop]
      generalize dec 0 _ = o
      cases o <;> rfl
    have hlt := fun v (h : dec 0 ((s.drop 2).map UInt8.ofNat) = some v) => dec_lt _ _ _ h
    generalize dec 0 ((s.drop 2).map UInt8.ofNat) = dv at *
    cases dv with
    | none =>
      simp only at hsp lp
      rw [hsp]
      simp only [d0, lp, JN_0, JN_1, JN_2, JN_3, JN_4, JN_5, JN_6, JN_7, JN_8, JN_9, JN_10, JN_11, JN_12, JN_13, JN_14, JN_15, JN_16, JN_17, JN_18, JN_19, JN_20, JN_21, JN_22, JN_23, JN_24, B1_s, B2_s, BN_s, CD_t, CD_f, GO_tt, GO_ft, GO_tf, GO_ff, GO_ut, GO_uf, GD2_tt, GD2_ft, GD2_tf, GD2_ff, pk_t, pk_f, nilA_p, nilA_i, fa_p, fd_a, ex_t, iadd_i, isub_i, imul_i, ieq_i, ine_i, ilt_i, ile_i, igt_i, ige_i, seq_s, sne_s, slt_s, lens_s, lenx_0, lenx_s, not_b, bb_e, bb_n, cv_i, pe_00, pe_0p, pe_p0, eqB_e, eqB_n, List.getElem?_cons_zero, List.getElem?_cons_succ, Nat.zero_add, Bool.not_true, Bool.not_false, decide_true, decide_false, Int.reduceBEq, Int.reduceBNe, Int.reduceLT, Int.reduceLE, Int.reduceGT, Int.reduceGE, Int.reduceNeg, BEq.rfl, bne_self_eq_false, ge_iff_le, gt_iff_lt]
      rfl
    | some v =>
      simp only at hsp lp
      have hv := hlt v rfl
      rw [List.length_map, List.length_drop, hl] at hv
      have h12 : (0 + 1) * (16 : Nat) ^ (14 - 2) = 281474976710656 := by decide
      have hn := rname_c (H := H) ((v : Nat) : Int)
      by_cases hok : v < 2 ^ 44 ∧ nm v = s.map UInt8.ofNat
      · rw [if_pos hok] at hsp
        have i1 : inN ((v : Nat) : Int) = true := inN_t (by omega) (by omega)
        have hnm : nms ((v : Nat) : Int) = s := by
          rw [nms_t i1, Int.toNat_natCast, hok.2]
          exact map_nu s hb
        have e1 : (s == s) = true := by simp
        have w1 : IntKind.wrap .i64 (((v : Nat) : Int) * 1) = ((v : Nat) : Int) := by rw [Int.mul_one]; exact w64 (by omega)
        have e2 := rone_c (H := H) true
        simp only [if_true] at e2
        rw [hsp]
        simp only [d0, lp, hn, hnm, i1, e1, e2, w1, JN_0, JN_1, JN_2, JN_3, JN_4, JN_5, JN_6, JN_7, JN_8, JN_9, JN_10, JN_11, JN_12, JN_13, JN_14, JN_15, JN_16, JN_17, JN_18, JN_19, JN_20, JN_21, JN_22, JN_23, JN_24, B1_s, B2_s, BN_s, CD_t, CD_f, GO_tt, GO_ft, GO_tf, GO_ff, GO_ut, GO_uf, GD2_tt, GD2_ft, GD2_tf, GD2_ff, pk_t, pk_f, nilA_p, nilA_i, fa_p, fd_a, ex_t, iadd_i, isub_i, imul_i, ieq_i, ine_i, ilt_i, ile_i, igt_i, ige_i, seq_s, sne_s, slt_s, lens_s, lenx_0, lenx_s, not_b, bb_e, bb_n, cv_i, pe_00, pe_0p, pe_p0, eqB_e, eqB_n, List.getElem?_cons_zero, List.getElem?_cons_succ, Nat.zero_add, Bool.not_true, Bool.not_false, decide_true, decide_false, Int.reduceBEq, Int.reduceBNe, Int.reduceLT, Int.reduceLE, Int.reduceGT, Int.reduceGE, Int.reduceNeg, BEq.rfl, bne_self_eq_false, ge_iff_le, gt_iff_lt]
      · rw [if_neg hok] at hsp
        have e0 := rone_c (H := H) false
        have w1 : IntKind.wrap .i64 (((v : Nat) : Int) * 0) = 0 := by rw [Int.mul_zero]; decide
        have e2 : (if false = true then (1 : Int) else 0) = 0 := rfl
        rw [e2] at e0
        rw [hsp]
        by_cases hin : inN ((v : Nat) : Int) = true
        · have hne : (nms ((v : Nat) : Int) == s) = false := by
            rw [beq_eq_false_iff_ne]
            intro q
            refine hok ⟨?_, ?_⟩
            · unfold inN at hin
              simp at hin
              omega
            · rw [← q, nms_t hin, Int.toNat_natCast]
              exact (map_un _).symm
          simp only [d0, lp, hn, hin, hne, e0, w1, JN_0, JN_1, JN_2, JN_3, JN_4, JN_5, JN_6, JN_7, JN_8, JN_9, JN_10, JN_11, JN_12, JN_13, JN_14, JN_15, JN_16, JN_17, JN_18, JN_19, JN_20, JN_21, JN_22, JN_23, JN_24, B1_s, B2_s, BN_s, CD_t, CD_f, GO_tt, GO_ft, GO_tf, GO_ff, GO_ut, GO_uf, GD2_tt, GD2_ft, GD2_tf, GD2_ff, pk_t, pk_f, nilA_p, nilA_i, fa_p, fd_a, ex_t, iadd_i, isub_i, imul_i, ieq_i, ine_i, ilt_i, ile_i, igt_i, ige_i, seq_s, sne_s, slt_s, lens_s, lenx_0, lenx_s, not_b, bb_e, bb_n, cv_i, pe_00, pe_0p, pe_p0, eqB_e, eqB_n, List.getElem?_cons_zero, List.getElem?_cons_succ, Nat.zero_add, Bool.not_true, Bool.not_false, decide_true, decide_false, Int.reduceBEq, Int.reduceBNe, Int.reduceLT, Int.reduceLE, Int.reduceGT, Int.reduceGE, Int.reduceNeg, BEq.rfl, bne_self_eq_false, ge_iff_le, gt_iff_lt]
          rfl
        · have hin' : inN ((v : Nat) : Int) = false := by simpa using hin
          simp only [d0, lp, hn, hin', e0, w1, JN_0, JN_1, JN_2, JN_3, JN_4, JN_5, JN_6, JN_7, JN_8, JN_9, JN_10, JN_11, JN_12, JN_13, JN_14, JN_15, JN_16, JN_17, JN_18, JN_19, JN_20, JN_21, JN_22, JN_23, JN_24, B1_s, B2_s, BN_s, CD_t, CD_f, GO_tt, GO_ft, GO_tf, GO_ff, GO_ut, GO_uf, GD2_tt, GD2_ft, GD2_tf, GD2_ff, pk_t, pk_f, nilA_p, nilA_i, fa_p, fd_a, ex_t, iadd_i, isub_i, imul_i, ieq_i, ine_i, ilt_i, ile_i, igt_i, ige_i, seq_s, sne_s, slt_s, lens_s, lenx_0, lenx_s, not_b, bb_e, bb_n, cv_i, pe_00, pe_0p, pe_p0, eqB_e, eqB_n, List.getElem?_cons_zero, List.getElem?_cons_succ, Nat.zero_add, Bool.not_true, Bool.not_false, decide_true, decide_false, Int.reduceBEq, Int.reduceBNe, Int.reduceLT, Int.reduceLE, Int.reduceGT, Int.reduceGE, Int.reduceNeg, BEq.rfl, bne_self_eq_false, ge_iff_le, gt_iff_lt]
          rfl
  · have d0 : (((s.length : Nat) : Int) != 14) = true := by rw [bne_iff_ne]; omega
    have hsp : sps s = (0, false) := by
      unfold sps sp
      rw [if_neg (by rw [List.length_map]; exact hl)]
    rw [hsp]
    simp only [d0, JN_0, JN_1, JN_2, JN_3, JN_4, JN_5, JN_6, JN_7, JN_8, JN_9, JN_10, JN_11, JN_12, JN_13, JN_14, JN_15, JN_16, JN_17, JN_18, JN_19, JN_20, JN_21, JN_22, JN_23, JN_24, B1_s, B2_s, BN_s, CD_t, CD_f, GO_tt, GO_ft, GO_tf, GO_ff, GO_ut, GO_uf, GD2_tt, GD2_ft, GD2_tf, GD2_ff, pk_t, pk_f, nilA_p, nilA_i, fa_p, fd_a, ex_t, iadd_i, isub_i, imul_i, ieq_i, ine_i, ilt_i, ile_i, igt_i, ige_i, seq_s, sne_s, slt_s, lens_s, lenx_0, lenx_s, not_b, bb_e, bb_n, cv_i, pe_00, pe_0p, pe_p0, eqB_e, eqB_n, List.getElem?_cons_zero, List.getElem?_cons_succ, Nat.zero_add, Bool.not_true, Bool.not_false, decide_true, decide_false, Int.reduceBEq, Int.reduceBNe, Int.reduceLT, Int.reduceLE, Int.reduceGT, Int.reduceGE, Int.reduceNeg, BEq.rfl, bne_self_eq_false, ge_iff_le, gt_iff_lt]
    rfl
theorem says_law {H : Hp} {z : AV} {first ep : Int} {s b : List Nat} (hs : ∀ c ∈ s, c < 256) (hz : Rw H 1 z (bs b)) (hb : ∀ v ∈ b, v < 256) (hT : hasT H begin0) (hn : 9 ≤ H.next) :
    ∃ H', cK (.func (.func 4) [] []) [.int .i64 first, .str s, z, .int .i64 ep] H = some (.bool true, H') := by
  have hA := awake_c an hT hn
  have hV := vsA hT
  have hzl := hz.len1
  rw [bs_len] at hzl
  by_cases h1 : 2000 < b.length
  · have d1 : decide (2000 < ((b.length : Nat) : Int)) = true := decide_eq_true (by omega)
    refine ⟨H, c_outriderlaw6_SegSays ?_⟩
    unfold s_outriderlaw6_SegSays
    simp only [hA, hzl, d1, JN_0, JN_1, JN_2, JN_3, JN_4, JN_5, JN_6, JN_7, JN_8, JN_9, JN_10, JN_11, JN_12, JN_13, JN_14, JN_15, JN_16, JN_17, JN_18, JN_19, JN_20, JN_21, JN_22, JN_23, JN_24, B1_s, B2_s, BN_s, CD_t, CD_f, GO_tt, GO_ft, GO_tf, GO_ff, GO_ut, GO_uf, GD2_tt, GD2_ft, GD2_tf, GD2_ff, pk_t, pk_f, nilA_p, nilA_i, fa_p, fd_a, ex_t, iadd_i, isub_i, imul_i, ieq_i, ine_i, ilt_i, ile_i, igt_i, ige_i, seq_s, sne_s, slt_s, lens_s, lenx_0, lenx_s, not_b, bb_e, bb_n, cv_i, pe_00, pe_0p, pe_p0, eqB_e, eqB_n, List.getElem?_cons_zero, List.getElem?_cons_succ, Nat.zero_add, Bool.not_true, Bool.not_false, decide_true, decide_false, Int.reduceBEq, Int.reduceBNe, Int.reduceLT, Int.reduceLE, Int.reduceGT, Int.reduceGE, Int.reduceNeg, BEq.rfl, bne_self_eq_false, ge_iff_le, gt_iff_lt]
  have d1 : decide (2000 < ((b.length : Nat) : Int)) = false := decide_eq_false (by omega)
  by_cases h2 : 100 < s.length
  · have d2 : decide (100 < ((s.length : Nat) : Int)) = true := decide_eq_true (by omega)
    refine ⟨H, c_outriderlaw6_SegSays ?_⟩
    unfold s_outriderlaw6_SegSays
    simp only [hA, hzl, d1, d2, JN_0, JN_1, JN_2, JN_3, JN_4, JN_5, JN_6, JN_7, JN_8, JN_9, JN_10, JN_11, JN_12, JN_13, JN_14, JN_15, JN_16, JN_17, JN_18, JN_19, JN_20, JN_21, JN_22, JN_23, JN_24, B1_s, B2_s, BN_s, CD_t, CD_f, GO_tt, GO_ft, GO_tf, GO_ff, GO_ut, GO_uf, GD2_tt, GD2_ft, GD2_tf, GD2_ff, pk_t, pk_f, nilA_p, nilA_i, fa_p, fd_a, ex_t, iadd_i, isub_i, imul_i, ieq_i, ine_i, ilt_i, ile_i, igt_i, ige_i, seq_s, sne_s, slt_s, lens_s, lenx_0, lenx_s, not_b, bb_e, bb_n, cv_i, pe_00, pe_0p, pe_p0, eqB_e, eqB_n, List.getElem?_cons_zero, List.getElem?_cons_succ, Nat.zero_add, Bool.not_true, Bool.not_false, decide_true, decide_false, Int.reduceBEq, Int.reduceBNe, Int.reduceLT, Int.reduceLE, Int.reduceGT, Int.reduceGE, Int.reduceNeg, BEq.rfl, bne_self_eq_false, ge_iff_le, gt_iff_lt]
  have d2 : decide (100 < ((s.length : Nat) : Int)) = false := decide_eq_false (by omega)
  have n1 := name_c an hV first
  have n2 := rname_c (H := H) first
  have p1 := parse_c an hV s (by omega)
  have p2 := rparse_c (H := H) hs
  obtain ⟨r, ys, H1, q1, q2, q3, q4⟩ := scan_c hz hb (by omega) first ep
  obtain ⟨r', H2, q5, q6, q7⟩ := rscan_c (hz.out q2 fun j _ q => by cases q) hb (by omega) first ep
  have hsb := fun r hr => (scanM_byte b.length b first ep hb r hr).2
  have hsl := (scanM_le b.length b first ep).2
  generalize (scanM b.length b first ep).2 = cnt at *
  generalize (scanM b.length b first ep).1 = rs at *
  have e1 := recs_c (q3.out q6) q7 hsb (by omega)
  generalize nms first = ns at *
  generalize inN first = ni at *
  generalize (sps s).1 = pv at *
  generalize (sps s).2 = pb at *
  have b1 : (ni == ni) = true := by simp
  have b2 : (ns == ns) = true := by simp
  have b3 : (pb == pb) = true := by simp
  have b4 : (((pv : Nat) : Int) == ((pv : Nat) : Int)) = true := by simp
  have b5 : (((cnt : Nat) : Int) == ((cnt : Nat) : Int)) = true := by simp
  refine ⟨H2, c_outriderlaw6_SegSays ?_⟩
  unfold s_outriderlaw6_SegSays
  simp only [hA, hzl, d1, d2, n1, n2, p1, p2, q1, q5, b1, b2, b3, b4, b5, e1, JN_0, JN_1, JN_2, JN_3, JN_4, JN_5, JN_6, JN_7, JN_8, JN_9, JN_10, JN_11, JN_12, JN_13, JN_14, JN_15, JN_16, JN_17, JN_18, JN_19, JN_20, JN_21, JN_22, JN_23, JN_24, B1_s, B2_s, BN_s, CD_t, CD_f, GO_tt, GO_ft, GO_tf, GO_ff, GO_ut, GO_uf, GD2_tt, GD2_ft, GD2_tf, GD2_ff, pk_t, pk_f, nilA_p, nilA_i, fa_p, fd_a, ex_t, iadd_i, isub_i, imul_i, ieq_i, ine_i, ilt_i, ile_i, igt_i, ige_i, seq_s, sne_s, slt_s, lens_s, lenx_0, lenx_s, not_b, bb_e, bb_n, cv_i, pe_00, pe_0p, pe_p0, eqB_e, eqB_n, List.getElem?_cons_zero, List.getElem?_cons_succ, Nat.zero_add, Bool.not_true, Bool.not_false, decide_true, decide_false, Int.reduceBEq, Int.reduceBNe, Int.reduceLT, Int.reduceLE, Int.reduceGT, Int.reduceGE, Int.reduceNeg, BEq.rfl, bne_self_eq_false, ge_iff_le, gt_iff_lt]
theorem says_top {H : Hp} {as' : List AV} {ds : List D} (h : ArgsIs H [.int .i64, .str, .slice 1 (.int .u8), .int .i64] as' ds) (hT : hasT H begin0) (hn : 9 ≤ H.next) :
    ∃ H', cK (.func (.func 4) [] []) as' H = some (.bool true, H') := by
  cases h with
  | cons h0 h =>
  cases h with
  | cons h1 h =>
  cases h with
  | cons h2 h =>
  cases h with
  | cons h3 h =>
  cases h
  obtain ⟨a, rfl, _⟩ := isA_int h0
  obtain ⟨s, rfl, hs, _⟩ := isA_str h1
  obtain ⟨b, hz, hb⟩ := isA_bytes h2
  obtain ⟨e, rfl, _⟩ := isA_int h3
  exact says_law hs hz hb hT hn
end Go.Proofs.YtdacjomfipkpaaaDoor.SgK
