/- sum, stamp: contracts over the symbolic heap. Conditions: as stated. -/
import Derived.Test.YtdacjomfipkpaaaDoorSgK
import Derived.Test.YtdacjomfipkpaaaDoorAm15
namespace Go.Proofs.YtdacjomfipkpaaaDoor.SgK
open Go Am Am.K SgEnv
set_option linter.unusedVariables false
set_option linter.unusedSimpArgs false
theorem rem_n {a b : Nat} (hb : 0 < b) : irem (.int .i64 (a : Int)) (.int .i64 (b : Int)) = some (.int .i64 ((a % b : Nat) : Int)) := by
  rw [irem_i _ _ _ (by omega)]; rfl
theorem add_n {a b : Nat} (h : a + b ≤ 9223372036854775807) : iadd (.int .i64 (a : Int)) (.int .i64 (b : Int)) = some (.int .i64 ((a + b : Nat) : Int)) := by
  rw [iadd_i, wrap_i64 (by omega) (by omega)]; rfl
theorem w64 {a : Nat} (h : a ≤ 9223372036854775807) : IntKind.wrap .i64 (a : Int) = a := wrap_i64 (by omega) (by omega)
/-- a sum's two halves; one byte more -/
def pr (s : Nat) : Nat × Nat := (s % 65536, s / 65536)
def sm (p : Nat × Nat) : Nat := p.2 * 65536 + p.1
def ad (p : Nat × Nat) (v : Nat) : Nat × Nat := ((p.1 + v) % 65521, (p.2 + (p.1 + v) % 65521) % 65521)
def gd (s : Nat) : Bool := decide (s % 65536 < 65521) && decide (s / 65536 < 65521)
def onS (s : Nat) (l : List Nat) : Nat := sm (l.foldl ad (pr s))
theorem fold_lt : ∀ (l : List Nat) (p : Nat × Nat), p.1 < 65521 → p.2 < 65521 → (l.foldl ad p).1 < 65521 ∧ (l.foldl ad p).2 < 65521
  | [], p, h, k => ⟨h, k⟩
  | v :: l, p, h, k => fold_lt l (ad p v) (Nat.mod_lt _ (by decide)) (Nat.mod_lt _ (by decide))
theorem gd_lt {s : Nat} (h : gd s = true) : (pr s).1 < 65521 ∧ (pr s).2 < 65521 := by
  unfold gd at h
  rw [Bool.and_eq_true] at h
  exact ⟨of_decide_eq_true h.1, of_decide_eq_true h.2⟩
theorem onS_lt {s : Nat} (h : gd s = true) (l : List Nat) : onS s l < 4294967296 ∧ gd (onS s l) = true := by
  obtain ⟨a, b⟩ := fold_lt l (pr s) (gd_lt h).1 (gd_lt h).2
  unfold onS sm gd
  refine ⟨by omega, ?_⟩
  simp
  omega
theorem onS_app {s : Nat} (h : gd s = true) (a b : List Nat) : onS (onS s a) b = onS s (a ++ b) := by
  obtain ⟨x, y⟩ := fold_lt a (pr s) (gd_lt h).1 (gd_lt h).2
  have e : pr (onS s a) = a.foldl ad (pr s) := by
    unfold onS sm pr
    refine Prod.ext ?_ ?_ <;> simp only <;> unfold pr at x y <;> omega
  unfold onS
  rw [List.foldl_append]
  unfold onS at e
  rw [e]
theorem parts_c {H : Hp} (s : Nat) (h : s < 4294967296) : cK (.func (.func 53) [] []) [.int .u32 s] H = some (.tuple [.int .i64 ((pr s).1 : Nat), .int .i64 ((pr s).2 : Nat)], H) := by
  refine c_sum_parts ?_
  unfold s_sum_parts
  have e1 : iand (.int .u32 (s : Int)) (.int .u32 65535) = some (.int .u32 ((s % 65536 : Nat) : Int)) := mask_n (m := 16) h (by decide) (wrap_u rfl (Nat.lt_of_lt_of_le (Nat.mod_lt _ (by decide)) (by decide)))
  have e2 : ishr (.int .u32 (s : Int)) (.int .u64 16) = some (.int .u32 ((s / 65536 : Nat) : Int)) := ishr_n (b := 16)
  have w1 := w64 (a := s % 65536) (by omega)
  have w2 := w64 (a := s / 65536) (by omega)
  simp only [e1, e2, w1, w2, pr, JN_0, JN_1, JN_2, JN_3, JN_4, JN_5, JN_6, JN_7, JN_8, JN_9, JN_10, JN_11, JN_12, JN_13, JN_14, JN_15, JN_16, JN_17, JN_18, JN_19, JN_20, JN_21, JN_22, JN_23, JN_24, B1_s, B2_s, BN_s, CD_t, CD_f, GO_tt, GO_ft, GO_tf, GO_ff, GO_ut, GO_uf, GD2_tt, GD2_ft, GD2_tf, GD2_ff, pk_t, pk_f, nilA_p, nilA_i, fa_p, fd_a, ex_t, iadd_i, isub_i, imul_i, ieq_i, ine_i, ilt_i, ile_i, igt_i, ige_i, seq_s, sne_s, slt_s, lens_s, lenx_0, lenx_s, not_b, bb_e, bb_n, cv_i, pe_00, pe_0p, pe_p0, eqB_e, eqB_n, List.getElem?_cons_zero, List.getElem?_cons_succ, Nat.zero_add, Bool.not_true, Bool.not_false, decide_true, decide_false, Int.reduceBEq, Int.reduceBNe, Int.reduceLT, Int.reduceLE, Int.reduceGT, Int.reduceGE, Int.reduceNeg, BEq.rfl, bne_self_eq_false, ge_iff_le, gt_iff_lt]
theorem made_c {H : Hp} (p : Nat × Nat) (h1 : p.1 < 65521) (h2 : p.2 < 65521) : cK (.func (.func 54) [] []) [.int .i64 (p.1 : Nat), .int .i64 (p.2 : Nat)] H = some (.int .u32 ((sm p : Nat) : Int), H) := by
  obtain ⟨a, c⟩ := p
  simp only at h1 h2
  refine c_sum_made ?_
  unfold s_sum_made
  have r : ∀ x : Nat, x < 65521 → irem (.int .i64 (x : Int)) (.int .i64 65521) = some (.int .i64 (x : Int)) := fun x hx => by
    have := rem_n (a := x) (b := 65521) (by decide)
    rw [Nat.mod_eq_of_lt hx] at this
    exact this
  have d : ∀ x : Nat, x < 65521 → iadd (.int .i64 (x : Int)) (.int .i64 65521) = some (.int .i64 ((x + 65521 : Nat) : Int)) := fun x hx => add_n (b := 65521) (by omega)
  have r2 : ∀ x : Nat, x < 65521 → irem (.int .i64 ((x + 65521 : Nat) : Int)) (.int .i64 65521) = some (.int .i64 (x : Int)) := fun x hx => by
    have := rem_n (a := x + 65521) (b := 65521) (by decide)
    rw [Nat.add_mod_right, Nat.mod_eq_of_lt hx] at this
    exact this
  have w : ∀ x : Nat, x < 65521 → IntKind.wrap .u32 (x : Int) = x := fun x hx => wrap_u rfl (Nat.lt_trans hx (by decide))
  have e4 : ishl (.int .u32 (c : Int)) (.int .u64 16) = some (.int .u32 ((c * 65536 : Nat) : Int)) := by
    have := ishl_n (k := .u32) (j := .u64) (a := c) (b := 16)
    rw [wrap_u rfl (show c * 2 ^ min 16 IntKind.u32.bits < 2 ^ IntKind.u32.bits by show c * 65536 < 4294967296; omega)] at this
    exact this
  have e9 : ior (.int .u32 ((c * 65536 : Nat) : Int)) (.int .u32 (a : Int)) = some (.int .u32 ((c * 65536 + a : Nat) : Int)) := by
    have ho : c * 65536 ||| a = c * 65536 + a := by
      rw [Nat.or_comm]
      exact or_add (i := 16) (Nat.lt_trans h1 (by decide))
    have := ior_n (k := .u32) (a := c * 65536) (b := a) (by show c * 65536 < 4294967296; omega) (by show a < 4294967296; omega) (by rw [ho]; exact wrap_u rfl (by show c * 65536 + a < 4294967296; omega))
    rw [ho] at this
    exact this
  simp only [r a h1, r c h2, d a h1, d c h2, r2 a h1, r2 c h2, w a h1, w c h2, e4, e9, sm, JN_0, JN_1, JN_2, JN_3, JN_4, JN_5, JN_6, JN_7, JN_8, JN_9, JN_10, JN_11, JN_12, JN_13, JN_14, JN_15, JN_16, JN_17, JN_18, JN_19, JN_20, JN_21, JN_22, JN_23, JN_24, B1_s, B2_s, BN_s, CD_t, CD_f, GO_tt, GO_ft, GO_tf, GO_ff, GO_ut, GO_uf, GD2_tt, GD2_ft, GD2_tf, GD2_ff, pk_t, pk_f, nilA_p, nilA_i, fa_p, fd_a, ex_t, iadd_i, isub_i, imul_i, ieq_i, ine_i, ilt_i, ile_i, igt_i, ige_i, seq_s, sne_s, slt_s, lens_s, lenx_0, lenx_s, not_b, bb_e, bb_n, cv_i, pe_00, pe_0p, pe_p0, eqB_e, eqB_n, List.getElem?_cons_zero, List.getElem?_cons_succ, Nat.zero_add, Bool.not_true, Bool.not_false, decide_true, decide_false, Int.reduceBEq, Int.reduceBNe, Int.reduceLT, Int.reduceLE, Int.reduceGT, Int.reduceGE, Int.reduceNeg, BEq.rfl, bne_self_eq_false, ge_iff_le, gt_iff_lt]
theorem good_c {H : Hp} (s : Nat) (h : s < 4294967296) : cK (.func (.func 52) [] []) [.int .u32 s] H = some (.bool (gd s), H) := by
  refine c_sum_Good ?_
  unfold s_sum_Good
  have e := parts_c (H := H) s h
  have d1 : decide (((s % 65536 : Nat) : Int) < 65521) = decide (s % 65536 < 65521) := decide_eq_decide.2 (by omega)
  have d2 : decide (((s / 65536 : Nat) : Int) < 65521) = decide (s / 65536 < 65521) := decide_eq_decide.2 (by omega)
  unfold pr at e
  unfold gd
  simp only at e
  generalize decide (s % 65536 < 65521) = x at *
  generalize decide (s / 65536 < 65521) = y at *
  cases x <;> simp only [e, d1, d2, Bool.true_and, Bool.false_and, JN_0, JN_1, JN_2, JN_3, JN_4, JN_5, JN_6, JN_7, JN_8, JN_9, JN_10, JN_11, JN_12, JN_13, JN_14, JN_15, JN_16, JN_17, JN_18, JN_19, JN_20, JN_21, JN_22, JN_23, JN_24, B1_s, B2_s, BN_s, CD_t, CD_f, GO_tt, GO_ft, GO_tf, GO_ff, GO_ut, GO_uf, GD2_tt, GD2_ft, GD2_tf, GD2_ff, pk_t, pk_f, nilA_p, nilA_i, fa_p, fd_a, ex_t, iadd_i, isub_i, imul_i, ieq_i, ine_i, ilt_i, ile_i, igt_i, ige_i, seq_s, sne_s, slt_s, lens_s, lenx_0, lenx_s, not_b, bb_e, bb_n, cv_i, pe_00, pe_0p, pe_p0, eqB_e, eqB_n, List.getElem?_cons_zero, List.getElem?_cons_succ, Nat.zero_add, Bool.not_true, Bool.not_false, decide_true, decide_false, Int.reduceBEq, Int.reduceBNe, Int.reduceLT, Int.reduceLE, Int.reduceGT, Int.reduceGE, Int.reduceNeg, BEq.rfl, bne_self_eq_false, ge_iff_le, gt_iff_lt]
theorem on_loop {k : K.Fn 2} {H : Hp} {x : AV} {l : List Nat} (hx : Rw H 1 x (bs l)) (hb : ∀ b ∈ l, b < 256) (hl : l.length ≤ 4294967296) : ∀ (r : List Nat) (i : Nat) (p : Nat × Nat), l.drop i = r → p.1 < 65521 → p.2 < 65521 →
    l_sum_On JN GO cK k (.int .i64 (p.1 : Nat)) (.int .i64 (p.2 : Nat)) x (.int .i64 (l.length : Nat)) (.int .i64 (i : Nat)) H = k (.int .i64 ((r.foldl ad p).1 : Nat)) (.int .i64 ((r.foldl ad p).2 : Nat)) H
  | [], i, p, hr, h1, h2 => by
    rw [ql_sum_On]
    have : l.length ≤ i := by simpa using hr
    have d : decide (((i : Nat) : Int) < ((l.length : Nat) : Int)) = false := decide_eq_false (by omega)
    simp only [d, List.foldl_nil, JN_0, JN_1, JN_2, JN_3, JN_4, JN_5, JN_6, JN_7, JN_8, JN_9, JN_10, JN_11, JN_12, JN_13, JN_14, JN_15, JN_16, JN_17, JN_18, JN_19, JN_20, JN_21, JN_22, JN_23, JN_24, B1_s, B2_s, BN_s, CD_t, CD_f, GO_tt, GO_ft, GO_tf, GO_ff, GO_ut, GO_uf, GD2_tt, GD2_ft, GD2_tf, GD2_ff, pk_t, pk_f, nilA_p, nilA_i, fa_p, fd_a, ex_t, iadd_i, isub_i, imul_i, ieq_i, ine_i, ilt_i, ile_i, igt_i, ige_i, seq_s, sne_s, slt_s, lens_s, lenx_0, lenx_s, not_b, bb_e, bb_n, cv_i, pe_00, pe_0p, pe_p0, eqB_e, eqB_n, List.getElem?_cons_zero, List.getElem?_cons_succ, Nat.zero_add, Bool.not_true, Bool.not_false, decide_true, decide_false, Int.reduceBEq, Int.reduceBNe, Int.reduceLT, Int.reduceLE, Int.reduceGT, Int.reduceGE, Int.reduceNeg, BEq.rfl, bne_self_eq_false, ge_iff_le, gt_iff_lt]
  | v :: r, i, p, hr, h1, h2 => by
    have hi : i < l.length := by
      rcases Nat.lt_or_ge i l.length with h | h
      · exact h
      · rw [List.drop_eq_nil_of_le h] at hr; cases hr
    have hv : l[i]? = some v := by
      have := congrArg (fun z => z[0]?) hr
      simpa using this
    have hr' : l.drop (i + 1) = r := by
      rw [← List.drop_drop, hr]; rfl
    have hv' : (bs l)[i]? = some (.int .u8 (v : Int)) := by simp [bs, hv]
    have hv2 := hb v (List.mem_of_getElem? hv)
    obtain ⟨q, q1, q2⟩ := hx.ia1 hv' .i64
    have d : decide (((i : Nat) : Int) < ((l.length : Nat) : Int)) = true := decide_eq_true (by omega)
    have w1 := w64 (a := v) (by omega)
    have a1 := add_n (a := p.1) (b := v) (by omega)
    have m1 := rem_n (a := p.1 + v) (b := 65521) (by decide)
    have hm := Nat.mod_lt (p.1 + v) (show 0 < 65521 by decide)
    have a2 := add_n (a := p.2) (b := (p.1 + v) % 65521) (by omega)
    have m2 := rem_n (a := p.2 + (p.1 + v) % 65521) (b := 65521) (by decide)
    have a3 := add_n (a := i) (b := 1) (by omega)
    have ih := on_loop (k := k) hx hb hl r (i + 1) (ad p v) hr' (Nat.mod_lt _ (by decide)) (Nat.mod_lt _ (by decide))
    rw [ql_sum_On]
    rw [show (((65521 : Nat) : Int)) = 65521 from rfl] at m1 m2
    rw [show (((1 : Nat) : Int)) = 1 from rfl] at a3
    simp only [iadd_i] at a1 a2 a3
    simp only [d, q1, q2, w1, a1, m1, a2, m2, a3, JN_0, JN_1, JN_2, JN_3, JN_4, JN_5, JN_6, JN_7, JN_8, JN_9, JN_10, JN_11, JN_12, JN_13, JN_14, JN_15, JN_16, JN_17, JN_18, JN_19, JN_20, JN_21, JN_22, JN_23, JN_24, B1_s, B2_s, BN_s, CD_t, CD_f, GO_tt, GO_ft, GO_tf, GO_ff, GO_ut, GO_uf, GD2_tt, GD2_ft, GD2_tf, GD2_ff, pk_t, pk_f, nilA_p, nilA_i, fa_p, fd_a, ex_t, iadd_i, isub_i, imul_i, ieq_i, ine_i, ilt_i, ile_i, igt_i, ige_i, seq_s, sne_s, slt_s, lens_s, lenx_0, lenx_s, not_b, bb_e, bb_n, cv_i, pe_00, pe_0p, pe_p0, eqB_e, eqB_n, List.getElem?_cons_zero, List.getElem?_cons_succ, Nat.zero_add, Bool.not_true, Bool.not_false, decide_true, decide_false, Int.reduceBEq, Int.reduceBNe, Int.reduceLT, Int.reduceLE, Int.reduceGT, Int.reduceGE, Int.reduceNeg, BEq.rfl, bne_self_eq_false, ge_iff_le, gt_iff_lt]
    exact ih
theorem on_c {H : Hp} {x : AV} {l : List Nat} (hx : Rw H 1 x (bs l)) (hb : ∀ b ∈ l, b < 256) (hl : l.length ≤ 4294967296) {s : Nat} (hs : s < 4294967296) (hg : gd s = true) :
    cK (.func (.func 33) [] []) [.int .u32 s, x] H = some (.tuple [.int .u32 ((onS s l : Nat) : Int), .bool true], H) := by
  refine c_sum_On ?_
  unfold s_sum_On
  have e1 := good_c (H := H) s hs
  rw [hg] at e1
  have e2 := parts_c (H := H) s hs
  have hn := hx.len1
  rw [bs_len] at hn
  have hp := gd_lt hg
  have hf := fold_lt l (pr s) hp.1 hp.2
  have e3 := made_c (H := H) (l.foldl ad (pr s)) hf.1 hf.2
  have lp := fun (k : K.Fn 2) => on_loop (k := k) hx hb hl l 0 (pr s) rfl hp.1 hp.2
  rw [show (((0 : Nat) : Int)) = 0 from rfl] at lp
  simp only [e1, e2, hn, lp, e3, onS, JN_0, JN_1, JN_2, JN_3, JN_4, JN_5, JN_6, JN_7, JN_8, JN_9, JN_10, JN_11, JN_12, JN_13, JN_14, JN_15, JN_16, JN_17, JN_18, JN_19, JN_20, JN_21, JN_22, JN_23, JN_24, B1_s, B2_s, BN_s, CD_t, CD_f, GO_tt, GO_ft, GO_tf, GO_ff, GO_ut, GO_uf, GD2_tt, GD2_ft, GD2_tf, GD2_ff, pk_t, pk_f, nilA_p, nilA_i, fa_p, fd_a, ex_t, iadd_i, isub_i, imul_i, ieq_i, ine_i, ilt_i, ile_i, igt_i, ige_i, seq_s, sne_s, slt_s, lens_s, lenx_0, lenx_s, not_b, bb_e, bb_n, cv_i, pe_00, pe_0p, pe_p0, eqB_e, eqB_n, List.getElem?_cons_zero, List.getElem?_cons_succ, Nat.zero_add, Bool.not_true, Bool.not_false, decide_true, decide_false, Int.reduceBEq, Int.reduceBNe, Int.reduceLT, Int.reduceLE, Int.reduceGT, Int.reduceGE, Int.reduceNeg, BEq.rfl, bne_self_eq_false, ge_iff_le, gt_iff_lt]
theorem of_c {H : Hp} {x : AV} {l : List Nat} (hx : Rw H 1 x (bs l)) (hb : ∀ b ∈ l, b < 256) (hl : l.length ≤ 4294967296) :
    cK (.func (.func 34) [] []) [x] H = some (.int .u32 ((onS 1 l : Nat) : Int), H) := by
  refine c_sum_Of ?_
  unfold s_sum_Of
  have e1 := on_c hx hb hl (s := 1) (by decide) (by decide)
  rw [show (((1 : Nat) : Int)) = 1 from rfl] at e1
  simp only [e1, JN_0, JN_1, JN_2, JN_3, JN_4, JN_5, JN_6, JN_7, JN_8, JN_9, JN_10, JN_11, JN_12, JN_13, JN_14, JN_15, JN_16, JN_17, JN_18, JN_19, JN_20, JN_21, JN_22, JN_23, JN_24, B1_s, B2_s, BN_s, CD_t, CD_f, GO_tt, GO_ft, GO_tf, GO_ff, GO_ut, GO_uf, GD2_tt, GD2_ft, GD2_tf, GD2_ff, pk_t, pk_f, nilA_p, nilA_i, fa_p, fd_a, ex_t, iadd_i, isub_i, imul_i, ieq_i, ine_i, ilt_i, ile_i, igt_i, ige_i, seq_s, sne_s, slt_s, lens_s, lenx_0, lenx_s, not_b, bb_e, bb_n, cv_i, pe_00, pe_0p, pe_p0, eqB_e, eqB_n, List.getElem?_cons_zero, List.getElem?_cons_succ, Nat.zero_add, Bool.not_true, Bool.not_false, decide_true, decide_false, Int.reduceBEq, Int.reduceBNe, Int.reduceLT, Int.reduceLE, Int.reduceGT, Int.reduceGE, Int.reduceNeg, BEq.rfl, bne_self_eq_false, ge_iff_le, gt_iff_lt]
theorem off_c {H : Hp} (s : Nat) (h : s < 18446744073709551616) : cK (.func (.func 19) [] []) [.int .u64 s] H = some (.int .i64 ((s % 17592186044416 : Nat) : Int), H) := by
  refine c__stamp_Stamp_Off ?_
  unfold s__stamp_Stamp_Off
  have e1 : iand (.int .u64 (s : Int)) (.int .u64 17592186044415) = some (.int .u64 ((s % 17592186044416 : Nat) : Int)) := mask_n (m := 44) h (by decide) (wrap_u rfl (Nat.lt_of_lt_of_le (Nat.mod_lt _ (by decide)) (by decide)))
  have w1 := w64 (a := s % 17592186044416) (by omega)
  simp only [e1, w1, JN_0, JN_1, JN_2, JN_3, JN_4, JN_5, JN_6, JN_7, JN_8, JN_9, JN_10, JN_11, JN_12, JN_13, JN_14, JN_15, JN_16, JN_17, JN_18, JN_19, JN_20, JN_21, JN_22, JN_23, JN_24, B1_s, B2_s, BN_s, CD_t, CD_f, GO_tt, GO_ft, GO_tf, GO_ff, GO_ut, GO_uf, GD2_tt, GD2_ft, GD2_tf, GD2_ff, pk_t, pk_f, nilA_p, nilA_i, fa_p, fd_a, ex_t, iadd_i, isub_i, imul_i, ieq_i, ine_i, ilt_i, ile_i, igt_i, ige_i, seq_s, sne_s, slt_s, lens_s, lenx_0, lenx_s, not_b, bb_e, bb_n, cv_i, pe_00, pe_0p, pe_p0, eqB_e, eqB_n, List.getElem?_cons_zero, List.getElem?_cons_succ, Nat.zero_add, Bool.not_true, Bool.not_false, decide_true, decide_false, Int.reduceBEq, Int.reduceBNe, Int.reduceLT, Int.reduceLE, Int.reduceGT, Int.reduceGE, Int.reduceNeg, BEq.rfl, bne_self_eq_false, ge_iff_le, gt_iff_lt]
theorem epoch_c {H : Hp} (s : Nat) (h : s < 18446744073709551616) : cK (.func (.func 20) [] []) [.int .u64 s] H = some (.int .i64 ((s / 17592186044416 : Nat) : Int), H) := by
  refine c__stamp_Stamp_Epoch ?_
  unfold s__stamp_Stamp_Epoch
  have e1 : ishr (.int .u64 (s : Int)) (.int .u64 44) = some (.int .u64 ((s / 17592186044416 : Nat) : Int)) := ishr_n (b := 44)
  have w1 := w64 (a := s / 17592186044416) (by omega)
  simp only [e1, w1, JN_0, JN_1, JN_2, JN_3, JN_4, JN_5, JN_6, JN_7, JN_8, JN_9, JN_10, JN_11, JN_12, JN_13, JN_14, JN_15, JN_16, JN_17, JN_18, JN_19, JN_20, JN_21, JN_22, JN_23, JN_24, B1_s, B2_s, BN_s, CD_t, CD_f, GO_tt, GO_ft, GO_tf, GO_ff, GO_ut, GO_uf, GD2_tt, GD2_ft, GD2_tf, GD2_ff, pk_t, pk_f, nilA_p, nilA_i, fa_p, fd_a, ex_t, iadd_i, isub_i, imul_i, ieq_i, ine_i, ilt_i, ile_i, igt_i, ige_i, seq_s, sne_s, slt_s, lens_s, lenx_0, lenx_s, not_b, bb_e, bb_n, cv_i, pe_00, pe_0p, pe_p0, eqB_e, eqB_n, List.getElem?_cons_zero, List.getElem?_cons_succ, Nat.zero_add, Bool.not_true, Bool.not_false, decide_true, decide_false, Int.reduceBEq, Int.reduceBNe, Int.reduceLT, Int.reduceLE, Int.reduceGT, Int.reduceGE, Int.reduceNeg, BEq.rfl, bne_self_eq_false, ge_iff_le, gt_iff_lt]
theorem bts_wrap (n : Nat) (h : n < 18446744073709551616) : bts .i64 (IntKind.wrap .i64 (n : Int)) = n := by
  unfold bts IntKind.wrap
  simp [IntKind.bits, IntKind.signed]
  omega
theorem wrap_uw (n : Nat) (h : n < 18446744073709551616) : IntKind.wrap .u64 (IntKind.wrap .i64 (n : Int)) = n := by
  unfold IntKind.wrap
  simp [IntKind.bits, IntKind.signed]
  omega
theorem pack_c {H : Hp} (e o : Nat) (he : e ≤ 1048575) (ho : o ≤ 17592186044415) : cK (.func (.func 17) [] []) [.int .i64 e, .int .i64 o] H = some (.tuple [.int .u64 ((e * 17592186044416 + o : Nat) : Int), .bool true], H) := by
  refine c_stamp_Pack ?_
  unfold s_stamp_Pack
  have d1 : decide (((e : Nat) : Int) < 0) = false := decide_eq_false (by omega)
  have d2 : decide (1048575 < ((e : Nat) : Int)) = false := decide_eq_false (by omega)
  have d3 : decide (((o : Nat) : Int) < 0) = false := decide_eq_false (by omega)
  have d4 : decide (17592186044415 < ((o : Nat) : Int)) = false := decide_eq_false (by omega)
  have hh : e * 17592186044416 ||| o = e * 17592186044416 + o := by
    rw [Nat.or_comm]
    exact or_add (i := 44) (Nat.lt_of_le_of_lt ho (by decide))
  have e1 : ishl (.int .i64 (e : Int)) (.int .u64 44) = some (.int .i64 (IntKind.wrap .i64 ((e * 17592186044416 : Nat) : Int))) := ishl_n (k := .i64) (j := .u64) (a := e) (b := 44)
  have e2 : ior (.int .i64 (IntKind.wrap .i64 ((e * 17592186044416 : Nat) : Int))) (.int .i64 (o : Int)) = some (.int .i64 (IntKind.wrap .i64 ((e * 17592186044416 + o : Nat) : Int))) := by
    rw [← hh]
    have q := bts_nat (k := .i64) (n := o) (by show o < 18446744073709551616; omega)
    unfold ior ii
    simp only [if_true, bts_wrap (e * 17592186044416) (by omega), q]
  have w1 := wrap_uw (e * 17592186044416 + o) (by omega)
  simp only [d1, d2, d3, d4, e1, e2, w1, JN_0, JN_1, JN_2, JN_3, JN_4, JN_5, JN_6, JN_7, JN_8, JN_9, JN_10, JN_11, JN_12, JN_13, JN_14, JN_15, JN_16, JN_17, JN_18, JN_19, JN_20, JN_21, JN_22, JN_23, JN_24, B1_s, B2_s, BN_s, CD_t, CD_f, GO_tt, GO_ft, GO_tf, GO_ff, GO_ut, GO_uf, GD2_tt, GD2_ft, GD2_tf, GD2_ff, pk_t, pk_f, nilA_p, nilA_i, fa_p, fd_a, ex_t, iadd_i, isub_i, imul_i, ieq_i, ine_i, ilt_i, ile_i, igt_i, ige_i, seq_s, sne_s, slt_s, lens_s, lenx_0, lenx_s, not_b, bb_e, bb_n, cv_i, pe_00, pe_0p, pe_p0, eqB_e, eqB_n, List.getElem?_cons_zero, List.getElem?_cons_succ, Nat.zero_add, Bool.not_true, Bool.not_false, decide_true, decide_false, Int.reduceBEq, Int.reduceBNe, Int.reduceLT, Int.reduceLE, Int.reduceGT, Int.reduceGE, Int.reduceNeg, BEq.rfl, bne_self_eq_false, ge_iff_le, gt_iff_lt]
end Go.Proofs.YtdacjomfipkpaaaDoor.SgK
