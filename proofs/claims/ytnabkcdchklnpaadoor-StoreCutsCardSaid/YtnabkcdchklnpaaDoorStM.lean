/- Further laws of chapter 5 over the symbolic heap. Conditions: as each states them. -/
import Derived.Test.YtnabkcdchklnpaaDoorStL
namespace Go.Proofs.YtnabkcdchklnpaaDoor.StC
open Go Am Am.K StEnv StK
set_option linter.unusedVariables false
set_option linter.unusedSimpArgs false
set_option maxRecDepth 10000

/-- a store that stands on new objects alone -/
def Fresh (H0 : Hp) (p : Nat) (L : Lay) (H : Hp) : Prop := Out [] H0 H ∧ ∀ j ∈ foot p L, H0.next ≤ j
theorem Fresh.go {H0 H H' : Hp} {p : Nat} {L L' : Lay} (h : Fresh H0 p L H) (g : Go' p H L H' L') : Fresh H0 p L' H' :=
  ⟨⟨Nat.le_trans h.1.1 g.1.1, fun j hj _ => (g.1.2 j (Nat.lt_of_lt_of_le hj h.1.1) fun q => by have := h.2 j q; omega).trans (h.1.2 j hj fun q => by cases q)⟩,
   fun j hj => (g.2 j hj).elim (h.2 j) fun q => Nat.le_trans h.1.1 q⟩
theorem Fresh.out {H0 H H' : Hp} {p : Nat} {L : Lay} (h : Fresh H0 p L H) (g : Out [] H H') : Fresh H0 p L H' := ⟨h.1.trans g, h.2⟩
theorem Fresh.row {H0 H : Hp} {p : Nat} {L : Lay} {es : Nat} {x : AV} {l : List AV} (h : Fresh H0 p L H) (hx : Rw H0 es x l) : Rw H es x l ∧ ∀ j ∈ rid x, j ∉ foot p L :=
  ⟨hx.out h.1 fun j _ q => (by cases q), fun j hj q => by have := hx.lt j hj; have := h.2 j q; omega⟩

/-! StoreCuts -/
theorem cut_one {r : Nat} {kl : List Int} {n : List Nat} {a : List Nat} {s k : Nat} (h : okName n = true) (hk : k ≤ a.length) : cutM ⟨r, false, 0, kl, [⟨n, a, s⟩]⟩ n (k : Int) = (0, ⟨r, false, 0, kl, [⟨n, a.take k, min s k⟩]⟩) := by
  unfold cutM
  rw [ofE_one h, if_neg (by decide), look_one]
  simp only
  rw [if_neg (by omega), if_neg (by simp [burnB])]
  simp [burnM, setF]
theorem cuts_law {H : Hp} {x y : AV} {a b : List Nat} {n : Int} (hx : Rw H 1 x (bs a)) (hy : Rw H 1 y (bs b)) (ha : ∀ c ∈ a, c < 256) (hb : ∀ c ∈ b, c < 256) (hT : hasT H begin0) (hn : 4 ≤ H.next) :
    ∃ H', cK (.func (.func 5) [] []) [x, .int .i64 n, y] H = some (.bool true, H') := by
  have hA := awake_c an hT hn
  have hx1 := hx.len1
  have hy1 := hy.len1
  rw [bs_len] at hx1 hy1
  by_cases h1 : (300 : Int) < a.length
  · refine ⟨H, c_outriderlaw5_StoreCuts ?_⟩
    unfold s_outriderlaw5_StoreCuts
    simp only [hA, hx1, decide_eq_true h1, JN_0, JN_1, JN_2, JN_3, JN_4, JN_5, JN_6, JN_7, JN_8, JN_9, JN_10, JN_11, JN_12, JN_13, JN_14, JN_15, JN_16, JN_17, JN_18, JN_19, JN_20, JN_21, JN_22, JN_23, JN_24, B1_s, B2_s, BN_s, CD_t, CD_f, GO_tt, GO_ft, GO_tf, GO_ff, GO_ut, GO_uf, GD2_tt, GD2_ft, GD2_tf, GD2_ff, pk_t, pk_f, nilA_p, nilA_i, fa_p, fd_a, ex_t, iadd_i, isub_i, imul_i, ieq_i, ine_i, ilt_i, ile_i, igt_i, ige_i, seq_s, sne_s, slt_s, lens_s, lenx_0, lenx_s, not_b, cv_i, pe_00, pe_0p, pe_p0, eqB_e, eqB_n, List.getElem?_cons_zero, List.getElem?_cons_succ, Nat.zero_add, Bool.not_true, Bool.not_false, decide_true, decide_false, Int.reduceBEq, Int.reduceBNe, Int.reduceLT, Int.reduceLE, Int.reduceGT, Int.reduceGE, Int.reduceNeg, BEq.rfl, bne_self_eq_false, ge_iff_le, gt_iff_lt]
  by_cases h2 : (300 : Int) < b.length
  · refine ⟨H, c_outriderlaw5_StoreCuts ?_⟩
    unfold s_outriderlaw5_StoreCuts
    simp only [hA, hx1, hy1, decide_eq_false h1, decide_eq_true h2, JN_0, JN_1, JN_2, JN_3, JN_4, JN_5, JN_6, JN_7, JN_8, JN_9, JN_10, JN_11, JN_12, JN_13, JN_14, JN_15, JN_16, JN_17, JN_18, JN_19, JN_20, JN_21, JN_22, JN_23, JN_24, B1_s, B2_s, BN_s, CD_t, CD_f, GO_tt, GO_ft, GO_tf, GO_ff, GO_ut, GO_uf, GD2_tt, GD2_ft, GD2_tf, GD2_ff, pk_t, pk_f, nilA_p, nilA_i, fa_p, fd_a, ex_t, iadd_i, isub_i, imul_i, ieq_i, ine_i, ilt_i, ile_i, igt_i, ige_i, seq_s, sne_s, slt_s, lens_s, lenx_0, lenx_s, not_b, cv_i, pe_00, pe_0p, pe_p0, eqB_e, eqB_n, List.getElem?_cons_zero, List.getElem?_cons_succ, Nat.zero_add, Bool.not_true, Bool.not_false, decide_true, decide_false, Int.reduceBEq, Int.reduceBNe, Int.reduceLT, Int.reduceLE, Int.reduceGT, Int.reduceGE, Int.reduceNeg, BEq.rfl, bne_self_eq_false, ge_iff_le, gt_iff_lt]
  by_cases h3 : n < 0
  · refine ⟨H, c_outriderlaw5_StoreCuts ?_⟩
    unfold s_outriderlaw5_StoreCuts
    simp only [hA, hx1, hy1, decide_eq_false h1, decide_eq_false h2, decide_eq_true h3, JN_0, JN_1, JN_2, JN_3, JN_4, JN_5, JN_6, JN_7, JN_8, JN_9, JN_10, JN_11, JN_12, JN_13, JN_14, JN_15, JN_16, JN_17, JN_18, JN_19, JN_20, JN_21, JN_22, JN_23, JN_24, B1_s, B2_s, BN_s, CD_t, CD_f, GO_tt, GO_ft, GO_tf, GO_ff, GO_ut, GO_uf, GD2_tt, GD2_ft, GD2_tf, GD2_ff, pk_t, pk_f, nilA_p, nilA_i, fa_p, fd_a, ex_t, iadd_i, isub_i, imul_i, ieq_i, ine_i, ilt_i, ile_i, igt_i, ige_i, seq_s, sne_s, slt_s, lens_s, lenx_0, lenx_s, not_b, cv_i, pe_00, pe_0p, pe_p0, eqB_e, eqB_n, List.getElem?_cons_zero, List.getElem?_cons_succ, Nat.zero_add, Bool.not_true, Bool.not_false, decide_true, decide_false, Int.reduceBEq, Int.reduceBNe, Int.reduceLT, Int.reduceLE, Int.reduceGT, Int.reduceGE, Int.reduceNeg, BEq.rfl, bne_self_eq_false, ge_iff_le, gt_iff_lt]
  by_cases h4 : (a.length : Int) < n
  · refine ⟨H, c_outriderlaw5_StoreCuts ?_⟩
    unfold s_outriderlaw5_StoreCuts
    simp only [hA, hx1, hy1, decide_eq_false h1, decide_eq_false h2, decide_eq_false h3, decide_eq_true h4, JN_0, JN_1, JN_2, JN_3, JN_4, JN_5, JN_6, JN_7, JN_8, JN_9, JN_10, JN_11, JN_12, JN_13, JN_14, JN_15, JN_16, JN_17, JN_18, JN_19, JN_20, JN_21, JN_22, JN_23, JN_24, B1_s, B2_s, BN_s, CD_t, CD_f, GO_tt, GO_ft, GO_tf, GO_ff, GO_ut, GO_uf, GD2_tt, GD2_ft, GD2_tf, GD2_ff, pk_t, pk_f, nilA_p, nilA_i, fa_p, fd_a, ex_t, iadd_i, isub_i, imul_i, ieq_i, ine_i, ilt_i, ile_i, igt_i, ige_i, seq_s, sne_s, slt_s, lens_s, lenx_0, lenx_s, not_b, cv_i, pe_00, pe_0p, pe_p0, eqB_e, eqB_n, List.getElem?_cons_zero, List.getElem?_cons_succ, Nat.zero_add, Bool.not_true, Bool.not_false, decide_true, decide_false, Int.reduceBEq, Int.reduceBNe, Int.reduceLT, Int.reduceLE, Int.reduceGT, Int.reduceGE, Int.reduceNeg, BEq.rfl, bne_self_eq_false, ge_iff_le, gt_iff_lt]
  obtain ⟨N, rfl⟩ := Int.eq_ofNat_of_zero_le (show 0 ≤ n by omega)
  obtain ⟨H1, p, L1, n1, n2, n3, n4⟩ := (new_c H 1000).2 1000 rfl (by omega) (by omega)
  have f1 : Fresh H p L1 H1 := ⟨n3, n4⟩
  obtain ⟨H2, L2, p1, p2, p3⟩ := app_c n2 [102] (f1.row hx).1 ha (f1.row hx).2
  rw [app_new okf (by omega)] at p1 p2
  have f2 := f1.go p3
  obtain ⟨H3, L3, q1, q2, q3⟩ := sync_c p2 [102]
  rw [sync_one okf] at q1 q2
  have f3 := f2.go q3
  obtain ⟨H4, L4, r1, r2, r3⟩ := cut_c q2 [102] (N : Int)
  rw [cut_one okf (by omega)] at r1 r2
  have f4 := f3.go r3
  obtain ⟨H5, L5, s1, s2, s3⟩ := app_c r2 [102] (f4.row hy).1 hb (f4.row hy).2
  have hlt : (a.take N).length = N := by rw [List.length_take]; omega
  rw [app_old okf (by rw [hlt]; omega)] at s1 s2
  have f5 := f4.go s3
  obtain ⟨z, H6, t1, t2, t3, t4⟩ := read_c s2 [102]
  rw [ofE_one okf] at t1
  rw [read_one okf] at t2
  have s6 := s2.out t3 fun j _ q => by cases q
  have f6 := f5.out t3
  obtain ⟨H7, L7, u1, u2, u3⟩ := crash_c s6 (kv := .slice0) (kl := []) .nil fun j hj => by cases hj
  rw [crash_one] at u2
  have f7 := f6.go u3
  have hlt5 := s2.lt
  have hz7 : Rw H7 1 z (bs (a.take N ++ b)) := t2.out u3.1 fun j hj q => by
    have := t4 j hj; have := hlt5 j q; omega
  obtain ⟨H8, v1, v2, v3⟩ := on_c u2
  have f8 := f7.go v3
  have hlt7 := u2.lt
  have hz8 : Rw H8 1 z (bs (a.take N ++ b)) := hz7.out v3.1 fun j hj q => by
    have h1 := t4 j hj
    rcases u3.2 j q with q | q
    · have := hlt5 j q; omega
    · have := t2.lt j hj; omega
  have hfile : (if (a.take N ++ b).length = min a.length N then (⟨[102], a.take N ++ b, min a.length N⟩ : Fl) else ⟨[102], (a.take N ++ b).take (min a.length N + min (kn []).toNat ((a.take N ++ b).length - min a.length N)), min a.length N + min (kn []).toNat ((a.take N ++ b).length - min a.length N)⟩) = ⟨[102], a.take N, N⟩ := by
    have hm : min a.length N = N := by omega
    rw [hm, List.length_append, hlt]
    split
    · have : b = [] := List.length_eq_zero_iff.1 (by omega)
      subst this; simp
    · simp only [kn, Int.toNat_zero, Nat.zero_min, Nat.add_zero, List.take_append, hlt, Nat.sub_self, List.take_zero, List.append_nil]
      rw [List.take_of_length_le (by omega)]
  simp only at v2
  rw [hfile] at v2
  obtain ⟨z2, H9, w1, w2, w3, w4⟩ := read_c v2 [102]
  rw [ofE_one okf] at w1
  rw [read_one okf] at w2
  have f9 := f8.out w3
  have hz9 := hz8.out w3 fun j _ q => by cases q
  have hbz := b2s_ok hz9 (fun c hc => (List.mem_append.1 hc).elim (fun q => ha c (List.mem_of_mem_take q)) (hb c))
  have hbz2 := b2s_ok w2 fun c hc => ha c (List.mem_of_mem_take hc)
  have hby := b2s_ok (f9.row hy).1 hb
  have hla : (bs a).length = a.length * 1 := by rw [bs_len, Nat.mul_one]
  obtain ⟨x', x1, x2, x3⟩ := sll_rw (f9.row hx).1 hla (by omega) (a := 0) (b := N) (lo := none) (hi := some (.int .i64 (N : Int))) (Nat.zero_le _) (by omega) (Bd.no 0) (Bd.yes _ _ _)
  rw [Nat.zero_mul, List.drop_zero, Nat.sub_zero, Nat.mul_one, ← bs_take] at x2
  have hbx := b2s_ok x2 fun c hc => ha c (List.mem_of_mem_take hc)
  have hcat : scat (.str (a.take N)) (.str b) = some (.str (a.take N ++ b)) := scat_s (by rw [hlt]; omega)
  refine ⟨H9, c_outriderlaw5_StoreCuts ?_⟩
  unfold s_outriderlaw5_StoreCuts
  simp only [hA, hx1, hy1, decide_eq_false h1, decide_eq_false h2, decide_eq_false h3, decide_eq_false h4, n1, p1, q1, r1, s1, t1, u1, v1, w1, hbz, hbz2, hby, x1, hbx, hcat, JN_0, JN_1, JN_2, JN_3, JN_4, JN_5, JN_6, JN_7, JN_8, JN_9, JN_10, JN_11, JN_12, JN_13, JN_14, JN_15, JN_16, JN_17, JN_18, JN_19, JN_20, JN_21, JN_22, JN_23, JN_24, B1_s, B2_s, BN_s, CD_t, CD_f, GO_tt, GO_ft, GO_tf, GO_ff, GO_ut, GO_uf, GD2_tt, GD2_ft, GD2_tf, GD2_ff, pk_t, pk_f, nilA_p, nilA_i, fa_p, fd_a, ex_t, iadd_i, isub_i, imul_i, ieq_i, ine_i, ilt_i, ile_i, igt_i, ige_i, seq_s, sne_s, slt_s, lens_s, lenx_0, lenx_s, not_b, cv_i, pe_00, pe_0p, pe_p0, eqB_e, eqB_n, List.getElem?_cons_zero, List.getElem?_cons_succ, Nat.zero_add, Bool.not_true, Bool.not_false, decide_true, decide_false, Int.reduceBEq, Int.reduceBNe, Int.reduceLT, Int.reduceLE, Int.reduceGT, Int.reduceGE, Int.reduceNeg, BEq.rfl, bne_self_eq_false, ge_iff_le, gt_iff_lt]
theorem cuts_top {H : Hp} {as' : List AV} {ds : List D} (h : ArgsIs H [.slice 1 (.int .u8), .int .i64, .slice 1 (.int .u8)] as' ds) (hT : hasT H begin0) (hn : 4 ≤ H.next) :
    ∃ H', cK (.func (.func 5) [] []) as' H = some (.bool true, H') := by
  cases h with
  | cons h0 h =>
  cases h with
  | cons h1 h =>
  cases h with
  | cons h2 h =>
  cases h
  obtain ⟨a, ha, hab⟩ := isA_bytes h0
  obtain ⟨z, rfl, _⟩ := isA_int h1
  obtain ⟨b, hb, hbb⟩ := isA_bytes h2
  exact cuts_law ha hb hab hbb hT hn

/-! StoreSwaps -/
abbrev old : List Nat := [111, 108, 100]
abbrev new' : List Nat := [110, 101, 119]
theorem oko : okName old = true := by kernel_rfl
theorem okn : okName new' = true := by kernel_rfl
theorem names_two {r fu : Nat} {off : Bool} {kl : List Int} {a b : List Nat} {s t : Nat} : names ⟨r, off, fu, kl, [⟨old, a, s⟩, ⟨new', b, t⟩]⟩ = [new', old] := by
  have : sortN [old, new'] = [new', old] := by decide +kernel
  exact this
/-- a fall, where the old file is sure -/
theorem crash_two {r fu : Nat} {kl : List Int} {a b : List Nat} {t : Nat} (k : List Int) : ∃ b' t', crashM ⟨r, false, fu, kl, [⟨old, a, a.length⟩, ⟨new', b, t⟩]⟩ k = ⟨r, true, 0, kl, [⟨old, a, a.length⟩, ⟨new', b', t'⟩]⟩ := by
  unfold crashM
  rw [if_neg (by simp), names_two]
  unfold crashF
  have f1 : ([⟨old, a, a.length⟩, ⟨new', b, t⟩] : List Fl).find? (fun f => f.nm == new') = some ⟨new', b, t⟩ := by
    rw [List.find?_cons, List.find?_cons]
    have h1 : (old == new') = false := by decide
    have h2 : (new' == new') = true := by decide
    simp only [h1, h2]
  have f2 : ∀ (b' : List Nat) (t' : Nat) (kk : List Int), crashF [old] kk [⟨old, a, a.length⟩, ⟨new', b', t'⟩] = [⟨old, a, a.length⟩, ⟨new', b', t'⟩] := by
    intro b' t' kk
    unfold crashF
    rw [find_f]
    simp only [if_true]
    rfl
  simp only [f1]
  split
  · exact ⟨b, t, by rw [f2]⟩
  · have f3 : ∀ g : Fl, setF new' g [⟨old, a, a.length⟩, ⟨new', b, t⟩] = [⟨old, a, a.length⟩, g] := by
      intro g
      have h1 : ¬ (old = new') := by decide
      simp [setF, h1]
    exact ⟨_, _, by rw [f3]; unfold cutTo; rw [f2]⟩
theorem swaps_law {H : Hp} {x y kx : AV} {a b : List Nat} {calls : Int} {kl : List Int} (hx : Rw H 1 x (bs a)) (hy : Rw H 1 y (bs b)) (hk : Rw H 1 kx (ints kl)) (ha : ∀ c ∈ a, c < 256) (hb : ∀ c ∈ b, c < 256) (hc : calls ≤ 9223372036854775807) (hT : hasT H begin0) (hn : 4 ≤ H.next) :
    ∃ H', cK (.func (.func 6) [] []) [x, y, .int .i64 calls, kx] H = some (.bool true, H') := by
  have hA := awake_c an hT hn
  have hx1 := hx.len1
  have hy1 := hy.len1
  have hk1 := hk.len1
  rw [bs_len] at hx1 hy1
  unfold ints at hk1
  rw [List.length_map] at hk1
  by_cases h1 : (200 : Int) < a.length
  · refine ⟨H, c_outriderlaw5_StoreSwaps ?_⟩
    unfold s_outriderlaw5_StoreSwaps
    simp only [hA, hx1, decide_eq_true h1, JN_0, JN_1, JN_2, JN_3, JN_4, JN_5, JN_6, JN_7, JN_8, JN_9, JN_10, JN_11, JN_12, JN_13, JN_14, JN_15, JN_16, JN_17, JN_18, JN_19, JN_20, JN_21, JN_22, JN_23, JN_24, B1_s, B2_s, BN_s, CD_t, CD_f, GO_tt, GO_ft, GO_tf, GO_ff, GO_ut, GO_uf, GD2_tt, GD2_ft, GD2_tf, GD2_ff, pk_t, pk_f, nilA_p, nilA_i, fa_p, fd_a, ex_t, iadd_i, isub_i, imul_i, ieq_i, ine_i, ilt_i, ile_i, igt_i, ige_i, seq_s, sne_s, slt_s, lens_s, lenx_0, lenx_s, not_b, cv_i, pe_00, pe_0p, pe_p0, eqB_e, eqB_n, List.getElem?_cons_zero, List.getElem?_cons_succ, Nat.zero_add, Bool.not_true, Bool.not_false, decide_true, decide_false, Int.reduceBEq, Int.reduceBNe, Int.reduceLT, Int.reduceLE, Int.reduceGT, Int.reduceGE, Int.reduceNeg, BEq.rfl, bne_self_eq_false, ge_iff_le, gt_iff_lt]
  by_cases h2 : (200 : Int) < b.length
  · refine ⟨H, c_outriderlaw5_StoreSwaps ?_⟩
    unfold s_outriderlaw5_StoreSwaps
    simp only [hA, hx1, hy1, decide_eq_false h1, decide_eq_true h2, JN_0, JN_1, JN_2, JN_3, JN_4, JN_5, JN_6, JN_7, JN_8, JN_9, JN_10, JN_11, JN_12, JN_13, JN_14, JN_15, JN_16, JN_17, JN_18, JN_19, JN_20, JN_21, JN_22, JN_23, JN_24, B1_s, B2_s, BN_s, CD_t, CD_f, GO_tt, GO_ft, GO_tf, GO_ff, GO_ut, GO_uf, GD2_tt, GD2_ft, GD2_tf, GD2_ff, pk_t, pk_f, nilA_p, nilA_i, fa_p, fd_a, ex_t, iadd_i, isub_i, imul_i, ieq_i, ine_i, ilt_i, ile_i, igt_i, ige_i, seq_s, sne_s, slt_s, lens_s, lenx_0, lenx_s, not_b, cv_i, pe_00, pe_0p, pe_p0, eqB_e, eqB_n, List.getElem?_cons_zero, List.getElem?_cons_succ, Nat.zero_add, Bool.not_true, Bool.not_false, decide_true, decide_false, Int.reduceBEq, Int.reduceBNe, Int.reduceLT, Int.reduceLE, Int.reduceGT, Int.reduceGE, Int.reduceNeg, BEq.rfl, bne_self_eq_false, ge_iff_le, gt_iff_lt]
  by_cases h3 : (5 : Int) < kl.length
  · refine ⟨H, c_outriderlaw5_StoreSwaps ?_⟩
    unfold s_outriderlaw5_StoreSwaps
    simp only [hA, hx1, hy1, hk1, decide_eq_false h1, decide_eq_false h2, decide_eq_true h3, JN_0, JN_1, JN_2, JN_3, JN_4, JN_5, JN_6, JN_7, JN_8, JN_9, JN_10, JN_11, JN_12, JN_13, JN_14, JN_15, JN_16, JN_17, JN_18, JN_19, JN_20, JN_21, JN_22, JN_23, JN_24, B1_s, B2_s, BN_s, CD_t, CD_f, GO_tt, GO_ft, GO_tf, GO_ff, GO_ut, GO_uf, GD2_tt, GD2_ft, GD2_tf, GD2_ff, pk_t, pk_f, nilA_p, nilA_i, fa_p, fd_a, ex_t, iadd_i, isub_i, imul_i, ieq_i, ine_i, ilt_i, ile_i, igt_i, ige_i, seq_s, sne_s, slt_s, lens_s, lenx_0, lenx_s, not_b, cv_i, pe_00, pe_0p, pe_p0, eqB_e, eqB_n, List.getElem?_cons_zero, List.getElem?_cons_succ, Nat.zero_add, Bool.not_true, Bool.not_false, decide_true, decide_false, Int.reduceBEq, Int.reduceBNe, Int.reduceLT, Int.reduceLE, Int.reduceGT, Int.reduceGE, Int.reduceNeg, BEq.rfl, bne_self_eq_false, ge_iff_le, gt_iff_lt]
  by_cases h4 : calls < 1
  · refine ⟨H, c_outriderlaw5_StoreSwaps ?_⟩
    unfold s_outriderlaw5_StoreSwaps
    simp only [hA, hx1, hy1, hk1, decide_eq_false h1, decide_eq_false h2, decide_eq_false h3, decide_eq_true h4, JN_0, JN_1, JN_2, JN_3, JN_4, JN_5, JN_6, JN_7, JN_8, JN_9, JN_10, JN_11, JN_12, JN_13, JN_14, JN_15, JN_16, JN_17, JN_18, JN_19, JN_20, JN_21, JN_22, JN_23, JN_24, B1_s, B2_s, BN_s, CD_t, CD_f, GO_tt, GO_ft, GO_tf, GO_ff, GO_ut, GO_uf, GD2_tt, GD2_ft, GD2_tf, GD2_ff, pk_t, pk_f, nilA_p, nilA_i, fa_p, fd_a, ex_t, iadd_i, isub_i, imul_i, ieq_i, ine_i, ilt_i, ile_i, igt_i, ige_i, seq_s, sne_s, slt_s, lens_s, lenx_0, lenx_s, not_b, cv_i, pe_00, pe_0p, pe_p0, eqB_e, eqB_n, List.getElem?_cons_zero, List.getElem?_cons_succ, Nat.zero_add, Bool.not_true, Bool.not_false, decide_true, decide_false, Int.reduceBEq, Int.reduceBNe, Int.reduceLT, Int.reduceLE, Int.reduceGT, Int.reduceGE, Int.reduceNeg, BEq.rfl, bne_self_eq_false, ge_iff_le, gt_iff_lt]
  obtain ⟨H1, p, L1, n1, n2, n3, n4⟩ := (new_c H 1000).2 1000 rfl (by omega) (by omega)
  have f1 : Fresh H p L1 H1 := ⟨n3, n4⟩
  obtain ⟨H2, L2, p1, p2, p3⟩ := app_c n2 old (f1.row hx).1 ha (f1.row hx).2
  rw [app_new oko (by omega)] at p1 p2
  have f2 := f1.go p3
  obtain ⟨H3, L3, q1, q2, q3⟩ := sync_c p2 old
  rw [sync_one oko] at q1 q2
  have f3 := f2.go q3
  obtain ⟨H4, L4, r1, r2, r3⟩ := fuse_c q2 hc (f3.row hk).1 (f3.row hk).2 (by omega)
  have hfu : fuseM ⟨1000, false, 0, [], [⟨old, a, a.length⟩]⟩ calls kl = ⟨1000, false, calls.toNat, kl, [⟨old, a, a.length⟩]⟩ := by unfold fuseM; simp
  rw [hfu] at r2
  have f4 := f3.go r3
  obtain ⟨H5, L5, s1, s2, s3⟩ := app_c r2 new' (f4.row hy).1 hb (f4.row hy).2
  have f5 := f4.go s3
  have hlook : look ⟨1000, false, calls.toNat, kl, [⟨old, a, a.length⟩]⟩ new' = none := by
    unfold look
    have h1 : (old == new') = false := by decide
    simp only [List.find?_cons, h1, List.find?_nil]
  have hof : ofE ⟨1000, false, calls.toNat, kl, [⟨old, a, a.length⟩]⟩ new' = 4 := by unfold ofE; rw [hlook]; simp [okn]
  have happ : appM ⟨1000, false, calls.toNat, kl, [⟨old, a, a.length⟩]⟩ new' b = if calls = 1 then (11, crashM ⟨1000, false, 0, kl, [⟨old, a, a.length⟩]⟩ kl) else (0, ⟨1000, false, calls.toNat - 1, kl, [⟨old, a, a.length⟩, ⟨new', b, 0⟩]⟩) := by
    unfold appM
    rw [hof, if_neg (by decide), if_neg (by simp only [sum_one, List.length_cons, List.length_nil]; omega), hlook]
    by_cases hc1 : calls = 1
    · subst hc1
      simp [burnB, burnM]
    · have e1 : calls.toNat ≠ 1 := by omega
      have e0 : calls.toNat ≠ 0 := by omega
      simp [burnB, burnM, hc1, e1, e0]
  -- what comes behind, once the old file stands so
  have tail : ∀ (H6 : Hp) (L6 : Lay) (m6 : SM) (c : List Nat) (s : Nat) (r : Nat) (fu : Nat) (kl' : List Int) (rest : List Fl), St H6 p m6 L6 → Fresh H p L6 H6 →
      crashM m6 kl = ⟨r, true, fu, kl', ⟨old, c, s⟩ :: rest⟩ → (∀ z ∈ c, z < 256) → ∃ H7 H8 z H9, cK (.func (.func 13) [] []) [.ptr p 0, kx] H6 = some (.tuple [], H7) ∧
        cK (.func (.func 14) [] []) [.ptr p 0] H7 = some (.tuple [], H8) ∧ cK (.func (.func 15) [] []) [.ptr p 0, .str old] H8 = some (.tuple [z, .int .i64 0], H9) ∧
        b2s z H9 = some (.str c) ∧ b2s x H9 = some (.str a) ∧ b2s y H9 = some (.str b) := by
    intro H6 L6 m6 c s r fu kl' rest hs hf hcr hcb
    have hfr := hf.row hk
    obtain ⟨H7, L7, t1, t2, t3⟩ := crash_c hs hfr.1 fun j hj ⟨z, hz, q⟩ => hfr.2 j hj (St.mem_file hz q)
    rw [hcr] at t2
    have f7 := hf.go t3
    obtain ⟨H8, u1, u2, u3⟩ := on_c t2
    have f8 := f7.go u3
    obtain ⟨z, H9, v1, v2, v3, v4⟩ := read_c u2 old
    have hl : look ⟨r, false, fu, kl', ⟨old, c, s⟩ :: rest⟩ old = some ⟨old, c, s⟩ := by unfold look; simp
    have ho : ofE ⟨r, false, fu, kl', ⟨old, c, s⟩ :: rest⟩ old = 0 := by unfold ofE; rw [hl]; simp [oko]
    have hr : readM ⟨r, false, fu, kl', ⟨old, c, s⟩ :: rest⟩ old = c := by unfold readM; rw [ho, if_pos rfl, hl]
    simp only at v1 v2
    rw [ho] at v1
    rw [hr] at v2
    have f9 := f8.out v3
    exact ⟨H7, H8, z, H9, t1, u1, v1, b2s_ok v2 hcb, b2s_ok (f9.row hx).1 ha, b2s_ok (f9.row hy).1 hb⟩
  have d1 := decide_eq_false h1
  have d2 := decide_eq_false h2
  have d3 := decide_eq_false h3
  have d4 := decide_eq_false h4
  by_cases hc1 : calls = 1
  · rw [happ, if_pos hc1, crash_one] at s1 s2
    simp only [if_true] at s1 s2
    obtain ⟨H7, H8, z, H9, t1, u1, v1, w1, w2, w3⟩ := tail H5 L5 _ a a.length 1000 0 kl [] s2 f5 (by unfold crashM; rw [if_pos rfl]) ha
    refine ⟨H9, c_outriderlaw5_StoreSwaps ?_⟩
    unfold s_outriderlaw5_StoreSwaps
    simp only [hA, hx1, hy1, hk1, d1, d2, d3, d4, n1, p1, q1, r1, s1, t1, u1, v1, w1, w2, w3, JN_0, JN_1, JN_2, JN_3, JN_4, JN_5, JN_6, JN_7, JN_8, JN_9, JN_10, JN_11, JN_12, JN_13, JN_14, JN_15, JN_16, JN_17, JN_18, JN_19, JN_20, JN_21, JN_22, JN_23, JN_24, B1_s, B2_s, BN_s, CD_t, CD_f, GO_tt, GO_ft, GO_tf, GO_ff, GO_ut, GO_uf, GD2_tt, GD2_ft, GD2_tf, GD2_ff, pk_t, pk_f, nilA_p, nilA_i, fa_p, fd_a, ex_t, iadd_i, isub_i, imul_i, ieq_i, ine_i, ilt_i, ile_i, igt_i, ige_i, seq_s, sne_s, slt_s, lens_s, lenx_0, lenx_s, not_b, cv_i, pe_00, pe_0p, pe_p0, eqB_e, eqB_n, List.getElem?_cons_zero, List.getElem?_cons_succ, Nat.zero_add, Bool.not_true, Bool.not_false, decide_true, decide_false, Int.reduceBEq, Int.reduceBNe, Int.reduceLT, Int.reduceLE, Int.reduceGT, Int.reduceGE, Int.reduceNeg, BEq.rfl, bne_self_eq_false, ge_iff_le, gt_iff_lt]
  · rw [happ, if_neg hc1] at s1 s2
    have e1 : calls.toNat ≠ 1 := by omega
    obtain ⟨H6, L6, g1, g2, g3⟩ := swap_c s2 new' old
    have f6 := f5.go g3
    have hne : (old == new') = false := by decide
    have hln : look ⟨1000, false, calls.toNat - 1, kl, [⟨old, a, a.length⟩, ⟨new', b, 0⟩]⟩ new' = some ⟨new', b, 0⟩ := by
      unfold look
      have h2 : (new' == new') = true := by decide
      simp only [List.find?_cons, hne, h2]
    have hofn : ofE ⟨1000, false, calls.toNat - 1, kl, [⟨old, a, a.length⟩, ⟨new', b, 0⟩]⟩ new' = 0 := by unfold ofE; rw [hln]; simp [okn]
    by_cases hc2 : calls = 2
    · obtain ⟨b', t', hcr⟩ := crash_two (r := 1000) (fu := 0) (kl := kl) (a := a) (b := b) (t := 0) kl
      have hsw : swapM ⟨1000, false, calls.toNat - 1, kl, [⟨old, a, a.length⟩, ⟨new', b, 0⟩]⟩ new' old = (11, ⟨1000, true, 0, kl, [⟨old, a, a.length⟩, ⟨new', b', t'⟩]⟩) := by
        unfold swapM
        rw [hofn, if_neg (by decide), if_neg (by rw [oko]; decide), if_neg (by decide)]
        subst hc2
        have : burnB ⟨1000, false, (2 : Int).toNat - 1, kl, [⟨old, a, a.length⟩, ⟨new', b, 0⟩]⟩ = false := rfl
        rw [if_pos this]
        unfold burnM
        rw [if_neg (show ¬ ((2 : Int).toNat - 1 = 0) by decide), if_pos (by rfl)]
        simp only
        rw [hcr]
      rw [hsw] at g1 g2
      obtain ⟨H7, H8, z, H9, t1, u1, v1, w1, w2, w3⟩ := tail H6 L6 _ a a.length 1000 0 kl _ g2 f6 (by unfold crashM; rw [if_pos rfl]) ha
      refine ⟨H9, c_outriderlaw5_StoreSwaps ?_⟩
      unfold s_outriderlaw5_StoreSwaps
      simp only [hA, hx1, hy1, hk1, d1, d2, d3, d4, n1, p1, q1, r1, s1, g1, t1, u1, v1, w1, w2, w3, JN_0, JN_1, JN_2, JN_3, JN_4, JN_5, JN_6, JN_7, JN_8, JN_9, JN_10, JN_11, JN_12, JN_13, JN_14, JN_15, JN_16, JN_17, JN_18, JN_19, JN_20, JN_21, JN_22, JN_23, JN_24, B1_s, B2_s, BN_s, CD_t, CD_f, GO_tt, GO_ft, GO_tf, GO_ff, GO_ut, GO_uf, GD2_tt, GD2_ft, GD2_tf, GD2_ff, pk_t, pk_f, nilA_p, nilA_i, fa_p, fd_a, ex_t, iadd_i, isub_i, imul_i, ieq_i, ine_i, ilt_i, ile_i, igt_i, ige_i, seq_s, sne_s, slt_s, lens_s, lenx_0, lenx_s, not_b, cv_i, pe_00, pe_0p, pe_p0, eqB_e, eqB_n, List.getElem?_cons_zero, List.getElem?_cons_succ, Nat.zero_add, Bool.not_true, Bool.not_false, decide_true, decide_false, Int.reduceBEq, Int.reduceBNe, Int.reduceLT, Int.reduceLE, Int.reduceGT, Int.reduceGE, Int.reduceNeg, BEq.rfl, bne_self_eq_false, ge_iff_le, gt_iff_lt]
    · have hsw : swapM ⟨1000, false, calls.toNat - 1, kl, [⟨old, a, a.length⟩, ⟨new', b, 0⟩]⟩ new' old = (0, ⟨1000, false, calls.toNat - 1 - 1, kl, [⟨old, b, b.length⟩]⟩) := by
        unfold swapM
        rw [hofn, if_neg (by decide), if_neg (by rw [oko]; decide), if_neg (by decide)]
        have hb1 : burnB ⟨1000, false, calls.toNat - 1, kl, [⟨old, a, a.length⟩, ⟨new', b, 0⟩]⟩ = true := by
          have : calls.toNat - 1 ≠ 1 := by omega
          simp [burnB, this]
        rw [if_neg (by rw [hb1]; decide), hln]
        have e2 : calls.toNat - 1 ≠ 0 := by omega
        have e3 : calls.toNat - 1 ≠ 1 := by omega
        have e4 : delF new' [⟨old, a, a.length⟩, ⟨new', b, 0⟩] = [⟨old, a, a.length⟩] := by
          unfold delF
          have h2 : (new' == new') = true := by decide
          simp only [List.filter_cons, hne, h2]; rfl
        have e5 : putF ⟨old, b, b.length⟩ [⟨old, a, a.length⟩] = [⟨old, b, b.length⟩] := by
          unfold putF
          rw [find_f]
          simp [setF]
        simp only [burnM, e2, e3, if_false, e4, e5]
      rw [hsw] at g1 g2
      obtain ⟨H7, H8, z, H9, t1, u1, v1, w1, w2, w3⟩ := tail H6 L6 _ b b.length 1000 0 kl [] g2 f6 (by rw [crash_one]; simp) hb
      refine ⟨H9, c_outriderlaw5_StoreSwaps ?_⟩
      unfold s_outriderlaw5_StoreSwaps
      simp only [hA, hx1, hy1, hk1, d1, d2, d3, d4, n1, p1, q1, r1, s1, g1, t1, u1, v1, w1, w2, w3, JN_0, JN_1, JN_2, JN_3, JN_4, JN_5, JN_6, JN_7, JN_8, JN_9, JN_10, JN_11, JN_12, JN_13, JN_14, JN_15, JN_16, JN_17, JN_18, JN_19, JN_20, JN_21, JN_22, JN_23, JN_24, B1_s, B2_s, BN_s, CD_t, CD_f, GO_tt, GO_ft, GO_tf, GO_ff, GO_ut, GO_uf, GD2_tt, GD2_ft, GD2_tf, GD2_ff, pk_t, pk_f, nilA_p, nilA_i, fa_p, fd_a, ex_t, iadd_i, isub_i, imul_i, ieq_i, ine_i, ilt_i, ile_i, igt_i, ige_i, seq_s, sne_s, slt_s, lens_s, lenx_0, lenx_s, not_b, cv_i, pe_00, pe_0p, pe_p0, eqB_e, eqB_n, List.getElem?_cons_zero, List.getElem?_cons_succ, Nat.zero_add, Bool.not_true, Bool.not_false, decide_true, decide_false, Int.reduceBEq, Int.reduceBNe, Int.reduceLT, Int.reduceLE, Int.reduceGT, Int.reduceGE, Int.reduceNeg, BEq.rfl, bne_self_eq_false, ge_iff_le, gt_iff_lt]
theorem is_ints {H : Hp} {x : AV} {d : D} (h : Is H (.slice 1 (.int .i64)) [x] d) : ∃ b : List Int, Rw H 1 x (ints b) ∧ ∀ c ∈ b, -9223372036854775808 ≤ c ∧ c ≤ 9223372036854775807 := by
  refine row_of (fun (b : Int) => AV.int .i64 b) (fun b => -9223372036854775808 ≤ b ∧ b ≤ 9223372036854775807) (fun l d h => ?_) h
  cases h with
  | int k z h =>
    simp only [IntKind.min, IntKind.max, IntKind.signed, IntKind.bits] at h
    refine ⟨z, rfl, ?_⟩
    simp at h; omega
theorem swaps_top {H : Hp} {as' : List AV} {ds : List D} (h : ArgsIs H [.slice 1 (.int .u8), .slice 1 (.int .u8), .int .i64, .slice 1 (.int .i64)] as' ds) (hT : hasT H begin0) (hn : 4 ≤ H.next) :
    ∃ H', cK (.func (.func 6) [] []) as' H = some (.bool true, H') := by
  cases h with
  | cons h0 h =>
  cases h with
  | cons h1 h =>
  cases h with
  | cons h2 h =>
  cases h with
  | cons h3 h =>
  cases h
  obtain ⟨a, ha, hab⟩ := isA_bytes h0
  obtain ⟨b, hb, hbb⟩ := isA_bytes h1
  obtain ⟨z, rfl, hz⟩ := isA_int h2
  obtain ⟨kl, hk, _⟩ := is_ints (isA_row h3)
  refine swaps_law ha hb hk hab hbb ?_ hT hn
  simp only [IntKind.min, IntKind.max, IntKind.signed, IntKind.bits] at hz
  simp at hz; omega

/-! StoreRoom -/
theorem rows_is {H : Hp} {e : Ty} {x : AV} {d : D} (h : Is H (.slice 1 e) [x] d) : ∃ l, Rw H 1 x l ∧ ∀ v ∈ l, ∃ d', Is H e [v] d' := by
  cases h with
  | @slice _ _ _ l ds hr hl hd =>
    rw [Nat.mul_one] at hl
    refine ⟨l, hr, fun v hv => ?_⟩
    obtain ⟨i, hi⟩ := List.getElem?_of_mem hv
    have hil := (List.getElem?_eq_some_iff.1 hi).1
    have h1 := hd i ds[i] (List.getElem?_eq_getElem (by omega))
    have h2 : (l.drop (i * 1)).take 1 = [v] := by
      rw [Nat.mul_one, List.drop_eq_getElem_cons hil, List.take_succ_cons, List.take_zero, (List.getElem?_eq_some_iff.1 hi).2]
    rw [h2] at h1
    exact ⟨_, h1⟩
theorem bb_neq (a b : Bool) : bb .neq (.bool a) (.bool b) = some (.bool (!(a == b))) := rfl
def Sn (room n : Nat) (m : SM) : Prop := n ≤ room ∧ ∃ fs, m = ⟨room, false, 0, [], fs⟩ ∧ ((fs = [] ∧ n = 0) ∨ ∃ b, fs = [⟨[102], b, 0⟩] ∧ b.length = n)
theorem Sn.sum {room n : Nat} {m : SM} (h : Sn room n m) : m.room = room ∧ sumB m.fs = n := by
  obtain ⟨_, fs, rfl, h⟩ := h
  rcases h with ⟨rfl, rfl⟩ | ⟨b, rfl, rfl⟩
  · exact ⟨rfl, rfl⟩
  · exact ⟨rfl, sum_one _⟩
theorem Sn.app {room n : Nat} {m : SM} (h : Sn room n m) (b : List Nat) : ((appM m [102] b).1 = 0 ∧ b.length ≤ room - n ∧ Sn room (n + b.length) (appM m [102] b).2) ∨ ((appM m [102] b).1 = 6 ∧ room - n < b.length ∧ Sn room n (appM m [102] b).2) := by
  obtain ⟨hle, fs, rfl, h⟩ := h
  by_cases hb : b.length ≤ room - n
  · refine .inl ?_
    rcases h with ⟨rfl, rfl⟩ | ⟨c, rfl, rfl⟩
    · rw [app_new okf (by omega)]
      exact ⟨rfl, hb, by omega, _, rfl, .inr ⟨b, rfl, by omega⟩⟩
    · rw [app_old okf (by omega)]
      exact ⟨rfl, hb, by omega, _, rfl, .inr ⟨c ++ b, rfl, by rw [List.length_append]⟩⟩
  · refine .inr ?_
    have h6 : appM ⟨room, false, 0, [], fs⟩ [102] b = (6, ⟨room, false, 0, [], fs⟩) := by
      unfold appM
      have hs := (Sn.sum (room := room) (n := n) (m := ⟨room, false, 0, [], fs⟩) ⟨hle, fs, rfl, h⟩).2
      rw [if_neg (by rcases h with ⟨rfl, _⟩ | ⟨c, rfl, _⟩; · rw [ofE_none okf]; decide
                     · rw [ofE_one okf]; decide), if_pos (.inl (by simp only at hs ⊢; rw [hs]; omega))]
    rw [h6]
    exact ⟨rfl, by omega, hle, fs, rfl, h⟩
theorem room_loop (j44 : Am.K.Fn 3) {H0 : Hp} {p : Nat} {x : AV} {rows : List AV} {room : Nat} (hx : Rw H0 1 x rows) (hrows : ∀ v ∈ rows, ∃ b, Rw H0 1 v (bs b) ∧ ∀ c ∈ b, c < 256) (hroom : room ≤ 3000) (hlen : rows.length ≤ 20)
    (hj : ∀ (n : Nat) (H : Hp) (m : SM) (L : Lay), St H p m L → Fresh H0 p L H → Sn room n m → ∃ H', j44 x (.ptr p 0) (.int .i64 n) H = some (.bool true, H')) :
    ∀ (rest : List AV) (i n : Nat) (H : Hp) (m : SM) (L : Lay), St H p m L → Fresh H0 p L H → Sn room n m → rows.drop i = rest → i + rest.length = rows.length →
      ∃ H', l_outriderlaw5_StoreRoom JN GO cK j44 (.int .i64 room) x (.ptr p 0) (.int .i64 n) (.int .i64 i) H = some (.bool true, H')
  | [], i, n, H, m, L, hs, hf, hn, hd, hi => by
    obtain ⟨H', h⟩ := hj n H m L hs hf hn
    refine ⟨H', ?_⟩
    rw [ql_outriderlaw5_StoreRoom]
    have h1 := (hf.row hx).1.len1
    have : decide ((i : Int) < (rows.length : Int)) = false := by simp only [List.length_nil] at hi; simp; omega
    simp only [h1, this, h, JN_0, JN_1, JN_2, JN_3, JN_4, JN_5, JN_6, JN_7, JN_8, JN_9, JN_10, JN_11, JN_12, JN_13, JN_14, JN_15, JN_16, JN_17, JN_18, JN_19, JN_20, JN_21, JN_22, JN_23, JN_24, B1_s, B2_s, BN_s, CD_t, CD_f, GO_tt, GO_ft, GO_tf, GO_ff, GO_ut, GO_uf, GD2_tt, GD2_ft, GD2_tf, GD2_ff, pk_t, pk_f, nilA_p, nilA_i, fa_p, fd_a, ex_t, iadd_i, isub_i, imul_i, ieq_i, ine_i, ilt_i, ile_i, igt_i, ige_i, seq_s, sne_s, slt_s, lens_s, lenx_0, lenx_s, not_b, cv_i, pe_00, pe_0p, pe_p0, eqB_e, eqB_n, List.getElem?_cons_zero, List.getElem?_cons_succ, Nat.zero_add, Bool.not_true, Bool.not_false, decide_true, decide_false, Int.reduceBEq, Int.reduceBNe, Int.reduceLT, Int.reduceLE, Int.reduceGT, Int.reduceGE, Int.reduceNeg, BEq.rfl, bne_self_eq_false, ge_iff_le, gt_iff_lt]
  | v :: rest, i, n, H, m, L, hs, hf, hn, hd, hi => by
    simp only [List.length_cons] at hi
    have h1 := (hf.row hx).1.len1
    have hlt : decide ((i : Int) < (rows.length : Int)) = true := by simp; omega
    have hv : rows[i]? = some v := by
      have := congrArg (fun l => l[0]?) hd
      simpa using this
    have hd' : rows.drop (i + 1) = rest := by
      have := congrArg (List.drop 1) hd
      rw [List.drop_drop] at this
      simpa using this
    obtain ⟨b, hb, hbb⟩ := hrows v (List.mem_of_getElem? hv)
    obtain ⟨q, hq1, hq2⟩ := (hf.row hx).1.ia1 hv .i64
    have hvl := hb.len1
    rw [bs_len] at hvl
    rw [ql_outriderlaw5_StoreRoom]
    by_cases hbig : (1000 : Int) < b.length
    · refine ⟨H, ?_⟩
      simp only [h1, hlt, hq1, hq2, hvl, decide_eq_true hbig, JN_0, JN_1, JN_2, JN_3, JN_4, JN_5, JN_6, JN_7, JN_8, JN_9, JN_10, JN_11, JN_12, JN_13, JN_14, JN_15, JN_16, JN_17, JN_18, JN_19, JN_20, JN_21, JN_22, JN_23, JN_24, B1_s, B2_s, BN_s, CD_t, CD_f, GO_tt, GO_ft, GO_tf, GO_ff, GO_ut, GO_uf, GD2_tt, GD2_ft, GD2_tf, GD2_ff, pk_t, pk_f, nilA_p, nilA_i, fa_p, fd_a, ex_t, iadd_i, isub_i, imul_i, ieq_i, ine_i, ilt_i, ile_i, igt_i, ige_i, seq_s, sne_s, slt_s, lens_s, lenx_0, lenx_s, not_b, cv_i, pe_00, pe_0p, pe_p0, eqB_e, eqB_n, List.getElem?_cons_zero, List.getElem?_cons_succ, Nat.zero_add, Bool.not_true, Bool.not_false, decide_true, decide_false, Int.reduceBEq, Int.reduceBNe, Int.reduceLT, Int.reduceLE, Int.reduceGT, Int.reduceGE, Int.reduceNeg, BEq.rfl, bne_self_eq_false, ge_iff_le, gt_iff_lt]
    obtain ⟨H1, L1, a1, a2, a3⟩ := app_c hs [102] (hf.row hb).1 hbb (hf.row hb).2
    have hf1 := hf.go a3
    obtain ⟨q', hq3, hq4⟩ := (hf1.row hx).1.ia1 hv .i64
    have hqq : q' = q := by rw [hq1] at hq3; exact (Option.some.inj hq3).symm
    subst hqq
    have hfree := free_c a2
    have hnr := hn.1
    have hw1 : IntKind.wrap .i64 ((room : Int) - n) = (room : Int) - n := wrap_i64 (by omega) (by omega)
    have hwi : IntKind.wrap .i64 ((i : Int) + 1) = ((i + 1 : Nat) : Int) := by rw [wrap_i64 (by omega) (by omega)]; omega
    rcases hn.app b with ⟨e1, e2, e3⟩ | ⟨e1, e2, e3⟩
    · rw [e1] at a1
      obtain ⟨s1, s2⟩ := e3.sum
      rw [s1, s2] at hfree
      have hle : decide ((b.length : Int) ≤ (room : Int) - n) = true := decide_eq_true (by omega)
      have hw2 : IntKind.wrap .i64 ((n : Int) + b.length) = ((n + b.length : Nat) : Int) := by rw [wrap_i64 (by omega) (by omega)]; omega
      have hw3 : IntKind.wrap .i64 ((room : Int) - ((n + b.length : Nat) : Int)) = (room : Int) - ((n + b.length : Nat) : Int) := wrap_i64 (by omega) (by omega)
      obtain ⟨H', hrec⟩ := room_loop j44 hx hrows hroom hlen hj rest (i + 1) (n + b.length) H1 _ L1 a2 hf1 e3 hd' (by omega)
      refine ⟨H', ?_⟩
      simp only [h1, hlt, hq1, hq2, hq4, hvl, decide_eq_false hbig, a1, hw1, hle, bb_neq, hw2, hfree, hw3, hwi, hrec, JN_0, JN_1, JN_2, JN_3, JN_4, JN_5, JN_6, JN_7, JN_8, JN_9, JN_10, JN_11, JN_12, JN_13, JN_14, JN_15, JN_16, JN_17, JN_18, JN_19, JN_20, JN_21, JN_22, JN_23, JN_24, B1_s, B2_s, BN_s, CD_t, CD_f, GO_tt, GO_ft, GO_tf, GO_ff, GO_ut, GO_uf, GD2_tt, GD2_ft, GD2_tf, GD2_ff, pk_t, pk_f, nilA_p, nilA_i, fa_p, fd_a, ex_t, iadd_i, isub_i, imul_i, ieq_i, ine_i, ilt_i, ile_i, igt_i, ige_i, seq_s, sne_s, slt_s, lens_s, lenx_0, lenx_s, not_b, cv_i, pe_00, pe_0p, pe_p0, eqB_e, eqB_n, List.getElem?_cons_zero, List.getElem?_cons_succ, Nat.zero_add, Bool.not_true, Bool.not_false, decide_true, decide_false, Int.reduceBEq, Int.reduceBNe, Int.reduceLT, Int.reduceLE, Int.reduceGT, Int.reduceGE, Int.reduceNeg, BEq.rfl, bne_self_eq_false, ge_iff_le, gt_iff_lt]
    · rw [e1] at a1
      obtain ⟨s1, s2⟩ := e3.sum
      rw [s1, s2] at hfree
      have hle : decide ((b.length : Int) ≤ (room : Int) - n) = false := decide_eq_false (by omega)
      obtain ⟨H', hrec⟩ := room_loop j44 hx hrows hroom hlen hj rest (i + 1) n H1 _ L1 a2 hf1 e3 hd' (by omega)
      refine ⟨H', ?_⟩
      have h6 : ((6 : Int) == 0) = false := by decide
      have hff : (false == false) = true := rfl
      simp only [h1, hlt, hq1, hq2, hq4, hvl, decide_eq_false hbig, a1, hw1, hle, bb_neq, h6, hff, hfree, hwi, hrec, JN_0, JN_1, JN_2, JN_3, JN_4, JN_5, JN_6, JN_7, JN_8, JN_9, JN_10, JN_11, JN_12, JN_13, JN_14, JN_15, JN_16, JN_17, JN_18, JN_19, JN_20, JN_21, JN_22, JN_23, JN_24, B1_s, B2_s, BN_s, CD_t, CD_f, GO_tt, GO_ft, GO_tf, GO_ff, GO_ut, GO_uf, GD2_tt, GD2_ft, GD2_tf, GD2_ff, pk_t, pk_f, nilA_p, nilA_i, fa_p, fd_a, ex_t, iadd_i, isub_i, imul_i, ieq_i, ine_i, ilt_i, ile_i, igt_i, ige_i, seq_s, sne_s, slt_s, lens_s, lenx_0, lenx_s, not_b, cv_i, pe_00, pe_0p, pe_p0, eqB_e, eqB_n, List.getElem?_cons_zero, List.getElem?_cons_succ, Nat.zero_add, Bool.not_true, Bool.not_false, decide_true, decide_false, Int.reduceBEq, Int.reduceBNe, Int.reduceLT, Int.reduceLE, Int.reduceGT, Int.reduceGE, Int.reduceNeg, BEq.rfl, bne_self_eq_false, ge_iff_le, gt_iff_lt]
theorem room_law {H : Hp} {x : AV} {rows : List AV} {room : Int} (hx : Rw H 1 x rows) (hrows : ∀ v ∈ rows, ∃ b, Rw H 1 v (bs b) ∧ ∀ c ∈ b, c < 256) (hT : hasT H begin0) (hn : 4 ≤ H.next) :
    ∃ H', cK (.func (.func 4) [] []) [.int .i64 room, x] H = some (.bool true, H') := by
  have hA := awake_c an hT hn
  have hx1 := hx.len1
  by_cases h1 : room < 1
  · refine ⟨H, c_outriderlaw5_StoreRoom ?_⟩
    unfold s_outriderlaw5_StoreRoom
    simp only [hA, decide_eq_true h1, JN_0, JN_1, JN_2, JN_3, JN_4, JN_5, JN_6, JN_7, JN_8, JN_9, JN_10, JN_11, JN_12, JN_13, JN_14, JN_15, JN_16, JN_17, JN_18, JN_19, JN_20, JN_21, JN_22, JN_23, JN_24, B1_s, B2_s, BN_s, CD_t, CD_f, GO_tt, GO_ft, GO_tf, GO_ff, GO_ut, GO_uf, GD2_tt, GD2_ft, GD2_tf, GD2_ff, pk_t, pk_f, nilA_p, nilA_i, fa_p, fd_a, ex_t, iadd_i, isub_i, imul_i, ieq_i, ine_i, ilt_i, ile_i, igt_i, ige_i, seq_s, sne_s, slt_s, lens_s, lenx_0, lenx_s, not_b, cv_i, pe_00, pe_0p, pe_p0, eqB_e, eqB_n, List.getElem?_cons_zero, List.getElem?_cons_succ, Nat.zero_add, Bool.not_true, Bool.not_false, decide_true, decide_false, Int.reduceBEq, Int.reduceBNe, Int.reduceLT, Int.reduceLE, Int.reduceGT, Int.reduceGE, Int.reduceNeg, BEq.rfl, bne_self_eq_false, ge_iff_le, gt_iff_lt]
  by_cases h2 : (3000 : Int) < room
  · refine ⟨H, c_outriderlaw5_StoreRoom ?_⟩
    unfold s_outriderlaw5_StoreRoom
    simp only [hA, decide_eq_false h1, decide_eq_true h2, JN_0, JN_1, JN_2, JN_3, JN_4, JN_5, JN_6, JN_7, JN_8, JN_9, JN_10, JN_11, JN_12, JN_13, JN_14, JN_15, JN_16, JN_17, JN_18, JN_19, JN_20, JN_21, JN_22, JN_23, JN_24, B1_s, B2_s, BN_s, CD_t, CD_f, GO_tt, GO_ft, GO_tf, GO_ff, GO_ut, GO_uf, GD2_tt, GD2_ft, GD2_tf, GD2_ff, pk_t, pk_f, nilA_p, nilA_i, fa_p, fd_a, ex_t, iadd_i, isub_i, imul_i, ieq_i, ine_i, ilt_i, ile_i, igt_i, ige_i, seq_s, sne_s, slt_s, lens_s, lenx_0, lenx_s, not_b, cv_i, pe_00, pe_0p, pe_p0, eqB_e, eqB_n, List.getElem?_cons_zero, List.getElem?_cons_succ, Nat.zero_add, Bool.not_true, Bool.not_false, decide_true, decide_false, Int.reduceBEq, Int.reduceBNe, Int.reduceLT, Int.reduceLE, Int.reduceGT, Int.reduceGE, Int.reduceNeg, BEq.rfl, bne_self_eq_false, ge_iff_le, gt_iff_lt]
  by_cases h3 : (20 : Int) < rows.length
  · refine ⟨H, c_outriderlaw5_StoreRoom ?_⟩
    unfold s_outriderlaw5_StoreRoom
    simp only [hA, hx1, decide_eq_false h1, decide_eq_false h2, decide_eq_true h3, JN_0, JN_1, JN_2, JN_3, JN_4, JN_5, JN_6, JN_7, JN_8, JN_9, JN_10, JN_11, JN_12, JN_13, JN_14, JN_15, JN_16, JN_17, JN_18, JN_19, JN_20, JN_21, JN_22, JN_23, JN_24, B1_s, B2_s, BN_s, CD_t, CD_f, GO_tt, GO_ft, GO_tf, GO_ff, GO_ut, GO_uf, GD2_tt, GD2_ft, GD2_tf, GD2_ff, pk_t, pk_f, nilA_p, nilA_i, fa_p, fd_a, ex_t, iadd_i, isub_i, imul_i, ieq_i, ine_i, ilt_i, ile_i, igt_i, ige_i, seq_s, sne_s, slt_s, lens_s, lenx_0, lenx_s, not_b, cv_i, pe_00, pe_0p, pe_p0, eqB_e, eqB_n, List.getElem?_cons_zero, List.getElem?_cons_succ, Nat.zero_add, Bool.not_true, Bool.not_false, decide_true, decide_false, Int.reduceBEq, Int.reduceBNe, Int.reduceLT, Int.reduceLE, Int.reduceGT, Int.reduceGE, Int.reduceNeg, BEq.rfl, bne_self_eq_false, ge_iff_le, gt_iff_lt]
  obtain ⟨R, rfl⟩ := Int.eq_ofNat_of_zero_le (show 0 ≤ room by omega)
  obtain ⟨H1, p, L1, n1, n2, n3, n4⟩ := (new_c H (R : Int)).2 R rfl (by omega) (by omega)
  have f1 : Fresh H p L1 H1 := ⟨n3, n4⟩
  have hz0 : ((0 : Int) == 0) = true := rfl
  obtain ⟨H', hl⟩ := room_loop (fun x141 x142 x143 h144 =>
      B2 (cK (.func (.func 15) [] []) [x142, (.str [102])] h144) fun v150 h151 =>
      B1 (ex 0 v150) fun v152 =>
      B1 (ex 1 v150) fun v153 =>
      B1 (lenx x141) fun v159 =>
      B1 (ieq v159 (.int .i64 0)) fun v160 =>
      GO v160 false (fun k161 =>
      k161 x143 h151) (fun v162 h163 =>
      GO v160 false (fun k164 =>
      B1 (ieq v162 (.int .i64 0)) fun v165 =>
      k164 v165 h163) (fun v166 h167 =>
      B1 (pk v160 (.bool true) v166) fun v168 =>
      GO v168 false (fun k169 =>
      k169 v153 h167) (fun v170 h171 =>
      GO v168 false (fun k172 =>
      B1 (ieq v170 (.int .i64 0)) fun v173 =>
      k172 v173 h171) (fun v174 h175 =>
      GO v168 false (fun k176 =>
      k176 v174 h175) (fun v177 h178 =>
      GO v177 true (fun k179 =>
      k179 v152 h178) (fun v180 h181 =>
      GO v177 true (fun k182 =>
      B1 (lenx v180) fun v183 =>
      k182 v183 h181) (fun v184 h185 =>
      GO v177 true (fun k186 =>
      k186 x143 h185) (fun v187 h188 =>
      GO v177 true (fun k189 =>
      B1 (ieq v184 v187) fun v190 =>
      k189 v190 h188) (fun v191 h192 =>
      GO v168 false (fun k193 =>
      B1 (pk v177 v191 (.bool false)) fun v194 =>
      k193 v194 h192) (fun v195 h196 =>
      B1 (pk v168 (.bool true) v195) fun v197 =>
      some (v197, h196)) h192) h188) h185) h181) h178) h175) h171) h167) h163) h151) (H0 := H) (p := p) hx hrows (show R ≤ 3000 by omega) (by omega) (fun n H2 m L hs hf hsn => by
        have hl1 := (hf.row hx).1.len1
        obtain ⟨z, H3, v1, v2, v3, v4⟩ := read_c hs [102]
        have hzl := v2.len1
        rw [bs_len] at hzl
        refine ⟨H3, ?_⟩
        obtain ⟨hle, fs, rfl, hcase⟩ := hsn
        by_cases hr0 : rows.length = 0
        · have : (((rows.length : Nat) : Int) == 0) = true := by rw [hr0]; rfl
          simp only [v1, hl1, this, JN_0, JN_1, JN_2, JN_3, JN_4, JN_5, JN_6, JN_7, JN_8, JN_9, JN_10, JN_11, JN_12, JN_13, JN_14, JN_15, JN_16, JN_17, JN_18, JN_19, JN_20, JN_21, JN_22, JN_23, JN_24, B1_s, B2_s, BN_s, CD_t, CD_f, GO_tt, GO_ft, GO_tf, GO_ff, GO_ut, GO_uf, GD2_tt, GD2_ft, GD2_tf, GD2_ff, pk_t, pk_f, nilA_p, nilA_i, fa_p, fd_a, ex_t, iadd_i, isub_i, imul_i, ieq_i, ine_i, ilt_i, ile_i, igt_i, ige_i, seq_s, sne_s, slt_s, lens_s, lenx_0, lenx_s, not_b, cv_i, pe_00, pe_0p, pe_p0, eqB_e, eqB_n, List.getElem?_cons_zero, List.getElem?_cons_succ, Nat.zero_add, Bool.not_true, Bool.not_false, decide_true, decide_false, Int.reduceBEq, Int.reduceBNe, Int.reduceLT, Int.reduceLE, Int.reduceGT, Int.reduceGE, Int.reduceNeg, BEq.rfl, bne_self_eq_false, ge_iff_le, gt_iff_lt]
        · have hr1 : (((rows.length : Nat) : Int) == 0) = false := by simp; exact fun q => hr0 (by rw [q]; rfl)
          rcases hcase with ⟨rfl, rfl⟩ | ⟨b, rfl, rfl⟩
          · have : ((((0 : Nat)) : Int) == 0) = true := rfl
            simp only [v1, hl1, hr1, this, JN_0, JN_1, JN_2, JN_3, JN_4, JN_5, JN_6, JN_7, JN_8, JN_9, JN_10, JN_11, JN_12, JN_13, JN_14, JN_15, JN_16, JN_17, JN_18, JN_19, JN_20, JN_21, JN_22, JN_23, JN_24, B1_s, B2_s, BN_s, CD_t, CD_f, GO_tt, GO_ft, GO_tf, GO_ff, GO_ut, GO_uf, GD2_tt, GD2_ft, GD2_tf, GD2_ff, pk_t, pk_f, nilA_p, nilA_i, fa_p, fd_a, ex_t, iadd_i, isub_i, imul_i, ieq_i, ine_i, ilt_i, ile_i, igt_i, ige_i, seq_s, sne_s, slt_s, lens_s, lenx_0, lenx_s, not_b, cv_i, pe_00, pe_0p, pe_p0, eqB_e, eqB_n, List.getElem?_cons_zero, List.getElem?_cons_succ, Nat.zero_add, Bool.not_true, Bool.not_false, decide_true, decide_false, Int.reduceBEq, Int.reduceBNe, Int.reduceLT, Int.reduceLE, Int.reduceGT, Int.reduceGE, Int.reduceNeg, BEq.rfl, bne_self_eq_false, ge_iff_le, gt_iff_lt]
          · rw [ofE_one okf] at v1
            rw [read_one okf] at hzl
            by_cases hb0 : b.length = 0
            · have : (((b.length : Nat) : Int) == 0) = true := by rw [hb0]; rfl
              simp only [v1, hl1, hr1, this, JN_0, JN_1, JN_2, JN_3, JN_4, JN_5, JN_6, JN_7, JN_8, JN_9, JN_10, JN_11, JN_12, JN_13, JN_14, JN_15, JN_16, JN_17, JN_18, JN_19, JN_20, JN_21, JN_22, JN_23, JN_24, B1_s, B2_s, BN_s, CD_t, CD_f, GO_tt, GO_ft, GO_tf, GO_ff, GO_ut, GO_uf, GD2_tt, GD2_ft, GD2_tf, GD2_ff, pk_t, pk_f, nilA_p, nilA_i, fa_p, fd_a, ex_t, iadd_i, isub_i, imul_i, ieq_i, ine_i, ilt_i, ile_i, igt_i, ige_i, seq_s, sne_s, slt_s, lens_s, lenx_0, lenx_s, not_b, cv_i, pe_00, pe_0p, pe_p0, eqB_e, eqB_n, List.getElem?_cons_zero, List.getElem?_cons_succ, Nat.zero_add, Bool.not_true, Bool.not_false, decide_true, decide_false, Int.reduceBEq, Int.reduceBNe, Int.reduceLT, Int.reduceLE, Int.reduceGT, Int.reduceGE, Int.reduceNeg, BEq.rfl, bne_self_eq_false, ge_iff_le, gt_iff_lt]
            · have : (((b.length : Nat) : Int) == 0) = false := by simp; exact fun q => hb0 (by rw [q]; rfl)
              simp only [v1, hl1, hr1, this, hzl, JN_0, JN_1, JN_2, JN_3, JN_4, JN_5, JN_6, JN_7, JN_8, JN_9, JN_10, JN_11, JN_12, JN_13, JN_14, JN_15, JN_16, JN_17, JN_18, JN_19, JN_20, JN_21, JN_22, JN_23, JN_24, B1_s, B2_s, BN_s, CD_t, CD_f, GO_tt, GO_ft, GO_tf, GO_ff, GO_ut, GO_uf, GD2_tt, GD2_ft, GD2_tf, GD2_ff, pk_t, pk_f, nilA_p, nilA_i, fa_p, fd_a, ex_t, iadd_i, isub_i, imul_i, ieq_i, ine_i, ilt_i, ile_i, igt_i, ige_i, seq_s, sne_s, slt_s, lens_s, lenx_0, lenx_s, not_b, cv_i, pe_00, pe_0p, pe_p0, eqB_e, eqB_n, List.getElem?_cons_zero, List.getElem?_cons_succ, Nat.zero_add, Bool.not_true, Bool.not_false, decide_true, decide_false, Int.reduceBEq, Int.reduceBNe, Int.reduceLT, Int.reduceLE, Int.reduceGT, Int.reduceGE, Int.reduceNeg, BEq.rfl, bne_self_eq_false, ge_iff_le, gt_iff_lt]) rows 0 0 H1 ⟨R, false, 0, [], []⟩ L1 n2 f1 ⟨Nat.zero_le _, [], rfl, .inl ⟨rfl, rfl⟩⟩ rfl (by simp)
  refine ⟨H', c_outriderlaw5_StoreRoom ?_⟩
  unfold s_outriderlaw5_StoreRoom
  simp only [hA, hx1, decide_eq_false h1, decide_eq_false h2, decide_eq_false h3, n1, JN_0, JN_1, JN_2, JN_3, JN_4, JN_5, JN_6, JN_7, JN_8, JN_9, JN_10, JN_11, JN_12, JN_13, JN_14, JN_15, JN_16, JN_17, JN_18, JN_19, JN_20, JN_21, JN_22, JN_23, JN_24, B1_s, B2_s, BN_s, CD_t, CD_f, GO_tt, GO_ft, GO_tf, GO_ff, GO_ut, GO_uf, GD2_tt, GD2_ft, GD2_tf, GD2_ff, pk_t, pk_f, nilA_p, nilA_i, fa_p, fd_a, ex_t, iadd_i, isub_i, imul_i, ieq_i, ine_i, ilt_i, ile_i, igt_i, ige_i, seq_s, sne_s, slt_s, lens_s, lenx_0, lenx_s, not_b, cv_i, pe_00, pe_0p, pe_p0, eqB_e, eqB_n, List.getElem?_cons_zero, List.getElem?_cons_succ, Nat.zero_add, Bool.not_true, Bool.not_false, decide_true, decide_false, Int.reduceBEq, Int.reduceBNe, Int.reduceLT, Int.reduceLE, Int.reduceGT, Int.reduceGE, Int.reduceNeg, BEq.rfl, bne_self_eq_false, ge_iff_le, gt_iff_lt]
  exact hl
theorem room_top {H : Hp} {as' : List AV} {ds : List D} (h : ArgsIs H [.int .i64, .slice 1 (.slice 1 (.int .u8))] as' ds) (hT : hasT H begin0) (hn : 4 ≤ H.next) :
    ∃ H', cK (.func (.func 4) [] []) as' H = some (.bool true, H') := by
  cases h with
  | cons h0 h =>
  cases h with
  | cons h1 h =>
  cases h
  obtain ⟨z, rfl, _⟩ := isA_int h0
  obtain ⟨l, hl, hr⟩ := rows_is (isA_row h1)
  exact room_law hl (fun v hv => by
    obtain ⟨d', hd⟩ := hr v hv
    exact is_bytes hd) hT hn
end Go.Proofs.YtnabkcdchklnpaaDoor.StC
