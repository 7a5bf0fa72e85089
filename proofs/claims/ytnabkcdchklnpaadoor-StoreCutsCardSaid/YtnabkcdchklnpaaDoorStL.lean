/- The laws of chapter 5 on one or two files, over the symbolic heap. Conditions: as each states them. -/
import Derived.Test.YtnabkcdchklnpaaDoorStD
namespace Go.Proofs.YtnabkcdchklnpaaDoor.StC
open Go Am Am.K StEnv StK
set_option linter.unusedVariables false
set_option linter.unusedSimpArgs false
set_option maxRecDepth 10000

theorem okf : okName [102] = true := by kernel_rfl
theorem find_f (n : List Nat) (b : List Nat) (s : Nat) (fs : List Fl) : (⟨n, b, s⟩ :: fs : List Fl).find? (fun f => f.nm == n) = some ⟨n, b, s⟩ := by simp
section
variable {r fu : Nat} {kl : List Int} {n : List Nat} {a b : List Nat} {s : Nat}
theorem ofE_none (h : okName n = true) : ofE ⟨r, false, fu, kl, []⟩ n = 4 := by unfold ofE look; simp [h]
theorem ofE_one (h : okName n = true) : ofE ⟨r, false, fu, kl, [⟨n, b, s⟩]⟩ n = 0 := by unfold ofE look; simp [h]
theorem look_one : look ⟨r, false, fu, kl, [⟨n, b, s⟩]⟩ n = some ⟨n, b, s⟩ := by unfold look; simp
theorem sum_one (f : Fl) : sumB [f] = f.b.length := by unfold sumB; simp
theorem app_new (h : okName n = true) (hb : b.length ≤ r) : appM ⟨r, false, 0, kl, []⟩ n b = (0, ⟨r, false, 0, kl, [⟨n, b, 0⟩]⟩) := by
  have hs : sumB ([] : List Fl) = 0 := rfl
  unfold appM
  rw [ofE_none h, if_neg (by decide), if_neg (by simp only [hs, List.length_nil]; omega), if_neg (by simp [burnB])]
  simp [burnM, look]
theorem app_old (h : okName n = true) (hb : a.length + b.length ≤ r) : appM ⟨r, false, 0, kl, [⟨n, a, s⟩]⟩ n b = (0, ⟨r, false, 0, kl, [⟨n, a ++ b, s⟩]⟩) := by
  unfold appM
  rw [ofE_one h, if_neg (by decide), if_neg (by rw [look_one]; simp only [sum_one, Option.isNone_some, Bool.false_eq_true, false_and, or_false]; omega), if_neg (by simp [burnB]), look_one]
  simp [burnM, setF]
theorem sync_one (h : okName n = true) : syncM ⟨r, false, 0, kl, [⟨n, a, s⟩]⟩ n = (0, ⟨r, false, 0, kl, [⟨n, a, a.length⟩]⟩) := by
  unfold syncM
  rw [ofE_one h, if_neg (by decide), if_neg (by simp [burnB]), look_one]
  simp [burnM, setF]
theorem crash_one (k : List Int) : crashM ⟨r, false, fu, kl, [⟨n, a, s⟩]⟩ k = ⟨r, true, 0, kl, [if a.length = s then ⟨n, a, s⟩ else ⟨n, a.take (s + min (kn k).toNat (a.length - s)), s + min (kn k).toNat (a.length - s)⟩]⟩ := by
  unfold crashM
  rw [if_neg (by simp)]
  have : names ⟨r, false, fu, kl, [⟨n, a, s⟩]⟩ = [n] := rfl
  rw [this]
  unfold crashF
  rw [find_f]
  simp only
  split
  · simp [crashF]
  · simp [crashF, setF, cutTo]
theorem read_one (h : okName n = true) : readM ⟨r, false, fu, kl, [⟨n, a, s⟩]⟩ n = a := by
  unfold readM
  rw [ofE_one h, if_pos rfl, look_one]
theorem sure_one : sureM ⟨r, false, fu, kl, [⟨n, a, s⟩]⟩ n = s := by
  unfold sureM
  rw [look_one]
end
/-- rows that stand outside a store that begins -/
theorem new_away {H H' : Hp} {p : Nat} {L : Lay} {x : AV} {es : Nat} {l : List AV} (hx : Rw H es x l) (hf : ∀ j ∈ foot p L, H.next ≤ j) : ∀ j ∈ rid x, j ∉ foot p L := fun j hj q => by
  have := hx.lt j hj; have := hf j q; omega
theorem stay_away {H H' : Hp} {p : Nat} {L L' : Lay} {x : AV} {es : Nat} {l : List AV} (hx : Rw H es x l) (hd : ∀ j ∈ rid x, j ∉ foot p L) (hg : Go' p H L H' L') : Rw H' es x l ∧ ∀ j ∈ rid x, j ∉ foot p L' :=
  ⟨hx.out hg.1 hd, fun j hj q => (hg.2 j q).elim (hd j hj) fun q => by have := hx.lt j hj; omega⟩

theorem sure_law {H : Hp} {x y : AV} {a b : List Nat} {keep : Int} (hx : Rw H 1 x (bs a)) (hy : Rw H 1 y (bs b)) (ha : ∀ c ∈ a, c < 256) (hb : ∀ c ∈ b, c < 256) (hT : hasT H begin0) (hn : 4 ≤ H.next) :
    ∃ H', cK (.func (.func 3) [] []) [x, y, .int .i64 keep] H = some (.bool true, H') := by
  have hA := awake_c an hT hn
  have hx1 := hx.len1
  have hy1 := hy.len1
  rw [bs_len] at hx1 hy1
  by_cases h1 : (500 : Int) < a.length
  · refine ⟨H, c_outriderlaw5_StoreSure ?_⟩
    unfold s_outriderlaw5_StoreSure
    simp only [hA, hx1, decide_eq_true h1, JN_0, JN_1, JN_2, JN_3, JN_4, JN_5, JN_6, JN_7, JN_8, JN_9, JN_10, JN_11, JN_12, JN_13, JN_14, JN_15, JN_16, JN_17, JN_18, JN_19, JN_20, JN_21, JN_22, JN_23, JN_24, B1_s, B2_s, BN_s, CD_t, CD_f, GO_tt, GO_ft, GO_tf, GO_ff, GO_ut, GO_uf, GD2_tt, GD2_ft, GD2_tf, GD2_ff, pk_t, pk_f, nilA_p, nilA_i, fa_p, fd_a, ex_t, iadd_i, isub_i, imul_i, ieq_i, ine_i, ilt_i, ile_i, igt_i, ige_i, seq_s, sne_s, slt_s, lens_s, lenx_0, lenx_s, not_b, cv_i, pe_00, pe_0p, pe_p0, eqB_e, eqB_n, List.getElem?_cons_zero, List.getElem?_cons_succ, Nat.zero_add, Bool.not_true, Bool.not_false, decide_true, decide_false, Int.reduceBEq, Int.reduceBNe, Int.reduceLT, Int.reduceLE, Int.reduceGT, Int.reduceGE, Int.reduceNeg, BEq.rfl, bne_self_eq_false, ge_iff_le, gt_iff_lt]
  by_cases h2 : (500 : Int) < b.length
  · refine ⟨H, c_outriderlaw5_StoreSure ?_⟩
    unfold s_outriderlaw5_StoreSure
    simp only [hA, hx1, hy1, decide_eq_false h1, decide_eq_true h2, JN_0, JN_1, JN_2, JN_3, JN_4, JN_5, JN_6, JN_7, JN_8, JN_9, JN_10, JN_11, JN_12, JN_13, JN_14, JN_15, JN_16, JN_17, JN_18, JN_19, JN_20, JN_21, JN_22, JN_23, JN_24, B1_s, B2_s, BN_s, CD_t, CD_f, GO_tt, GO_ft, GO_tf, GO_ff, GO_ut, GO_uf, GD2_tt, GD2_ft, GD2_tf, GD2_ff, pk_t, pk_f, nilA_p, nilA_i, fa_p, fd_a, ex_t, iadd_i, isub_i, imul_i, ieq_i, ine_i, ilt_i, ile_i, igt_i, ige_i, seq_s, sne_s, slt_s, lens_s, lenx_0, lenx_s, not_b, cv_i, pe_00, pe_0p, pe_p0, eqB_e, eqB_n, List.getElem?_cons_zero, List.getElem?_cons_succ, Nat.zero_add, Bool.not_true, Bool.not_false, decide_true, decide_false, Int.reduceBEq, Int.reduceBNe, Int.reduceLT, Int.reduceLE, Int.reduceGT, Int.reduceGE, Int.reduceNeg, BEq.rfl, bne_self_eq_false, ge_iff_le, gt_iff_lt]
  obtain ⟨H1, p, L1, n1, n2, n3, n4⟩ := (new_c H 2000).2 2000 rfl (by omega) (by omega)
  have hxa := new_away (H' := H1) hx n4
  have hya := new_away (H' := H1) hy n4
  have hx' := hx.out n3 fun j _ q => by cases q
  have hy' := hy.out n3 fun j _ q => by cases q
  obtain ⟨H2, L2, p1, p2, p3⟩ := app_c n2 [102] hx' ha hxa
  rw [app_new okf (by omega)] at p1 p2
  obtain ⟨hx2, hxa2⟩ := stay_away hx' hxa p3
  obtain ⟨hy2, hya2⟩ := stay_away hy' hya p3
  obtain ⟨H3, L3, q1, q2, q3⟩ := sync_c p2 [102]
  rw [sync_one okf] at q1 q2
  obtain ⟨hx3, hxa3⟩ := stay_away hx2 hxa2 q3
  obtain ⟨hy3, hya3⟩ := stay_away hy2 hya2 q3
  obtain ⟨H4, L4, r1, r2, r3⟩ := app_c q2 [102] hy3 hb hya3
  rw [app_old okf (by omega)] at r1 r2
  obtain ⟨hx4, hxa4⟩ := stay_away hx3 hxa3 r3
  obtain ⟨hy4, hya4⟩ := stay_away hy3 hya3 r3
  have hfl : fl [(.int .i64 0)] [(0, 1, AV.int .i64 keep)] = some [.int .i64 keep] := rfl
  obtain ⟨H5, s1, s2, s3, s4⟩ := newCells_ok H4 [.int .i64 keep] 3 0 (by simp)
  have r5 := r2.out s3 fun j _ q => by cases q
  have hlt := r2.lt
  have hk : Rw H5 1 (.slice H4.next 0 1 1 true 1) (ints [keep]) := .mk s2.ro rfl (Nat.le_refl _) rfl
  obtain ⟨H6, L6, t1, t2, t3⟩ := crash_c r5 hk fun j hj ⟨z, hz, q⟩ => by
    simp only [rid_s (show (true && Nat.beq 1 0) = false from rfl), List.mem_singleton] at hj
    have := hlt j (St.mem_file hz q); omega
  rw [crash_one] at t2
  have hg4 : Go' p H4 L4 H5 L4 := ⟨s3.mono (fun j hj => by cases hj), fun j hj => .inl hj⟩
  obtain ⟨hx6, hxa6⟩ := stay_away hx4 hxa4 (hg4.trans t3)
  obtain ⟨hy6, hya6⟩ := stay_away hy4 hya4 (hg4.trans t3)
  obtain ⟨H7, u1, u2, u3⟩ := on_c t2
  obtain ⟨hx7, hxa7⟩ := stay_away hx6 hxa6 u3
  obtain ⟨hy7, hya7⟩ := stay_away hy6 hya6 u3
  -- the file behind the fall
  have hfile : (if (a ++ b).length = a.length then (⟨[102], a ++ b, a.length⟩ : Fl) else ⟨[102], (a ++ b).take (a.length + min (kn [keep]).toNat ((a ++ b).length - a.length)), a.length + min (kn [keep]).toNat ((a ++ b).length - a.length)⟩) =
      ⟨[102], a ++ b.take (min keep.toNat b.length), a.length + min keep.toNat b.length⟩ := by
    split
    · rename_i h
      rw [List.length_append] at h
      have : b = [] := List.length_eq_zero_iff.1 (by omega)
      subst this; simp
    · simp only [kn, List.length_append, Nat.add_sub_cancel_left, List.take_append, Nat.add_sub_cancel_left]
      rw [List.take_of_length_le (by omega)]
  simp only at u2
  rw [hfile] at u2
  obtain ⟨z, H8, v1, v2, v3, v4⟩ := read_c u2 [102]
  rw [ofE_one okf] at v1
  rw [read_one okf] at v2
  have u8 := u2.out v3 fun j _ q => by cases q
  have hx8 := hx7.out v3 fun j _ q => by cases q
  have hy8 := hy7.out v3 fun j _ q => by cases q
  have hsure := sure_c u8 [102]
  rw [sure_one] at hsure
  have hz1 := v2.len1
  rw [bs_len] at hz1
  have hzb := b2s_ok v2 (fun c hc => (List.mem_append.1 hc).elim (ha c) fun q => hb c (List.mem_of_mem_take q))
  have hxb := b2s_ok hx8 ha
  have hlb : (bs b).length = b.length * 1 := by rw [bs_len, Nat.mul_one]
  obtain ⟨y', w1, w2, w3⟩ := sll_rw hy8 hlb (by omega) (a := 0) (b := min keep.toNat b.length) (lo := none) (hi := some (.int .i64 ((min keep.toNat b.length : Nat) : Int))) (Nat.zero_le _) (by omega) (Bd.no 0) (Bd.yes _ _ _)
  rw [Nat.zero_mul, List.drop_zero, Nat.sub_zero, Nat.mul_one, ← bs_take] at w2
  have hyb := b2s_ok w2 fun c hc => hb c (List.mem_of_mem_take hc)
  have hcat : scat (.str a) (.str (b.take (min keep.toNat b.length))) = some (.str (a ++ b.take (min keep.toNat b.length))) := scat_s (by rw [List.length_take]; omega)
  refine ⟨H8, c_outriderlaw5_StoreSure ?_⟩
  unfold s_outriderlaw5_StoreSure
  have hlen : (a ++ b.take (min keep.toNat b.length)).length = a.length + min keep.toNat b.length := by rw [List.length_append, List.length_take]; omega
  rw [hlen] at hz1
  have hsame : same (.int .i64 ((a.length + min keep.toNat b.length : Nat) : Int)) (.int .i64 ((a.length + min keep.toNat b.length : Nat) : Int)) = true := by simp [same, sameS]
  have d1 := decide_eq_false h1
  have d2 := decide_eq_false h2
  by_cases k1 : keep < 0
  · have e0 : ((min keep.toNat b.length : Nat) : Int) = 0 := by omega
    rw [e0] at w1
    have d4 : decide (((b.length : Nat) : Int) < 0) = false := decide_eq_false (by omega)
    simp only [hA, hx1, hy1, d1, d2, n1, p1, q1, r1, hfl, s1, t1, u1, v1, decide_eq_true k1, d4, hzb, hxb, w1, hyb, hcat, hsure, hz1, SM_t hsame, JN_0, JN_1, JN_2, JN_3, JN_4, JN_5, JN_6, JN_7, JN_8, JN_9, JN_10, JN_11, JN_12, JN_13, JN_14, JN_15, JN_16, JN_17, JN_18, JN_19, JN_20, JN_21, JN_22, JN_23, JN_24, B1_s, B2_s, BN_s, CD_t, CD_f, GO_tt, GO_ft, GO_tf, GO_ff, GO_ut, GO_uf, GD2_tt, GD2_ft, GD2_tf, GD2_ff, pk_t, pk_f, nilA_p, nilA_i, fa_p, fd_a, ex_t, iadd_i, isub_i, imul_i, ieq_i, ine_i, ilt_i, ile_i, igt_i, ige_i, seq_s, sne_s, slt_s, lens_s, lenx_0, lenx_s, not_b, cv_i, pe_00, pe_0p, pe_p0, eqB_e, eqB_n, List.getElem?_cons_zero, List.getElem?_cons_succ, Nat.zero_add, Bool.not_true, Bool.not_false, decide_true, decide_false, Int.reduceBEq, Int.reduceBNe, Int.reduceLT, Int.reduceLE, Int.reduceGT, Int.reduceGE, Int.reduceNeg, BEq.rfl, bne_self_eq_false, ge_iff_le, gt_iff_lt]
  · by_cases k2 : (b.length : Int) < keep
    · have e0 : ((min keep.toNat b.length : Nat) : Int) = (b.length : Int) := by omega
      rw [e0] at w1
      simp only [hA, hx1, hy1, d1, d2, n1, p1, q1, r1, hfl, s1, t1, u1, v1, decide_eq_false k1, decide_eq_true k2, hzb, hxb, w1, hyb, hcat, hsure, hz1, SM_t hsame, JN_0, JN_1, JN_2, JN_3, JN_4, JN_5, JN_6, JN_7, JN_8, JN_9, JN_10, JN_11, JN_12, JN_13, JN_14, JN_15, JN_16, JN_17, JN_18, JN_19, JN_20, JN_21, JN_22, JN_23, JN_24, B1_s, B2_s, BN_s, CD_t, CD_f, GO_tt, GO_ft, GO_tf, GO_ff, GO_ut, GO_uf, GD2_tt, GD2_ft, GD2_tf, GD2_ff, pk_t, pk_f, nilA_p, nilA_i, fa_p, fd_a, ex_t, iadd_i, isub_i, imul_i, ieq_i, ine_i, ilt_i, ile_i, igt_i, ige_i, seq_s, sne_s, slt_s, lens_s, lenx_0, lenx_s, not_b, cv_i, pe_00, pe_0p, pe_p0, eqB_e, eqB_n, List.getElem?_cons_zero, List.getElem?_cons_succ, Nat.zero_add, Bool.not_true, Bool.not_false, decide_true, decide_false, Int.reduceBEq, Int.reduceBNe, Int.reduceLT, Int.reduceLE, Int.reduceGT, Int.reduceGE, Int.reduceNeg, BEq.rfl, bne_self_eq_false, ge_iff_le, gt_iff_lt]
    · have e0 : ((min keep.toNat b.length : Nat) : Int) = keep := by omega
      rw [e0] at w1
      simp only [hA, hx1, hy1, d1, d2, n1, p1, q1, r1, hfl, s1, t1, u1, v1, decide_eq_false k1, decide_eq_false k2, hzb, hxb, w1, hyb, hcat, hsure, hz1, SM_t hsame, JN_0, JN_1, JN_2, JN_3, JN_4, JN_5, JN_6, JN_7, JN_8, JN_9, JN_10, JN_11, JN_12, JN_13, JN_14, JN_15, JN_16, JN_17, JN_18, JN_19, JN_20, JN_21, JN_22, JN_23, JN_24, B1_s, B2_s, BN_s, CD_t, CD_f, GO_tt, GO_ft, GO_tf, GO_ff, GO_ut, GO_uf, GD2_tt, GD2_ft, GD2_tf, GD2_ff, pk_t, pk_f, nilA_p, nilA_i, fa_p, fd_a, ex_t, iadd_i, isub_i, imul_i, ieq_i, ine_i, ilt_i, ile_i, igt_i, ige_i, seq_s, sne_s, slt_s, lens_s, lenx_0, lenx_s, not_b, cv_i, pe_00, pe_0p, pe_p0, eqB_e, eqB_n, List.getElem?_cons_zero, List.getElem?_cons_succ, Nat.zero_add, Bool.not_true, Bool.not_false, decide_true, decide_false, Int.reduceBEq, Int.reduceBNe, Int.reduceLT, Int.reduceLE, Int.reduceGT, Int.reduceGE, Int.reduceNeg, BEq.rfl, bne_self_eq_false, ge_iff_le, gt_iff_lt]
theorem sure_top {H : Hp} {as' : List AV} {ds : List D} (h : ArgsIs H [.slice 1 (.int .u8), .slice 1 (.int .u8), .int .i64] as' ds) (hT : hasT H begin0) (hn : 4 ≤ H.next) :
    ∃ H', cK (.func (.func 3) [] []) as' H = some (.bool true, H') := by
  cases h with
  | cons h0 h =>
  cases h with
  | cons h1 h =>
  cases h with
  | cons h2 h =>
  cases h
  obtain ⟨a, ha, hab⟩ := isA_bytes h0
  obtain ⟨b, hb, hbb⟩ := isA_bytes h1
  obtain ⟨z, rfl, _⟩ := isA_int h2
  exact sure_law ha hb hab hbb hT hn
end Go.Proofs.YtnabkcdchklnpaaDoor.StC
