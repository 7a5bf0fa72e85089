/- frame's numbers, slices.Grow, Concat, Clone of bytes: contracts over the symbolic heap. Conditions: as stated. -/
import Derived.Test.YtdacjomfipkpaaaDoorSgC
namespace Go.Proofs.YtdacjomfipkpaaaDoor.SgK
open Go Am Am.K SgEnv
set_option linter.unusedVariables false
set_option linter.unusedSimpArgs false
/-- bytes of a number, the low ones first -/
def le : Nat → Nat → List Nat
  | 0, _ => []
  | n + 1, v => v % 256 :: le n (v / 256)
/-- and back -/
def ud : List Nat → Nat
  | [] => 0
  | v :: r => v + 256 * ud r
theorem le_len : ∀ n v, (le n v).length = n
  | 0, v => rfl
  | n + 1, v => by simp [le, le_len n]
theorem le_byte : ∀ n v, ∀ b ∈ le n v, b < 256
  | 0, v, b, h => by cases h
  | n + 1, v, b, h => by
    rcases List.mem_cons.1 h with rfl | h
    · exact Nat.mod_lt _ (by decide)
    · exact le_byte n _ b h
theorem ud_le : ∀ n v, ud (le n v) = v % 256 ^ n
  | 0, v => by simp [le, ud, Nat.mod_one]
  | n + 1, v => by
    rw [le, ud, ud_le n, Nat.pow_succ, Nat.mul_comm (256 ^ n) 256, Nat.mod_mul]
theorem ud_lt : ∀ l : List Nat, (∀ b ∈ l, b < 256) → ud l < 256 ^ l.length
  | [], _ => by simp [ud]
  | v :: r, h => by
    have h1 := ud_lt r fun b hb => h b (.tail _ hb)
    have h2 := h v (.head _)
    rw [ud, List.length_cons, Nat.pow_succ]
    omega
theorem fl1 (v : AV) (hv : cellsV v = some [v]) : fl [.int .u8 0] [(0, 1, v)] = some [v] := by
  simp [fl, hv]
theorem rep_z : ∀ n, rep n [.int .u8 0] = List.replicate n (AV.int .u8 0)
  | 0 => rfl
  | n + 1 => by
    have ih := rep_z n
    unfold rep at ih ⊢
    rw [List.replicate_succ, List.flatten_cons, ih, List.replicate_succ]
    rfl
theorem apn_z (n : Nat) (H : Hp) (hn : ((n : Nat) : Int) < 16777216) : apn 1 [.int .u8 0] true (.int .i64 (n : Nat)) H = some (n, List.replicate n (AV.int .u8 0)) := by
  have hc : (0 : Int) ≤ (n : Nat) ∧ ((n : Nat) : Int) < 16777216 := ⟨Int.natCast_nonneg n, hn⟩
  simp only [apn]
  rw [if_pos hc, Int.toNat_natCast, rep_z]
theorem app_eq {es n : Nat} {z : List AV} {zeros : Bool} {x : AV} {H : Hp} {new : List AV} (el : Nat) (s : AV) (h : apn es z zeros x H = some (n, new)) : app' el es z zeros s x H = ap2 el es n new s H := by
  unfold app'
  rw [h]
theorem appz_ok {H : Hp} {el n : Nat} {s : AV} {l : List AV} (h : Ow H el 1 s l) (hlen : l.length + n ≤ 16777215) :
    ∃ s' H', app' el 1 [.int .u8 0] true s (.int .i64 (n : Nat)) H = some (s', H') ∧ Ow H' el 1 s' (l ++ List.replicate n (.int .u8 0)) ∧ Out (rid s) H H' ∧ (∀ j ∈ rid s', j ∈ rid s ∨ H.next ≤ j) := by
  have hl1 : (List.replicate n (AV.int .u8 0)).length = n * 1 := by rw [List.length_replicate, Nat.mul_one]
  have hl2 : l.length + (List.replicate n (AV.int .u8 0)).length ≤ 16777216 := by rw [List.length_replicate]; omega
  have ho : ∀ v ∈ List.replicate n (AV.int .u8 0), oneC v = true := by
    intro v hv
    rw [List.eq_of_mem_replicate hv]
    rfl
  obtain ⟨s', H', h1, h2⟩ := ap2_ok (n := n) h hl1 ho (by omega) hl2
  exact ⟨s', H', (app_eq el s (apn_z n H (by omega))).trans h1, h2⟩
theorem number_loop {v n : Nat} (hv : v < 18446744073709551616) (hn : n ≤ 8) {k : K.Fn 1} : ∀ (r i : Nat) (s : AV) (l : List Nat) (H : Hp), i + r = n → Ow H 5 1 s (bs l) → (∀ j ∈ rid s, j < H.next) → l.length + r ≤ 1000000 →
    ∃ s' H', l_frame_number JN GO cK k s (.int .u64 v) (.int .i64 n) (.int .i64 i) H = k s' H' ∧ Ow H' 5 1 s' (bs (l ++ le r (v / 256 ^ i))) ∧ Out (rid s) H H' ∧ (∀ j ∈ rid s', j ∈ rid s ∨ H.next ≤ j)
  | 0, i, s, l, H, hi, hs, hlt, hl => by
    refine ⟨s, H, ?_, ?_, Out.refl _ _, fun j hj => .inl hj⟩
    · rw [ql_frame_number]
      have d : decide (((i : Nat) : Int) < ((n : Nat) : Int)) = false := decide_eq_false (by omega)
      simp only [d, JN_0, JN_1, JN_2, JN_3, JN_4, JN_5, JN_6, JN_7, JN_8, JN_9, JN_10, JN_11, JN_12, JN_13, JN_14, JN_15, JN_16, JN_17, JN_18, JN_19, JN_20, JN_21, JN_22, JN_23, JN_24, B1_s, B2_s, BN_s, CD_t, CD_f, GO_tt, GO_ft, GO_tf, GO_ff, GO_ut, GO_uf, GD2_tt, GD2_ft, GD2_tf, GD2_ff, pk_t, pk_f, nilA_p, nilA_i, fa_p, fd_a, ex_t, iadd_i, isub_i, imul_i, ieq_i, ine_i, ilt_i, ile_i, igt_i, ige_i, seq_s, sne_s, slt_s, lens_s, lenx_0, lenx_s, not_b, bb_e, bb_n, cv_i, pe_00, pe_0p, pe_p0, eqB_e, eqB_n, List.getElem?_cons_zero, List.getElem?_cons_succ, Nat.zero_add, Bool.not_true, Bool.not_false, decide_true, decide_false, Int.reduceBEq, Int.reduceBNe, Int.reduceLT, Int.reduceLE, Int.reduceGT, Int.reduceGE, Int.reduceNeg, BEq.rfl, bne_self_eq_false, ge_iff_le, gt_iff_lt]
    · rw [le, List.append_nil]; exact hs
  | r + 1, i, s, l, H, hi, hs, hlt, hl => by
    have d : decide (((i : Nat) : Int) < ((n : Nat) : Int)) = true := decide_eq_true (by omega)
    have m1 : imul (.int .i64 8) (.int .i64 (i : Nat)) = some (.int .i64 ((8 * i : Nat) : Int)) := by
      rw [imul_i, wrap_i64 (by omega) (by omega)]; rfl
    have m2 : ishr (.int .u64 (v : Nat)) (.int .i64 ((8 * i : Nat) : Int)) = some (.int .u64 ((v / 256 ^ i : Nat) : Int)) := by
      rw [ishr_n, show min (8 * i) IntKind.u64.bits = 8 * i from Nat.min_eq_left (by show 8 * i ≤ 64; omega), Nat.pow_mul]
    have m3 : IntKind.wrap .u8 ((v / 256 ^ i : Nat) : Int) = ((v / 256 ^ i % 256 : Nat) : Int) := wrap_mod rfl _
    have hf := fl1 (.int .u8 ((v / 256 ^ i % 256 : Nat) : Int)) rfl
    obtain ⟨H1, n1, n2, n3, n4⟩ := newCells_ok H [.int .u8 ((v / 256 ^ i % 256 : Nat) : Int)] 5 0 (by simp)
    have hs1 := hs.out n3 fun j hj q => by cases q
    have hx : Rw H1 1 (.slice H.next 0 1 1 true 1) (bs [v / 256 ^ i % 256]) := .mk n2.ro rfl (Nat.le_refl _) rfl
    obtain ⟨s', H', a1, a2, a3, a4⟩ := append_ok (z := [.int .u8 0]) hs1 hx (bs_one _) (by omega) (by rw [bs_len, bs_len]; simp; omega)
    have hlt' : ∀ j ∈ rid s', j < H'.next := a2.rw.lt
    rw [← bs_app] at a2
    have e3 : iadd (.int .i64 (i : Nat)) (.int .i64 1) = some (.int .i64 ((i + 1 : Nat) : Int)) := add_n (b := 1) (by omega)
    obtain ⟨s2, H2, b1, b2, b3, b4⟩ := number_loop hv hn (k := k) r (i + 1) s' (l ++ [v / 256 ^ i % 256]) H' (by omega) a2 hlt' (by simp; omega)
    refine ⟨s2, H2, ?_, ?_, ?_, ?_⟩
    · rw [ql_frame_number]
      rw [iadd_i] at e3
      simp only [d, m1, m2, m3, hf, n1, a1, e3, JN_0, JN_1, JN_2, JN_3, JN_4, JN_5, JN_6, JN_7, JN_8, JN_9, JN_10, JN_11, JN_12, JN_13, JN_14, JN_15, JN_16, JN_17, JN_18, JN_19, JN_20, JN_21, JN_22, JN_23, JN_24, B1_s, B2_s, BN_s, CD_t, CD_f, GO_tt, GO_ft, GO_tf, GO_ff, GO_ut, GO_uf, GD2_tt, GD2_ft, GD2_tf, GD2_ff, pk_t, pk_f, nilA_p, nilA_i, fa_p, fd_a, ex_t, iadd_i, isub_i, imul_i, ieq_i, ine_i, ilt_i, ile_i, igt_i, ige_i, seq_s, sne_s, slt_s, lens_s, lenx_0, lenx_s, not_b, bb_e, bb_n, cv_i, pe_00, pe_0p, pe_p0, eqB_e, eqB_n, List.getElem?_cons_zero, List.getElem?_cons_succ, Nat.zero_add, Bool.not_true, Bool.not_false, decide_true, decide_false, Int.reduceBEq, Int.reduceBNe, Int.reduceLT, Int.reduceLE, Int.reduceGT, Int.reduceGE, Int.reduceNeg, BEq.rfl, bne_self_eq_false, ge_iff_le, gt_iff_lt]
      exact b1
    · rw [le]
      rw [List.append_assoc] at b2
      rw [Nat.div_div_eq_div_mul, ← Nat.pow_succ]
      exact b2
    · have h1 : Out (rid s) H H' := (n3.mono fun j hj => by cases hj).trans a3
      exact h1.then b3 fun j hj => (a4 j hj).imp id fun q => by omega
    · intro j hj
      rcases b4 j hj with q | q
      · rcases a4 j q with q | q
        · exact .inl q
        · exact .inr (by omega)
      · have := a3.1
        exact .inr (by omega)
theorem number_c {v n : Nat} (hv : v < 18446744073709551616) (hn : n ≤ 8) {s : AV} {l : List Nat} {H : Hp} (hs : Ow H 5 1 s (bs l)) (hl : l.length + n ≤ 1000000) :
    ∃ s' H', cK (.func (.func 32) [] []) [s, .int .u64 v, .int .i64 n] H = some (s', H') ∧ Ow H' 5 1 s' (bs (l ++ le n v)) ∧ Out (rid s) H H' ∧ (∀ j ∈ rid s', j ∈ rid s ∨ H.next ≤ j) := by
  obtain ⟨s', H', h1, h2, h3, h4⟩ := number_loop hv hn (k := fun x h => some (x, h)) n 0 s l H (by omega) hs hs.rw.lt hl
  refine ⟨s', H', c_frame_number ?_, by simpa using h2, h3, h4⟩
  unfold s_frame_number
  rw [show (((0 : Nat) : Int)) = 0 from rfl] at h1
  simp only [JN_0, JN_1, JN_2, JN_3, JN_4, JN_5, JN_6, JN_7, JN_8, JN_9, JN_10, JN_11, JN_12, JN_13, JN_14, JN_15, JN_16, JN_17, JN_18, JN_19, JN_20, JN_21, JN_22, JN_23, JN_24, B1_s, B2_s, BN_s, CD_t, CD_f, GO_tt, GO_ft, GO_tf, GO_ff, GO_ut, GO_uf, GD2_tt, GD2_ft, GD2_tf, GD2_ff, pk_t, pk_f, nilA_p, nilA_i, fa_p, fd_a, ex_t, iadd_i, isub_i, imul_i, ieq_i, ine_i, ilt_i, ile_i, igt_i, ige_i, seq_s, sne_s, slt_s, lens_s, lenx_0, lenx_s, not_b, bb_e, bb_n, cv_i, pe_00, pe_0p, pe_p0, eqB_e, eqB_n, List.getElem?_cons_zero, List.getElem?_cons_succ, Nat.zero_add, Bool.not_true, Bool.not_false, decide_true, decide_false, Int.reduceBEq, Int.reduceBNe, Int.reduceLT, Int.reduceLE, Int.reduceGT, Int.reduceGE, Int.reduceNeg, BEq.rfl, bne_self_eq_false, ge_iff_le, gt_iff_lt]
  exact h1
theorem read_loop {k : K.Fn 1} {H : Hp} {x : AV} {l : List Nat} (hx : Rw H 1 x (bs l)) (hb : ∀ b ∈ l, b < 256) (hl : l.length ≤ 8) : ∀ (r : List Nat) (i a : Nat), l.drop i = r → i ≤ l.length → a < 256 ^ i →
    l_frame_read JN GO cK k (.int .u64 (a : Nat)) x (.int .i64 (l.length : Nat)) (.int .i64 (i : Nat)) H = k (.int .u64 ((a + 256 ^ i * ud r : Nat) : Int)) H
  | [], i, a, hr, hi, ha => by
    rw [ql_frame_read]
    have : l.length ≤ i := by simpa using hr
    have d : decide (((i : Nat) : Int) < ((l.length : Nat) : Int)) = false := decide_eq_false (by omega)
    simp only [d, ud, Nat.mul_zero, Nat.add_zero, JN_0, JN_1, JN_2, JN_3, JN_4, JN_5, JN_6, JN_7, JN_8, JN_9, JN_10, JN_11, JN_12, JN_13, JN_14, JN_15, JN_16, JN_17, JN_18, JN_19, JN_20, JN_21, JN_22, JN_23, JN_24, B1_s, B2_s, BN_s, CD_t, CD_f, GO_tt, GO_ft, GO_tf, GO_ff, GO_ut, GO_uf, GD2_tt, GD2_ft, GD2_tf, GD2_ff, pk_t, pk_f, nilA_p, nilA_i, fa_p, fd_a, ex_t, iadd_i, isub_i, imul_i, ieq_i, ine_i, ilt_i, ile_i, igt_i, ige_i, seq_s, sne_s, slt_s, lens_s, lenx_0, lenx_s, not_b, bb_e, bb_n, cv_i, pe_00, pe_0p, pe_p0, eqB_e, eqB_n, List.getElem?_cons_zero, List.getElem?_cons_succ, Nat.zero_add, Bool.not_true, Bool.not_false, decide_true, decide_false, Int.reduceBEq, Int.reduceBNe, Int.reduceLT, Int.reduceLE, Int.reduceGT, Int.reduceGE, Int.reduceNeg, BEq.rfl, bne_self_eq_false, ge_iff_le, gt_iff_lt]
  | v :: r, i, a, hr, hi, ha => by
    have hi : i < l.length := by
      rcases Nat.lt_or_ge i l.length with h | h
      · exact h
      · rw [List.drop_eq_nil_of_le h] at hr; cases hr
    have hv : l[i]? = some v := by
      have := congrArg (fun z => z[0]?) hr
      simpa using this
    have hr' : l.drop (i + 1) = r := by
      rw [← List.drop_drop, hr]; rfl
    have hv' : (bs l)[i]? = some (.int .u8 (v : Int)) := by simp [bs, hv]
    have hv2 := hb v (List.mem_of_getElem? hv)
    obtain ⟨q, q1, q2⟩ := hx.ia1 hv' .i64
    have d : decide (((i : Nat) : Int) < ((l.length : Nat) : Int)) = true := decide_eq_true (by omega)
    have w1 : IntKind.wrap .u64 (v : Int) = v := wrap_u rfl (by show v < 18446744073709551616; omega)
    have m1 : imul (.int .i64 8) (.int .i64 (i : Nat)) = some (.int .i64 ((8 * i : Nat) : Int)) := by
      rw [imul_i, wrap_i64 (by omega) (by omega)]; rfl
    have hp : 256 ^ (i + 1) ≤ 256 ^ 8 := Nat.pow_le_pow_right (by decide) (by omega)
    have hp0 : 0 < 256 ^ i := Nat.pow_pos (by decide)
    have hpe : 256 ^ (i + 1) = 256 ^ i * 256 := Nat.pow_succ ..
    have hvm : v * 256 ^ i + a < 256 ^ (i + 1) := by
      have := Nat.mul_le_mul_right (256 ^ i) (show v + 1 ≤ 256 by omega)
      rw [Nat.add_mul, Nat.one_mul] at this
      rw [hpe, Nat.mul_comm (256 ^ i) 256]
      omega
    have h8 : (256 : Nat) ^ 8 = 18446744073709551616 := by decide
    have m2 : ishl (.int .u64 (v : Nat)) (.int .i64 ((8 * i : Nat) : Int)) = some (.int .u64 ((v * 256 ^ i : Nat) : Int)) := by
      rw [ishl_n, show min (8 * i) IntKind.u64.bits = 8 * i from Nat.min_eq_left (by show 8 * i ≤ 64; omega), Nat.pow_mul]
      rw [show (2 : Nat) ^ 8 = 256 from rfl, wrap_u rfl (show v * 256 ^ i < 18446744073709551616 by omega)]
    have ho : a ||| v * 256 ^ i = v * 256 ^ i + a := by
      have h2 : (256 : Nat) ^ i = 2 ^ (8 * i) := by rw [Nat.pow_mul]
      rw [h2] at ha ⊢
      exact or_add ha
    have m3 : ior (.int .u64 (a : Nat)) (.int .u64 ((v * 256 ^ i : Nat) : Int)) = some (.int .u64 ((v * 256 ^ i + a : Nat) : Int)) := by
      have := ior_n (k := .u64) (a := a) (b := v * 256 ^ i) (by show a < 18446744073709551616; omega) (by show v * 256 ^ i < 18446744073709551616; omega) (by rw [ho]; exact wrap_u rfl (by show v * 256 ^ i + a < 18446744073709551616; omega))
      rw [ho] at this
      exact this
    have e3 : iadd (.int .i64 (i : Nat)) (.int .i64 1) = some (.int .i64 ((i + 1 : Nat) : Int)) := add_n (b := 1) (by omega)
    rw [iadd_i] at e3
    rw [imul_i] at m1
    have ih := read_loop (k := k) hx hb hl r (i + 1) (v * 256 ^ i + a) hr' (by omega) hvm
    rw [ql_frame_read]
    simp only [d, q1, q2, w1, m1, m2, m3, e3, JN_0, JN_1, JN_2, JN_3, JN_4, JN_5, JN_6, JN_7, JN_8, JN_9, JN_10, JN_11, JN_12, JN_13, JN_14, JN_15, JN_16, JN_17, JN_18, JN_19, JN_20, JN_21, JN_22, JN_23, JN_24, B1_s, B2_s, BN_s, CD_t, CD_f, GO_tt, GO_ft, GO_tf, GO_ff, GO_ut, GO_uf, GD2_tt, GD2_ft, GD2_tf, GD2_ff, pk_t, pk_f, nilA_p, nilA_i, fa_p, fd_a, ex_t, iadd_i, isub_i, imul_i, ieq_i, ine_i, ilt_i, ile_i, igt_i, ige_i, seq_s, sne_s, slt_s, lens_s, lenx_0, lenx_s, not_b, bb_e, bb_n, cv_i, pe_00, pe_0p, pe_p0, eqB_e, eqB_n, List.getElem?_cons_zero, List.getElem?_cons_succ, Nat.zero_add, Bool.not_true, Bool.not_false, decide_true, decide_false, Int.reduceBEq, Int.reduceBNe, Int.reduceLT, Int.reduceLE, Int.reduceGT, Int.reduceGE, Int.reduceNeg, BEq.rfl, bne_self_eq_false, ge_iff_le, gt_iff_lt]
    rw [ih]
    congr 3
    rw [ud, hpe, Nat.mul_add, Nat.mul_comm v, Nat.mul_assoc]
    omega
theorem read_c {H : Hp} {x : AV} {l : List Nat} (hx : Rw H 1 x (bs l)) (hb : ∀ b ∈ l, b < 256) (hl : l.length ≤ 8) : cK (.func (.func 48) [] []) [x] H = some (.int .u64 ((ud l : Nat) : Int), H) := by
  refine c_frame_read ?_
  unfold s_frame_read
  have hn := hx.len1
  rw [bs_len] at hn
  have lp := fun (k : K.Fn 1) => read_loop (k := k) hx hb hl l 0 0 rfl (Nat.zero_le _) (by decide)
  rw [show (((0 : Nat) : Int)) = 0 from rfl] at lp
  simp only [Nat.pow_zero, Nat.one_mul, Nat.zero_add] at lp
  simp only [hn, lp, JN_0, JN_1, JN_2, JN_3, JN_4, JN_5, JN_6, JN_7, JN_8, JN_9, JN_10, JN_11, JN_12, JN_13, JN_14, JN_15, JN_16, JN_17, JN_18, JN_19, JN_20, JN_21, JN_22, JN_23, JN_24, B1_s, B2_s, BN_s, CD_t, CD_f, GO_tt, GO_ft, GO_tf, GO_ff, GO_ut, GO_uf, GD2_tt, GD2_ft, GD2_tf, GD2_ff, pk_t, pk_f, nilA_p, nilA_i, fa_p, fd_a, ex_t, iadd_i, isub_i, imul_i, ieq_i, ine_i, ilt_i, ile_i, igt_i, ige_i, seq_s, sne_s, slt_s, lens_s, lenx_0, lenx_s, not_b, bb_e, bb_n, cv_i, pe_00, pe_0p, pe_p0, eqB_e, eqB_n, List.getElem?_cons_zero, List.getElem?_cons_succ, Nat.zero_add, Bool.not_true, Bool.not_false, decide_true, decide_false, Int.reduceBEq, Int.reduceBNe, Int.reduceLT, Int.reduceLE, Int.reduceGT, Int.reduceGE, Int.reduceNeg, BEq.rfl, bne_self_eq_false, ge_iff_le, gt_iff_lt]
theorem grow_c {H : Hp} (n : Nat) (hn : n ≤ 16777215) : ∃ y H', cK (.func (.func 55) [] []) [.slice0, .int .i64 n] H = some (y, H') ∧ Ow H' 5 1 y [] ∧ Out [] H H' ∧ (∀ j ∈ rid y, H.next ≤ j) := by
  have c0 : ∀ H : Hp, builtinA P .cap #[28] [.slice0] H = some (.int .i64 0, H) := fun H => by kernel_rfl
  have d0 : decide (((n : Nat) : Int) < 0) = false := decide_eq_false (by omega)
  have w0 := w64 (a := n) (by omega)
  by_cases h : n = 0
  · subst h
    refine ⟨.slice0, H, c_slices_Grow___byte_byte_ ?_, .nil, Out.refl _ _, fun j hj => by cases hj⟩
    unfold s_slices_Grow___byte_byte_
    have w00 : IntKind.wrap .i64 0 = 0 := by decide
    rw [show (((0 : Nat) : Int)) = 0 from rfl] at *
    simp only [c0, d0, w00, Int.sub_self, Int.sub_zero, JN_0, JN_1, JN_2, JN_3, JN_4, JN_5, JN_6, JN_7, JN_8, JN_9, JN_10, JN_11, JN_12, JN_13, JN_14, JN_15, JN_16, JN_17, JN_18, JN_19, JN_20, JN_21, JN_22, JN_23, JN_24, B1_s, B2_s, BN_s, CD_t, CD_f, GO_tt, GO_ft, GO_tf, GO_ff, GO_ut, GO_uf, GD2_tt, GD2_ft, GD2_tf, GD2_ff, pk_t, pk_f, nilA_p, nilA_i, fa_p, fd_a, ex_t, iadd_i, isub_i, imul_i, ieq_i, ine_i, ilt_i, ile_i, igt_i, ige_i, seq_s, sne_s, slt_s, lens_s, lenx_0, lenx_s, not_b, bb_e, bb_n, cv_i, pe_00, pe_0p, pe_p0, eqB_e, eqB_n, List.getElem?_cons_zero, List.getElem?_cons_succ, Nat.zero_add, Bool.not_true, Bool.not_false, decide_true, decide_false, Int.reduceBEq, Int.reduceBNe, Int.reduceLT, Int.reduceLE, Int.reduceGT, Int.reduceGE, Int.reduceNeg, BEq.rfl, bne_self_eq_false, ge_iff_le, gt_iff_lt]
  · have d1 : decide (0 < ((n : Nat) : Int)) = true := decide_eq_true (by omega)
    obtain ⟨x', s1, s2, s3⟩ := sll_ow (n := 0) (a := 0) (b := 0) (Ow.nil (H := H) (el := 5) (es := 1)) rfl (by omega) (lo := none) (hi := some (.int .i64 ((0 : Nat) : Int))) (Nat.le_refl _) (Nat.le_refl _) (Bd.no 0) (Bd.yes _ _ _)
    have s2' : Ow H 5 1 x' [] := by simpa using s2
    obtain ⟨y, H', a1, a2, a3, a4⟩ := appz_ok (n := n) s2' (by simp; omega)
    obtain ⟨z, t1, t2, t3⟩ := sll_ow (n := n) (a := 0) (b := 0) a2 (by simp) (by omega) (lo := none) (hi := some (.int .i64 ((0 : Nat) : Int))) (Nat.le_refl _) (Nat.zero_le _) (Bd.no 0) (Bd.yes _ _ _)
    have hx : ∀ j ∈ rid x', False := fun j hj => by have := s3 j hj; cases this
    refine ⟨z, H', c_slices_Grow___byte_byte_ ?_, by simpa using t2, ⟨a3.1, fun j hj _ => a3.2 j hj fun q => hx j q⟩, fun j hj => (a4 j (t3 j hj)).elim (fun q => (hx j q).elim) id⟩
    unfold s_slices_Grow___byte_byte_
    have w00 : IntKind.wrap .i64 0 = 0 := by decide
    rw [show (((0 : Nat) : Int)) = 0 from rfl] at s1 t1
    simp only [c0, d0, d1, w00, w0, s1, a1, t1, Int.sub_self, Int.sub_zero, JN_0, JN_1, JN_2, JN_3, JN_4, JN_5, JN_6, JN_7, JN_8, JN_9, JN_10, JN_11, JN_12, JN_13, JN_14, JN_15, JN_16, JN_17, JN_18, JN_19, JN_20, JN_21, JN_22, JN_23, JN_24, B1_s, B2_s, BN_s, CD_t, CD_f, GO_tt, GO_ft, GO_tf, GO_ff, GO_ut, GO_uf, GD2_tt, GD2_ft, GD2_tf, GD2_ff, pk_t, pk_f, nilA_p, nilA_i, fa_p, fd_a, ex_t, iadd_i, isub_i, imul_i, ieq_i, ine_i, ilt_i, ile_i, igt_i, ige_i, seq_s, sne_s, slt_s, lens_s, lenx_0, lenx_s, not_b, bb_e, bb_n, cv_i, pe_00, pe_0p, pe_p0, eqB_e, eqB_n, List.getElem?_cons_zero, List.getElem?_cons_succ, Nat.zero_add, Bool.not_true, Bool.not_false, decide_true, decide_false, Int.reduceBEq, Int.reduceBNe, Int.reduceLT, Int.reduceLE, Int.reduceGT, Int.reduceGE, Int.reduceNeg, BEq.rfl, bne_self_eq_false, ge_iff_le, gt_iff_lt]
theorem clone_c {H : Hp} {x : AV} {l : List Nat} (hx : Rw H 1 x (bs l)) (hl : l.length ≤ 16777216) : ∃ y H', cK (.func (.func 49) [] []) [x] H = some (y, H') ∧ Ow H' 5 1 y (bs l) ∧ Out [] H H' ∧ (∀ j ∈ rid y, H.next ≤ j) := by
  obtain ⟨H1, n1, n2, n3, n4⟩ := newCells_ok H [] 5 0 (by simp)
  have hx1 := hx.out n3 fun j hj q => by cases q
  obtain ⟨y, H', a1, a2, a3, a4⟩ := append_ok (z := [.int .u8 0]) (s := .slice H.next 0 0 0 true 1) (l := []) (el := 5) .emp hx1 (bs_one _) (by omega) (by simpa [bs_len] using hl)
  have hr : rid (.slice H.next 0 0 0 true 1) = [] := rfl
  rw [hr] at a3 a4
  generalize bs l = m at *
  cases hx with
  | nil =>
    refine ⟨.slice0, H, c_slices_Clone___byte_byte_ ?_, ?_, Out.refl _ _, fun j hj => by cases hj⟩
    · unfold s_slices_Clone___byte_byte_
      simp only [gA_e0, IFT_t, nilS_t Tryd.underlying28, JN_0, JN_1, JN_2, JN_3, JN_4, JN_5, JN_6, JN_7, JN_8, JN_9, JN_10, JN_11, JN_12, JN_13, JN_14, JN_15, JN_16, JN_17, JN_18, JN_19, JN_20, JN_21, JN_22, JN_23, JN_24, B1_s, B2_s, BN_s, CD_t, CD_f, GO_tt, GO_ft, GO_tf, GO_ff, GO_ut, GO_uf, GD2_tt, GD2_ft, GD2_tf, GD2_ff, pk_t, pk_f, nilA_p, nilA_i, fa_p, fd_a, ex_t, iadd_i, isub_i, imul_i, ieq_i, ine_i, ilt_i, ile_i, igt_i, ige_i, seq_s, sne_s, slt_s, lens_s, lenx_0, lenx_s, not_b, bb_e, bb_n, cv_i, pe_00, pe_0p, pe_p0, eqB_e, eqB_n, List.getElem?_cons_zero, List.getElem?_cons_succ, Nat.zero_add, Bool.not_true, Bool.not_false, decide_true, decide_false, Int.reduceBEq, Int.reduceBNe, Int.reduceLT, Int.reduceLE, Int.reduceGT, Int.reduceGE, Int.reduceNeg, BEq.rfl, bne_self_eq_false, ge_iff_le, gt_iff_lt]
    · exact .nil
  | emp =>
    refine ⟨y, H', c_slices_Clone___byte_byte_ ?_, by simpa using a2, n3.trans a3, fun j hj => (a4 j hj).elim (fun q => by cases q) fun q => by omega⟩
    unfold s_slices_Clone___byte_byte_
    simp only [gA_es, IFT_t, nilS_f Tryd.underlying28, fl_nil, n1, a1, JN_0, JN_1, JN_2, JN_3, JN_4, JN_5, JN_6, JN_7, JN_8, JN_9, JN_10, JN_11, JN_12, JN_13, JN_14, JN_15, JN_16, JN_17, JN_18, JN_19, JN_20, JN_21, JN_22, JN_23, JN_24, B1_s, B2_s, BN_s, CD_t, CD_f, GO_tt, GO_ft, GO_tf, GO_ff, GO_ut, GO_uf, GD2_tt, GD2_ft, GD2_tf, GD2_ff, pk_t, pk_f, nilA_p, nilA_i, fa_p, fd_a, ex_t, iadd_i, isub_i, imul_i, ieq_i, ine_i, ilt_i, ile_i, igt_i, ige_i, seq_s, sne_s, slt_s, lens_s, lenx_0, lenx_s, not_b, bb_e, bb_n, cv_i, pe_00, pe_0p, pe_p0, eqB_e, eqB_n, List.getElem?_cons_zero, List.getElem?_cons_succ, Nat.zero_add, Bool.not_true, Bool.not_false, decide_true, decide_false, Int.reduceBEq, Int.reduceBNe, Int.reduceLT, Int.reduceLE, Int.reduceGT, Int.reduceGE, Int.reduceNeg, BEq.rfl, bne_self_eq_false, ge_iff_le, gt_iff_lt]
  | mk h1 h2 h3 h4 =>
    refine ⟨y, H', c_slices_Clone___byte_byte_ ?_, by simpa using a2, n3.trans a3, fun j hj => (a4 j hj).elim (fun q => by cases q) fun q => by omega⟩
    unfold s_slices_Clone___byte_byte_
    simp only [gA_es, IFT_t, nilS_f Tryd.underlying28, fl_nil, n1, a1, JN_0, JN_1, JN_2, JN_3, JN_4, JN_5, JN_6, JN_7, JN_8, JN_9, JN_10, JN_11, JN_12, JN_13, JN_14, JN_15, JN_16, JN_17, JN_18, JN_19, JN_20, JN_21, JN_22, JN_23, JN_24, B1_s, B2_s, BN_s, CD_t, CD_f, GO_tt, GO_ft, GO_tf, GO_ff, GO_ut, GO_uf, GD2_tt, GD2_ft, GD2_tf, GD2_ff, pk_t, pk_f, nilA_p, nilA_i, fa_p, fd_a, ex_t, iadd_i, isub_i, imul_i, ieq_i, ine_i, ilt_i, ile_i, igt_i, ige_i, seq_s, sne_s, slt_s, lens_s, lenx_0, lenx_s, not_b, bb_e, bb_n, cv_i, pe_00, pe_0p, pe_p0, eqB_e, eqB_n, List.getElem?_cons_zero, List.getElem?_cons_succ, Nat.zero_add, Bool.not_true, Bool.not_false, decide_true, decide_false, Int.reduceBEq, Int.reduceBNe, Int.reduceLT, Int.reduceLE, Int.reduceGT, Int.reduceGE, Int.reduceNeg, BEq.rfl, bne_self_eq_false, ge_iff_le, gt_iff_lt]
end Go.Proofs.YtdacjomfipkpaaaDoor.SgK
