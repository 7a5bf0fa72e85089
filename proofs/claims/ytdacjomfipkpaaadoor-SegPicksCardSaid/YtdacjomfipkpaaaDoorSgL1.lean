/- SegNames over the symbolic heap. Conditions: what the listed variables hold. -/
import Derived.Test.YtdacjomfipkpaaaDoorSgN
import Derived.Test.YtdacjomfipkpaaaDoorAm15
namespace Go.Proofs.YtdacjomfipkpaaaDoor.SgN
open Go Am Am.K SgEnv Sg SegPrim
set_option linter.unusedVariables false
set_option linter.unusedSimpArgs false
theorem vsA {H : Am.Hp} (hT : hasT H begin0) : VsA H := by
  obtain ⟨el, h⟩ := hT
  have h1 := h 5 (tab64.map (AV.int .u8)) (by simp [begin0])
  have h2 := h 1 [.iface 153 (.ptr 8 0)] (by simp [begin0])
  have h3 := h 2 [.iface 153 (.ptr 7 0)] (by simp [begin0])
  refine ⟨?_, ⟨153, .ptr 8 0, ?_⟩, ⟨153, .ptr 7 0, ?_⟩⟩
  · unfold cellAt; rw [h1]; kernel_rfl
  · unfold cellAt; rw [h2]; kernel_rfl
  · unfold cellAt; rw [h3]; kernel_rfl
theorem name_c (an : Nat → An) {H : Am.Hp} (hV : VsA H) (a : Int) : CK Tryd.prog (regK Tryd.prog) ext prim an (.func (.func 10) [] []) [.int .i64 a] H = some (.tuple [.str (nms a), .bool (inN a)], H) := by
  refine ck_prim (p := nameP) (by kernel_rfl) ?_
  unfold nameP
  simp only [if_pos hV]
theorem parse_c (an : Nat → An) {H : Am.Hp} (hV : VsA H) (s : List Nat) (hs : s.length ≤ 281474976710656) : CK Tryd.prog (regK Tryd.prog) ext prim an (.func (.func 11) [] []) [.str s] H = some (.tuple [.int .i64 (sps s).1, .bool (sps s).2], H) := by
  refine ck_prim (p := parseP) (by kernel_rfl) ?_
  unfold parseP
  simp only [if_pos (show VsA H ∧ s.length ≤ 281474976710656 from ⟨hV, hs⟩)]
theorem inN_t {a : Int} (h : 0 ≤ a) (k : a ≤ 17592186044415) : inN a = true := by unfold inN; simp; omega
theorem inN_f {a : Int} (h : ¬ (0 ≤ a ∧ a ≤ 17592186044415)) : inN a = false := by unfold inN; simp; omega
theorem nms_t {a : Int} (h : inN a = true) : nms a = (nm a.toNat).map (·.toNat) := by unfold nms; rw [h]; rfl
theorem nms_len {a : Int} (h : inN a = true) : (nms a).length = 14 := by rw [nms_t h]; simp [nm, pad_length]
theorem sps_nms {a : Int} (h : inN a = true) : sps (nms a) = (a.toNat, true) := by
  rw [nms_t h]
  unfold sps
  rw [List.map_map, List.map_congr_left (g := id) (fun x _ => by simp), List.map_id]
  refine sp_nm _ ?_
  unfold inN at h
  simp at h
  omega
/-- names are in the order of their numbers -/
theorem pad_ltL : ∀ (k a b : Nat), ltL ((pad k a).map (·.toNat)) ((pad k b).map (·.toNat)) = decide (a % 16 ^ k < b % 16 ^ k)
  | 0, a, b => by simp [pad, ltL, Nat.mod_one]
  | k + 1, a, b => by
    have ih := pad_ltL k a b
    rw [pad_cons, pad_cons, List.map_cons, List.map_cons, ltL, ih, Nat.mod_pow_succ, Nat.mod_pow_succ]
    have hx : a / 16 ^ k % 16 < 16 := Nat.mod_lt _ (by decide)
    have hy : b / 16 ^ k % 16 < 16 := Nat.mod_lt _ (by decide)
    have hp : 0 < 16 ^ k := Nat.pow_pos (by decide)
    have ra := Nat.mod_lt a hp
    have rb := Nat.mod_lt b hp
    generalize a / 16 ^ k % 16 = x at *
    generalize b / 16 ^ k % 16 = y at *
    generalize a % 16 ^ k = u at *
    generalize b % 16 ^ k = v at *
    generalize 16 ^ k = q at *
    have h1 : Nat.blt (hd x).toNat (hd y).toNat = decide (x < y) := by
      have k : ∀ c d : Fin 16, Nat.blt (hd c).toNat (hd d).toNat = decide ((c : Nat) < d) := by decide
      exact k ⟨x, hx⟩ ⟨y, hy⟩
    have h2 : Nat.beq (hd x).toNat (hd y).toNat = decide (x = y) := by
      have k : ∀ c d : Fin 16, Nat.beq (hd c).toNat (hd d).toNat = decide ((c : Nat) = d) := by decide
      exact k ⟨x, hx⟩ ⟨y, hy⟩
    rw [h1, h2]
    rcases Nat.lt_trichotomy x y with h | rfl | h
    · have : u + q * x < v + q * y := by
        have := Nat.mul_le_mul_left q (show x + 1 ≤ y from h)
        rw [Nat.mul_add, Nat.mul_one] at this
        omega
      rw [decide_eq_true h, decide_eq_true this]
      rfl
    · have e1 : decide (x < x) = false := decide_eq_false (Nat.lt_irrefl _)
      have e2 : decide (x = x) = true := decide_eq_true rfl
      rw [e1, e2, Bool.false_or, Bool.true_and]
      congr 1
      simp
    · have : ¬ u + q * x < v + q * y := by
        have := Nat.mul_le_mul_left q (show y + 1 ≤ x from h)
        rw [Nat.mul_add, Nat.mul_one] at this
        omega
      rw [decide_eq_false (show ¬ x < y by omega), decide_eq_false (show ¬ x = y by omega), decide_eq_false this]
      rfl
theorem nms_lt {a b : Int} (h : inN a = true) (k : inN b = true) : ltL (nms a) (nms b) = decide (a < b) := by
  have h1 := h
  have k1 := k
  unfold inN at h1 k1
  simp at h1 k1
  rw [nms_t h, nms_t k]
  have := pad_ltL 12 a.toNat b.toNat
  rw [Nat.mod_eq_of_lt (show a.toNat < 16 ^ 12 by omega), Nat.mod_eq_of_lt (show b.toNat < 16 ^ 12 by omega)] at this
  have e : decide (a.toNat < b.toNat) = decide (a < b) := decide_eq_decide.2 (by omega)
  rw [← e, ← this]
  rfl
theorem nms_len' {a : Int} (h : inN a = true) : (((nms a).length : Nat) : Int) = 14 := by rw [nms_len h]; rfl
theorem names_tt {H : Am.Hp} {a b : Int} {s t : List Nat} (hA : cK (.func (.func 9) [] []) [] H = some (.bool true, H))
    (na : cK (.func (.func 10) [] []) [.int .i64 a] H = some (.tuple [.str s, .bool true], H)) (nb : cK (.func (.func 10) [] []) [.int .i64 b] H = some (.tuple [.str t, .bool true], H))
    (hp : cK (.func (.func 11) [] []) [.str s] H = some (.tuple [.int .i64 a, .bool true], H)) (e2 : ltL s t = decide (a < b)) (e3 : ((s.length : Nat) : Int) = 14) :
    s_outriderlaw6_SegNames JN GO cK (.int .i64 a) (.int .i64 b) H = some (.bool true, H) := by
  have e4 : (decide (a < b) == decide (a < b)) = true := by simp
  unfold s_outriderlaw6_SegNames
  simp only [hA, na, nb, hp, e2, e3, e4, JN_0, JN_1, JN_2, JN_3, JN_4, JN_5, JN_6, JN_7, JN_8, JN_9, JN_10, JN_11, JN_12, JN_13, JN_14, JN_15, JN_16, JN_17, JN_18, JN_19, JN_20, JN_21, JN_22, JN_23, JN_24, B1_s, B2_s, BN_s, CD_t, CD_f, GO_tt, GO_ft, GO_tf, GO_ff, GO_ut, GO_uf, GD2_tt, GD2_ft, GD2_tf, GD2_ff, pk_t, pk_f, nilA_p, nilA_i, fa_p, fd_a, ex_t, iadd_i, isub_i, imul_i, ieq_i, ine_i, ilt_i, ile_i, igt_i, ige_i, seq_s, sne_s, slt_s, lens_s, lenx_0, lenx_s, not_b, bb_e, bb_n, cv_i, pe_00, pe_0p, pe_p0, eqB_e, eqB_n, List.getElem?_cons_zero, List.getElem?_cons_succ, Nat.zero_add, Bool.not_true, Bool.not_false, decide_true, decide_false, Int.reduceBEq, Int.reduceBNe, Int.reduceLT, Int.reduceLE, Int.reduceGT, Int.reduceGE, Int.reduceNeg, BEq.rfl, bne_self_eq_false, ge_iff_le, gt_iff_lt]
theorem names_ff {H : Am.Hp} {a b : Int} {s t : List Nat} {x y : Bool} (hA : cK (.func (.func 9) [] []) [] H = some (.bool true, H))
    (na : cK (.func (.func 10) [] []) [.int .i64 a] H = some (.tuple [.str s, .bool x], H)) (nb : cK (.func (.func 10) [] []) [.int .i64 b] H = some (.tuple [.str t, .bool y], H))
    (e1 : x = (decide (0 ≤ a) && decide (a ≤ 17592186044415))) (e2 : y = (decide (0 ≤ b) && decide (b ≤ 17592186044415))) (e3 : (x && y) = false) :
    s_outriderlaw6_SegNames JN GO cK (.int .i64 a) (.int .i64 b) H = some (.bool true, H) := by
  unfold s_outriderlaw6_SegNames
  generalize h1 : decide (0 ≤ a) = a1 at *
  generalize h2 : decide (a ≤ 17592186044415) = a2 at *
  generalize h3 : decide (0 ≤ b) = b1 at *
  generalize h4 : decide (b ≤ 17592186044415) = b2 at *
  cases a1 <;> cases a2 <;> cases b1 <;> cases b2 <;> first | (simp [e1, e2] at e3; done) | skip
  all_goals
    subst e1 e2
    simp only [Bool.and_true, Bool.and_false, Bool.true_and, Bool.false_and] at na nb
    simp only [hA, na, nb, h1, h2, h3, h4, JN_0, JN_1, JN_2, JN_3, JN_4, JN_5, JN_6, JN_7, JN_8, JN_9, JN_10, JN_11, JN_12, JN_13, JN_14, JN_15, JN_16, JN_17, JN_18, JN_19, JN_20, JN_21, JN_22, JN_23, JN_24, B1_s, B2_s, BN_s, CD_t, CD_f, GO_tt, GO_ft, GO_tf, GO_ff, GO_ut, GO_uf, GD2_tt, GD2_ft, GD2_tf, GD2_ff, pk_t, pk_f, nilA_p, nilA_i, fa_p, fd_a, ex_t, iadd_i, isub_i, imul_i, ieq_i, ine_i, ilt_i, ile_i, igt_i, ige_i, seq_s, sne_s, slt_s, lens_s, lenx_0, lenx_s, not_b, bb_e, bb_n, cv_i, pe_00, pe_0p, pe_p0, eqB_e, eqB_n, List.getElem?_cons_zero, List.getElem?_cons_succ, Nat.zero_add, Bool.not_true, Bool.not_false, decide_true, decide_false, Int.reduceBEq, Int.reduceBNe, Int.reduceLT, Int.reduceLE, Int.reduceGT, Int.reduceGE, Int.reduceNeg, BEq.rfl, bne_self_eq_false, ge_iff_le, gt_iff_lt]
theorem names_law {H : Am.Hp} {a b : Int} (hT : hasT H begin0) (hn : 9 ≤ H.next) : ∃ H', cK (.func (.func 3) [] []) [.int .i64 a, .int .i64 b] H = some (.bool true, H') := by
  have hA := awake_c an hT hn
  have hV := vsA hT
  have na := name_c an hV a
  have nb := name_c an hV b
  refine ⟨H, c_outriderlaw6_SegNames ?_⟩
  by_cases h : (inN a && inN b) = true
  · rw [Bool.and_eq_true] at h
    obtain ⟨ia, ib⟩ := h
    have hp := parse_c an hV (nms a) (by rw [nms_len ia]; decide)
    rw [sps_nms ia] at hp
    have e1 : ((a.toNat : Nat) : Int) = a := by
      unfold inN at ia
      simp at ia
      omega
    simp only [e1] at hp
    rw [ia] at na
    rw [ib] at nb
    exact names_tt hA na nb hp (nms_lt ia ib) (nms_len' ia)
  · have hi : ∀ c : Int, inN c = (decide (0 ≤ c) && decide (c ≤ 17592186044415)) := fun c => by
      unfold inN
      congr 1
      exact decide_eq_decide.2 (by omega)
    exact names_ff hA na nb (hi a) (hi b) (by simpa using h)
theorem names_top {H : Am.Hp} {as' : List AV} {ds : List D} (h : ArgsIs H [.int .i64, .int .i64] as' ds) (hT : hasT H begin0) (hn : 9 ≤ H.next) :
    ∃ H', cK (.func (.func 3) [] []) as' H = some (.bool true, H') := by
  cases h with
  | cons h0 h =>
  cases h with
  | cons h1 h =>
  cases h
  obtain ⟨a, rfl, _⟩ := isA_int h0
  obtain ⟨b, rfl, _⟩ := isA_int h1
  exact names_law hT hn
end Go.Proofs.YtdacjomfipkpaaaDoor.SgN
