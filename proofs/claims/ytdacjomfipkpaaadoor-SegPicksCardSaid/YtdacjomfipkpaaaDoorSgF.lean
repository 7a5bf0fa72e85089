/- frame.Put: contract over the symbolic heap. Conditions: as stated. -/
import Derived.Test.YtdacjomfipkpaaaDoorSgE
namespace Go.Proofs.YtdacjomfipkpaaaDoor.SgK
open Go Am Am.K SgEnv
set_option linter.unusedVariables false
set_option linter.unusedSimpArgs false
theorem same_i (k : IntKind) (a : Int) : same (.int k a) (.int k a) = true := by cases k <;> simp [same, sameS]
theorem same_rw {H : Hp} {es : Nat} {x : AV} {l : List AV} (h : Rw H es x l) : same x x = true := by
  cases h <;> simp [same, sameS]
theorem cells_rw {H : Hp} {es : Nat} {x : AV} {l : List AV} (h : Rw H es x l) : cellsV x = some [x] := by
  cases h <;> rfl
theorem cells_rec {H : Hp} {es : Nat} {x : AV} {l : List AV} (h : Rw H es x l) (a : Int) : cellsV (.agg [.int .u64 a, x]) = some [.int .u64 a, x] := by
  cases h <;> rfl
/-- the twelve bytes ahead; the whole frame -/
def hd12 (at' : Nat) (b : List Nat) : List Nat := le 4 b.length ++ le 8 at'
def fr (at' : Nat) (b : List Nat) : List Nat := hd12 at' b ++ le 4 (onS 1 (hd12 at' b ++ b)) ++ b
theorem hd12_len (a : Nat) (b : List Nat) : (hd12 a b).length = 12 := by simp [hd12, le_len]
theorem fr_len (a : Nat) (b : List Nat) : (fr a b).length = 16 + b.length := by simp [fr, hd12_len, le_len]; omega
theorem hd12_byte (a : Nat) (b : List Nat) : ∀ x ∈ hd12 a b, x < 256 := fun x hx => (List.mem_append.1 hx).elim (le_byte _ _ x) (le_byte _ _ x)
theorem put_c {H : Hp} {x y : AV} {l b : List Nat} {at' : Nat} (hx : Rw H 1 x (bs l)) (hy : Rw H 1 y (bs b)) (ha : at' < 18446744073709551616) (hb : ∀ v ∈ b, v < 256) (hn : b.length ≤ 1024) (hl : l.length ≤ 1000000) :
    ∃ z H', cK (.func (.func 18) [] []) [x, .agg [.int .u64 at', y]] H = some (.tuple [z, .int .i64 0], H') ∧ Out [] H H' ∧ Ow H' 5 1 z (bs (l ++ fr at' b)) ∧ (∀ j ∈ rid z, H.next ≤ j) := by
  have hcv := cells_rec hy (at' : Int)
  obtain ⟨H1, b1, b2, b3, b4⟩ := bx_ok H 48 _ _ hcv (by simp)
  have hyl := hy.len1
  rw [bs_len] at hyl
  have d1 : decide (1024 < ((b.length : Nat) : Int)) = false := decide_eq_false (by omega)
  have w1 : IntKind.wrap .u64 ((b.length : Nat) : Int) = b.length := wrap_u rfl (by show b.length < 18446744073709551616; omega)
  have l1 : ld (.ptr H.next 1) H1 = some y := b2.ld rfl
  obtain ⟨s1, H2, n1, n2, n3, n4⟩ := number_c (v := b.length) (n := 4) (by omega) (by decide) (Ow.nil (H := H1) (el := 5) (es := 1)) (by simp) (l := [])
  rw [List.nil_append] at n2
  have f1 : ∀ j ∈ rid s1, H1.next ≤ j := fun j hj => (n4 j hj).elim (fun q => by cases q) id
  have o2 : Out [] H1 H2 := n3
  have r2 := b2.out o2 (fun q => by cases q)
  obtain ⟨s2, H3, m1, m2, m3, m4⟩ := number_c (v := at') (n := 8) ha (by decide) n2 (by rw [le_len]; decide)
  have o3 : Out [] H1 H3 := o2.then m3 fun j hj => .inr (f1 j hj)
  have f2 : ∀ j ∈ rid s2, H1.next ≤ j := fun j hj => (m4 j hj).elim (f1 j) fun q => Nat.le_trans o2.1 q
  have r3 := b2.out o3 (fun q => by cases q)
  have l2 : ld (.ptr H.next 0) H2 = some (.int .u64 (at' : Int)) := r2.ld rfl
  have l2' : ld (.ptr H.next 0) H1 = some (.int .u64 (at' : Int)) := b2.ld rfl
  have l3 : ld (.ptr H.next 1) H3 = some y := r3.ld rfl
  have oH3 : Out [] H H3 := b3.trans o3
  have hy3 := hy.out oH3 fun j _ q => by cases q
  have e1 := of_c (l := hd12 at' b) m2.rw (hd12_byte _ _) (by rw [hd12_len]; decide)
  have g1 := onS_lt (s := 1) (by decide) (hd12 at' b)
  have e2 := on_c hy3 hb (by omega) g1.1 g1.2
  rw [onS_app (by decide)] at e2
  have g2 := onS_lt (s := 1) (by decide) (hd12 at' b ++ b)
  have w2 : IntKind.wrap .u64 ((onS 1 (hd12 at' b ++ b) : Nat) : Int) = ((onS 1 (hd12 at' b ++ b) : Nat) : Int) := wrap_u rfl (Nat.lt_trans g2.1 (by decide))
  obtain ⟨s3, H4, p1, p2, p3, p4⟩ := number_c (v := onS 1 (hd12 at' b ++ b)) (n := 4) (Nat.lt_trans g2.1 (by decide)) (by decide) m2 (by
    have := hd12_len at' b
    unfold hd12 at this
    rw [this]; decide)
  have o4 : Out [] H1 H4 := o3.then p3 fun j hj => .inr (f2 j hj)
  have r4 := b2.out o4 (fun q => by cases q)
  have l4 : ld (.ptr H.next 1) H4 = some y := r4.ld rfl
  have oH4 : Out [] H H4 := b3.trans o4
  have hx4 := hx.out oH4 fun j _ q => by cases q
  have hy4 := hy.out oH4 fun j _ q => by cases q
  have fl3 : fl [.slice0, .slice0, .slice0] [(0, 1, x), (1, 1, s3), (2, 1, y)] = some [x, s3, y] := by
    have c1 := cells_rw hx
    have c2 := cells_rw p2.rw
    have c3 := cells_rw hy
    simp [fl, c1, c2, c3]
  obtain ⟨H5, q1, q2, q3, q4⟩ := newCells_ok H4 [x, s3, y] 28 0 (by simp)
  have no : ∀ (v : AV) (j : Nat), j ∈ rid v → j ∉ ([] : List Nat) := fun v j _ q => by cases q
  have hrow : Rows1 H5 H4.next [x, s3, y] [l, hd12 at' b ++ le 4 (onS 1 (hd12 at' b ++ b)), b] 28 0 := by
    refine ⟨q2, rfl, fun j c m h1 h2 => ?_⟩
    match j, h1, h2 with
    | 0, h1, h2 => cases h1; cases h2; exact hx4.out q3 (no _)
    | 1, h1, h2 => cases h1; cases h2; exact p2.rw.out q3 (no _)
    | 2, h1, h2 => cases h1; cases h2; exact hy4.out q3 (no _)
  obtain ⟨z, H6, z1, z2, z3, z4⟩ := concat_c hrow (by simp) (by simp [hd12_len, le_len]; omega)
  have l6 : ld (.ptr H.next 1) H3 = some y := l3
  refine ⟨z, H6, c_frame_Put ?_, (oH4.trans q3).trans z2, ?_, fun j hj => Nat.le_trans (oH4.trans q3).1 (z4 j hj)⟩
  · unfold s_frame_Put
    rw [show (([l, hd12 at' b ++ le 4 (onS 1 (hd12 at' b ++ b)), b] : List (List Nat)).length) = 3 from rfl] at z1
    have n1' := n1
    have m1' := m1
    have p1' := p1
    rw [show (((4 : Nat) : Int)) = 4 from rfl] at n1' p1'
    rw [show (((8 : Nat) : Int)) = 8 from rfl] at m1'
    simp only [b1, l1, hyl, d1, w1, n1', l2, l2', m1', SM_t (same_i .u64 (at' : Int)), e1, l3, e2, SM_t (same_rw hy), w2, p1', l4, fl3, q1, z1, JN_0, JN_1, JN_2, JN_3, JN_4, JN_5, JN_6, JN_7, JN_8, JN_9, JN_10, JN_11, JN_12, JN_13, JN_14, JN_15, JN_16, JN_17, JN_18, JN_19, JN_20, JN_21, JN_22, JN_23, JN_24, B1_s, B2_s, BN_s, CD_t, CD_f, GO_tt, GO_ft, GO_tf, GO_ff, GO_ut, GO_uf, GD2_tt, GD2_ft, GD2_tf, GD2_ff, pk_t, pk_f, nilA_p, nilA_i, fa_p, fd_a, ex_t, iadd_i, isub_i, imul_i, ieq_i, ine_i, ilt_i, ile_i, igt_i, ige_i, seq_s, sne_s, slt_s, lens_s, lenx_0, lenx_s, not_b, bb_e, bb_n, cv_i, pe_00, pe_0p, pe_p0, eqB_e, eqB_n, List.getElem?_cons_zero, List.getElem?_cons_succ, Nat.zero_add, Bool.not_true, Bool.not_false, decide_true, decide_false, Int.reduceBEq, Int.reduceBNe, Int.reduceLT, Int.reduceLE, Int.reduceGT, Int.reduceGE, Int.reduceNeg, BEq.rfl, bne_self_eq_false, ge_iff_le, gt_iff_lt]
  · have : fr at' b = (hd12 at' b ++ le 4 (onS 1 (hd12 at' b ++ b))) ++ b := rfl
    rw [this]
    simpa using z3
end Go.Proofs.YtdacjomfipkpaaaDoor.SgK
