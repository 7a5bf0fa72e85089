/- RunRetries over the symbolic heap: a task alone that fails each time is tried Retry and 1 times, resting as long as told between. Conditions: the listed variables hold what the row says. -/
import Derived.Test.YthljbjokonglhaaGreatDoorDfR8
namespace Go.Proofs.YthljbjokonglhaaGreatDoor.DfK
open Go Am Am.K DfEnv DfM LibP DfG
set_option linter.unusedVariables false
set_option linter.unusedSimpArgs false
set_option maxRecDepth 10000
set_option maxHeartbeats 1000000
theorem dlN_pos : ∀ (n d : Nat), 1 ≤ d → 1 ≤ dlN n d
  | 0, d, h => h
  | n + 1, d, h => by
    unfold dlN
    split
    · exact dlN_pos n _ (by omega)
    · exact h
theorem dM_bnd {b t : Int} (hb : 1 ≤ b) (ht : 1 ≤ t) : 1 ≤ dM b t ∧ dM b t ≤ 64000 := by
  unfold dM
  have h1 := delN_le b.toNat t.toNat
  have h2 : 1 ≤ delN b.toNat t.toNat := by
    unfold delN
    rw [if_neg (by omega)]
    exact dlN_pos _ _ (by omega)
  omega
/-- the task alone -/
abbrev tkR (retry base : Int) : Tk := ⟨[97], [], retry, 7, base, []⟩
abbrev rnR (retry base ph tr til st : Int) : Rn := ⟨[tkR retry base], st, [⟨ph, tr, til, []⟩], []⟩
theorem okr_R (retry base ph tr til st : Int) : Okr (rnR retry base ph tr til st) := by
  refine ⟨⟨show (1 : Nat) ≤ 1000 by omega, fun t ht => ?_, show (1 : Nat) ≤ 1000 by omega, Nat.zero_le _⟩, rfl, fun t ht a ha => ?_⟩
  · rw [List.mem_singleton] at ht; subst ht; exact Nat.zero_le _
  · rw [List.mem_singleton] at ht; subst ht; cases ha
theorem bd2_R {retry base ph tr til st : Int} (h0 : 0 ≤ base) (h1 : base ≤ 1000000) (h2 : 0 ≤ tr) (h3 : tr ≤ 1000000) : Bd2 (rnR retry base ph tr til st) := by
  refine ⟨fun t ht => ?_, fun t ht => ?_⟩
  · rw [List.mem_singleton] at ht; subst ht; exact ⟨h0, h1⟩
  · rw [List.mem_singleton] at ht; subst ht; exact ⟨h2, h3⟩
theorem good_R {retry base : Int} (h0 : 0 ≤ retry) (h1 : retry ≤ 8) (h2 : 1 ≤ base) (h3 : base ≤ 1000) : goodM [tkR retry base] = 0 := by
  have hok : okN [97] = true := by decide +kernel
  have e1 : p1 [tkR retry base] 0 = false := by
    show odd1 (tkR retry base) = false
    unfold odd1
    show (!okN [97] || _) = false
    rw [hok]; rfl
  have e3 : p3 [tkR retry base] 0 = false := by
    show odd3 (tkR retry base) = false
    unfold odd3
    simp only
    rw [decide_eq_true h0, decide_eq_true h1, decide_eq_true h2, decide_eq_true h3]; rfl
  have hc : noCyc [tkR retry base].length (edFrom 0 [tkR retry base]) := by
    show noCyc 1 []
    decide +kernel
  unfold goodM
  rw [if_neg (by simp)]
  have hr : List.range [tkR retry base].length = [0] := rfl
  rw [hr]
  simp only [List.any_cons, List.any_nil, Bool.or_false, e1, e3]
  have e2 : dup [tkR retry base] 0 = false := rfl
  have e4 : p4 [tkR retry base] 0 = false := rfl
  rw [e2, e4]
  simp only [Bool.false_eq_true, if_false]
  rw [if_pos hc]
theorem new_R {retry base : Int} (h0 : 0 ≤ retry) (h1 : retry ≤ 8) (h2 : 1 ≤ base) (h3 : base ≤ 1000) : newM [tkR retry base] = (rnR retry base 1 0 0 0, 0) := by
  unfold newM
  rw [if_pos (good_R h0 h1 h2 h3)]
  rfl
theorem lease_R {retry base tr til now : Int} (h0 : 0 ≤ tr) (h1 : tr ≤ 100) : leaseM (rnR retry base 1 tr til 0) 0 (tr + 1) now = (rnR retry base 2 (tr + 1) (w64 (now + 7)) 0, 0) := by
  have hm : mayM (rnR retry base 1 tr til 0) 0 = 0 := rfl
  unfold leaseM
  rw [if_pos hm]
  have e : w64 (tr + 1) = tr + 1 := wrap_i64 (by omega) (by omega)
  show (if (1 : Int) = 1 then (if tr + 1 = w64 (tr + 1) then _ else _) else _) = _
  rw [if_pos rfl, if_pos e.symm]
  rfl
theorem fail_R {retry base tr til now : Int} : failM (rnR retry base 2 tr til 0) 0 tr now = (if tr ≤ retry then rnR retry base 5 tr (w64 (now + dM base tr)) 0 else rnR retry base 4 tr 0 2, 0) := by
  have hh : heldM (rnR retry base 2 tr til 0) 0 tr = 0 := by
    unfold heldM
    have hm : mayM (rnR retry base 2 tr til 0) 0 = 0 := rfl
    rw [if_pos hm]
    show (if (2 : Int) = 2 ∧ tr = tr then (0 : Int) else 8) = 0
    rw [if_pos ⟨rfl, rfl⟩]
  unfold failM
  rw [if_pos hh]
  show (failR (rnR retry base 2 tr til 0) 0 ⟨2, tr, til, []⟩ (tkR retry base) now, (0 : Int)) = _
  unfold failR
  simp only
  split <;> rfl
theorem tick_R {retry base tr til now : Int} : tickM (rnR retry base 5 tr til 0) now = if now < til then rnR retry base 5 tr til 0 else rnR retry base 1 tr 0 0 := by
  show tickAt now (rnR retry base 5 tr til 0) 0 = _
  unfold tickAt
  show (if (0 : Int) ≠ 0 ∨ now < til then rnR retry base 5 tr til 0 else if (5 : Int) = 2 then _ else if (5 : Int) = 5 then _ else _) = _
  by_cases h : now < til
  · rw [if_pos (.inr h), if_pos h]
  · rw [if_neg (fun q => q.elim (fun z => z rfl) h), if_neg h, if_neg (by decide), if_pos rfl]
    rfl
theorem next_R {retry base tr til : Int} : nxF (rnR retry base 5 tr til 0).st (rnR retry base 5 tr til 0).rs (0, false) = (til, true) := by
  show nxS 0 ⟨5, tr, til, []⟩ (0, false) = _
  unfold nxS
  rw [if_pos ⟨rfl, .inr rfl, .inl rfl⟩]
theorem retry_loop {retry base : Int} {Q : Nat} (h0 : 0 ≤ retry) (h1 : retry ≤ 8) (h2 : 1 ≤ base) (h3 : base ≤ 1000) : ∀ (m tr : Nat) (H : Hp) (dx tx sx : AV) (xs : List AV) (til now : Int), (tr : Int) + m = retry + 1 → 1 ≤ m → 1 ≤ now → now ≤ 1 + 64000 * tr → Cs H Q (rv dx 0 tx sx) 47 0 → RV H dx xs tx sx (rnR retry base 1 tr til 0) → Q ∉ fpR dx xs tx sx →
    ∃ H', ∀ j55 : K.Fn 0, l_outriderlaw16_RunRetries JN GO cK j55 (.int .i64 retry) (.ptr Q 0) (.int .i64 0) (.int .i64 now) (.int .i64 ((tr + 1 : Nat) : Int)) H = some (.bool true, H')
  | 0, tr, H, dx, tx, sx, xs, til, now, hm, hm1, hw0, hw, hQ, hV, hQd => by omega
  | m + 1, tr, H, dx, tx, sx, xs, til, now, hm, hm1, hw0, hw, hQ, hV, hQd => by
    have er : IntKind.wrap .i64 (retry + 1) = retry + 1 := wrap_i64 (by omega) (by omega)
    have dle : decide (((tr + 1 : Nat) : Int) ≤ retry + 1) = true := decide_eq_true (by omega)
    have hlQ := hQ.1
    have k4 : cellsAt H Q 0 4 = some (rv dx 0 tx sx) := hQ.cellsAt 4 0 (by simp)
    have e1 : ((tr : Nat) : Int) + 1 = ((tr + 1 : Nat) : Int) := by omega
    have hL := lease_c hV (okr_R _ _ _ _ _ _) 0 ((tr + 1 : Nat) : Int) now
    rw [← e1, lease_R (by omega) (by omega), e1] at hL
    obtain ⟨dx1, xs1, tx1, sx1, H1, l1, l2, l3, l4⟩ := hL
    have l1' : cK (.func (.func 18) [] []) [.agg (rv dx 0 tx sx), .int .i64 0, .int .i64 ((tr + 1 : Nat) : Int), .int .i64 now] H = some (.tuple [.agg (rv dx1 0 tx1 sx1), .int .i64 0], H1) := l1
    have o2 := al_out H1 (rv dx1 0 tx1 sx1) 47 0
    have cX := al_cs H1 (rv dx1 0 tx1 sx1) 47 0
    have stX : st 4 (.ptr H1.next 0) (.agg (rv dx1 0 tx1 sx1)) (al H1 [.slice0, (.int .i64 0), .slice0, .slice0] 47 0) = some (al H1 (rv dx1 0 tx1 sx1) 47 0) := st_alN (by simp [l2.v.d.row.one, l2.t.rl.one, l2.s.oneX, oneC_i]) rfl rfl (by decide) rfl
    generalize hA2 : al H1 (rv dx1 0 tx1 sx1) 47 0 = H2 at *
    have kX : cellsAt H2 H1.next 0 4 = some (rv dx1 0 tx1 sx1) := cX.cellsAt 4 0 (by simp)
    have hF := failc_c (l2.v.out0 o2) (okr_R _ _ _ _ _ _) (bd2_R (by omega) (by omega) (by omega) (by omega)) 0 ((tr + 1 : Nat) : Int) now
    rw [fail_R] at hF
    have n1 := l3.nx
    have n2 := o2.nx
    by_cases hlast : m = 0
    · subst hlast
      rw [if_neg (by omega)] at hF
      obtain ⟨dx3, xs3, tx3, sx3, H3, f1, f2, f3, f4⟩ := hF
      have f1' : cK (.func (.func 21) [] []) [.agg (rv dx1 0 tx1 sx1), .int .i64 0, .int .i64 ((tr + 1 : Nat) : Int), .int .i64 now] H2 = some (.tuple [.agg (rv dx3 2 tx3 sx3), .int .i64 0], H3) := f1
      have o4 := al_out H3 (rv dx3 2 tx3 sx3) 47 0
      have cY := al_cs H3 (rv dx3 2 tx3 sx3) 47 0
      have stY : st 4 (.ptr H3.next 0) (.agg (rv dx3 2 tx3 sx3)) (al H3 [.slice0, (.int .i64 0), .slice0, .slice0] 47 0) = some (al H3 (rv dx3 2 tx3 sx3) 47 0) := st_alN (by simp [f2.v.d.row.one, f2.t.rl.one, f2.s.oneX, oneC_i]) rfl rfl (by decide) rfl
      generalize hA4 : al H3 (rv dx3 2 tx3 sx3) 47 0 = H4 at *
      have y1 : cellAt H4 H3.next 1 = some (.int .i64 2) := cY.cellAt rfl
      have y2 : cellAt H4 H3.next 2 = some tx3 := cY.cellAt rfl
      have tl : lenx tx3 = some (.int .i64 1) := f2.v.tlen
      obtain ⟨b, o, q1, q2, q3, q4, q5⟩ := (f2.v.t.out0 o4).at (i := 0) (by decide) (rts_get (t := ⟨4, ((tr + 1 : Nat) : Int), 0, []⟩) rfl)
      have q1' : ia 4 tx3 (.int .i64 0) = some (.ptr b o) := q1 .i64
      have r0 : cellAt H4 b o = some (.int .i64 4) := by have := q5 0 _ (fd_rt _).1; rwa [Nat.add_zero] at this
      have deq : (((tr + 1 : Nat) : Int) == retry + 1) = true := beq_iff_eq.2 (by omega)
      refine ⟨H4, fun j55 => ?_⟩
      rw [ql_outriderlaw16_RunRetries]
      simp (disch := (first | assumption | omega | (simp only [k_d, k_c, Nat.reduceAdd, Nat.reduceLeDiff, Nat.reduceLT] <;> fail) | (simp only [k_c]; omega) | (simp only [k_d, k_c, Nat.reduceAdd, Nat.reduceLeDiff, Nat.reduceLT, *] <;> fail) | fail)) only [bl_outriderlaw16_RunRetries, er, dle, k4, l1', stX, kX, f1', stY, y1, y2, tl, deq, q1', r0, k_a, k_b, Nat.reduceAdd, k_s, k_x, Int.reduceBEq, Int.reduceBNe, Int.reduceLT, Int.reduceLE, Int.reduceGT, Int.reduceGE, Int.reduceNeg]
    · rw [if_pos (by omega)] at hF
      obtain ⟨g1, g2⟩ := dM_bnd (b := base) (t := ((tr + 1 : Nat) : Int)) h2 (by omega)
      have ew : w64 (now + dM base ((tr + 1 : Nat) : Int)) = now + dM base ((tr + 1 : Nat) : Int) := wrap_i64 (by omega) (by omega)
      rw [ew] at hF
      generalize hN : now + dM base ((tr + 1 : Nat) : Int) = N at *
      obtain ⟨dx3, xs3, tx3, sx3, H3, f1, f2, f3, f4⟩ := hF
      have f1' : cK (.func (.func 21) [] []) [.agg (rv dx1 0 tx1 sx1), .int .i64 0, .int .i64 ((tr + 1 : Nat) : Int), .int .i64 now] H2 = some (.tuple [.agg (rv dx3 0 tx3 sx3), .int .i64 0], H3) := f1
      have f2' : RO H3 dx3 xs3 tx3 sx3 (rnR retry base 5 ((tr + 1 : Nat) : Int) N 0) := f2
      have o4 := al_out H3 (rv dx3 0 tx3 sx3) 47 0
      have cY := al_cs H3 (rv dx3 0 tx3 sx3) 47 0
      have stY : st 4 (.ptr H3.next 0) (.agg (rv dx3 0 tx3 sx3)) (al H3 [.slice0, (.int .i64 0), .slice0, .slice0] 47 0) = some (al H3 (rv dx3 0 tx3 sx3) 47 0) := st_alN (by simp [f2'.v.d.row.one, f2'.t.rl.one, f2'.s.oneX, oneC_i]) rfl rfl (by decide) rfl
      generalize hA4 : al H3 (rv dx3 0 tx3 sx3) 47 0 = H4 at *
      have y2 : cellAt H4 H3.next 2 = some tx3 := cY.cellAt rfl
      have y4 : cellsAt H4 H3.next 0 4 = some (rv dx3 0 tx3 sx3) := cY.cellsAt 4 0 (by simp)
      have tl : lenx tx3 = some (.int .i64 1) := f2'.v.tlen
      have deq : (((tr + 1 : Nat) : Int) == retry + 1) = false := beq_false_of_ne (by omega)
      have V4 := f2'.v.out0 o4
      obtain ⟨H5, x1, x2⟩ := next_c V4 (show (1 : Nat) ≤ 1000 by omega)
      rw [next_R] at x1
      have x1' : cK (.func (.func 22) [] []) [.agg (rv dx3 0 tx3 sx3)] H4 = some (.tuple [.int .i64 N, .bool true], H5) := x1
      have y5 : cellsAt H5 H3.next 0 4 = some (rv dx3 0 tx3 sx3) := (cY.out x2 (by simp)).cellsAt 4 0 (by simp)
      have eN : IntKind.wrap .i64 (N - 1) = N - 1 := wrap_i64 (by omega) (by omega)
      have V5 := V4.out0 x2
      have bd5 : Bd2 (rnR retry base 5 ((tr + 1 : Nat) : Int) N 0) := bd2_R (by omega) (by omega) (by omega) (by omega)
      obtain ⟨dx6, xs6, tx6, sx6, H6, t1, t2, t3, t4⟩ := tick_c V5 (okr_R _ _ _ _ _ _) bd5 (N - 1)
      rw [tick_R, if_pos (by omega)] at t1 t2
      have t1' : cK (.func (.func 23) [] []) [.agg (rv dx3 0 tx3 sx3), .int .i64 (N - 1)] H5 = some (.agg (rv dx6 0 tx6 sx6), H6) := t1
      have o7 := al_out H6 (rv dx6 0 tx6 sx6) 47 0
      have cE := al_cs H6 (rv dx6 0 tx6 sx6) 47 0
      have stE : st 4 (.ptr H6.next 0) (.agg (rv dx6 0 tx6 sx6)) (al H6 [.slice0, (.int .i64 0), .slice0, .slice0] 47 0) = some (al H6 (rv dx6 0 tx6 sx6) 47 0) := st_alN (by simp [t2.v.d.row.one, t2.t.rl.one, t2.s.oneX, oneC_i]) rfl rfl (by decide) rfl
      generalize hA7 : al H6 (rv dx6 0 tx6 sx6) 47 0 = H7 at *
      have kE : cellsAt H7 H6.next 0 4 = some (rv dx6 0 tx6 sx6) := cE.cellsAt 4 0 (by simp)
      have o57 := t3.trans o7
      have cY7 := (cY.out x2 (by simp)).out o57 (by simp)
      have y7 : cellsAt H7 H3.next 0 4 = some (rv dx3 0 tx3 sx3) := cY7.cellsAt 4 0 (by simp)
      obtain ⟨H8, s1, s2⟩ := same_rc (okr_R _ _ _ _ _ _).sm (t2.v.out0 o7) (V5.out0 o57)
      have s1' : cK (.func (.func 24) [] []) [.agg (rv dx6 0 tx6 sx6), .agg (rv dx3 0 tx3 sx3)] H7 = some (.bool true, H8) := s1
      have dn : decide (N ≤ now) = false := decide_eq_false (by omega)
      have y8 : cellsAt H8 H3.next 0 4 = some (rv dx3 0 tx3 sx3) := (cY7.out s2 (by simp)).cellsAt 4 0 (by simp)
      obtain ⟨dx9, xs9, tx9, sx9, H9, u1, u2, u3, u4⟩ := tick_c (V5.out0 (o57.trans s2)) (okr_R _ _ _ _ _ _) bd5 N
      rw [tick_R, if_neg (by omega)] at u1 u2
      have u1' : cK (.func (.func 23) [] []) [.agg (rv dx3 0 tx3 sx3), .int .i64 N] H8 = some (.agg (rv dx9 0 tx9 sx9), H9) := u1
      have o09 : Out [] H H9 := (((((l3.trans o2).trans f3).trans o4).trans x2).trans (o57.trans s2)).trans u3
      obtain ⟨H10, w1, w2, w3, w4⟩ := stAll (n := 4) (vs := rv dx9 0 tx9 sx9) (hQ.out o09 (by simp)) rfl rfl (by simp [u2.v.d.row.one, u2.t.rl.one, u2.s.oneX, oneC_i])
      have nn : H.next ≤ H8.next := ((((((l3.trans o2).trans f3).trans o4).trans x2).trans (o57.trans s2))).nx
      have hQ9 : ∀ j ∈ fpR dx9 xs9 tx9 sx9, j ∉ [Q] := fun j hj => by rw [List.mem_singleton]; have := u4 j hj; omega
      have V10 := u2.v.out w3 hQ9
      have e2 : ((tr + 1 : Nat) : Int) + 1 = ((tr + 1 + 1 : Nat) : Int) := by omega
      obtain ⟨H', i1⟩ := retry_loop (Q := Q) h0 h1 h2 h3 m (tr + 1) H10 dx9 tx9 sx9 xs9 0 N (by omega) (by omega) (by omega) (by omega) w2 V10 (fun z => hQ9 Q z (.head _))
      have es : IntKind.wrap .i64 (((tr + 1 : Nat) : Int) + 1) = ((tr + 1 + 1 : Nat) : Int) := by rw [wrap_i64 (by omega) (by omega), e2]
      refine ⟨H', fun j55 => ?_⟩
      rw [ql_outriderlaw16_RunRetries]
      simp (disch := (first | assumption | omega | (simp only [k_d, k_c, Nat.reduceAdd, Nat.reduceLeDiff, Nat.reduceLT] <;> fail) | (simp only [k_c]; omega) | (simp only [k_d, k_c, Nat.reduceAdd, Nat.reduceLeDiff, Nat.reduceLT, *] <;> fail) | fail)) only [bl_outriderlaw16_RunRetries, er, dle, k4, l1', stX, kX, f1', stY, y2, y4, tl, deq, x1', y5, eN, t1', stE, dn, kE, y7, s1', y8, u1', w1, es, i1, k_a, k_b, Nat.reduceAdd, k_s, k_x, Int.reduceBEq, Int.reduceBNe, Int.reduceLT, Int.reduceLE, Int.reduceGT, Int.reduceGE, Int.reduceNeg]
theorem retries_c {retry base : Int} {H : Hp} (hT : hasT H begin0) (hnx : 11 ≤ H.next) : ∃ H', cK (.func (.func 6) [] []) [.int .i64 retry, .int .i64 base] H = some (.bool true, H') := by
  have haw := awake_c2 an hT hnx
  by_cases c0 : retry < 0
  · have d0 : decide (retry < 0) = true := decide_eq_true c0
    refine ⟨H, c_outriderlaw16_RunRetries ?_⟩
    unfold s_outriderlaw16_RunRetries
    simp (disch := (first | assumption | omega | (simp only [k_d, k_c, Nat.reduceAdd, Nat.reduceLeDiff, Nat.reduceLT] <;> fail) | (simp only [k_c]; omega) | (simp only [k_d, k_c, Nat.reduceAdd, Nat.reduceLeDiff, Nat.reduceLT, *] <;> fail) | fail)) only [haw, d0, k_a, k_b, Nat.reduceAdd, k_s, k_x, Int.reduceBEq, Int.reduceBNe, Int.reduceLT, Int.reduceLE, Int.reduceGT, Int.reduceGE, Int.reduceNeg]
  have d0 : decide (retry < 0) = false := decide_eq_false c0
  by_cases c1 : 8 < retry
  · have d1 : decide (8 < retry) = true := decide_eq_true c1
    refine ⟨H, c_outriderlaw16_RunRetries ?_⟩
    unfold s_outriderlaw16_RunRetries
    simp (disch := (first | assumption | omega | (simp only [k_d, k_c, Nat.reduceAdd, Nat.reduceLeDiff, Nat.reduceLT] <;> fail) | (simp only [k_c]; omega) | (simp only [k_d, k_c, Nat.reduceAdd, Nat.reduceLeDiff, Nat.reduceLT, *] <;> fail) | fail)) only [haw, d0, d1, k_a, k_b, Nat.reduceAdd, k_s, k_x, Int.reduceBEq, Int.reduceBNe, Int.reduceLT, Int.reduceLE, Int.reduceGT, Int.reduceGE, Int.reduceNeg]
  have d1 : decide (8 < retry) = false := decide_eq_false c1
  by_cases c2 : base < 1
  · have d2 : decide (base < 1) = true := decide_eq_true c2
    refine ⟨H, c_outriderlaw16_RunRetries ?_⟩
    unfold s_outriderlaw16_RunRetries
    simp (disch := (first | assumption | omega | (simp only [k_d, k_c, Nat.reduceAdd, Nat.reduceLeDiff, Nat.reduceLT] <;> fail) | (simp only [k_c]; omega) | (simp only [k_d, k_c, Nat.reduceAdd, Nat.reduceLeDiff, Nat.reduceLT, *] <;> fail) | fail)) only [haw, d0, d1, d2, k_a, k_b, Nat.reduceAdd, k_s, k_x, Int.reduceBEq, Int.reduceBNe, Int.reduceLT, Int.reduceLE, Int.reduceGT, Int.reduceGE, Int.reduceNeg]
  have d2 : decide (base < 1) = false := decide_eq_false c2
  by_cases c3 : 1000 < base
  · have d3 : decide (1000 < base) = true := decide_eq_true c3
    refine ⟨H, c_outriderlaw16_RunRetries ?_⟩
    unfold s_outriderlaw16_RunRetries
    simp (disch := (first | assumption | omega | (simp only [k_d, k_c, Nat.reduceAdd, Nat.reduceLeDiff, Nat.reduceLT] <;> fail) | (simp only [k_c]; omega) | (simp only [k_d, k_c, Nat.reduceAdd, Nat.reduceLeDiff, Nat.reduceLT, *] <;> fail) | fail)) only [haw, d0, d1, d2, d3, k_a, k_b, Nat.reduceAdd, k_s, k_x, Int.reduceBEq, Int.reduceBNe, Int.reduceLT, Int.reduceLE, Int.reduceGT, Int.reduceGE, Int.reduceNeg]
  have d3 : decide (1000 < base) = false := decide_eq_false c3
  have o1 := al_out H (tkC (tkR retry base) .slice0) 43 0
  have cD := al_cs H (tkC (tkR retry base) .slice0) 43 0
  have hR : RD (al H (tkC (tkR retry base) .slice0) 43 0) (.slice H.next 0 1 1 true 6) [.slice0] [tkR retry base] := by
    refine ⟨rfl, ⟨?_, fun c hc => ?_⟩, fun i x t hx ht => ?_⟩
    · show Rw _ 6 _ (tkC (tkR retry base) .slice0 ++ [])
      rw [List.append_nil]
      exact .mk cD.ro rfl (Nat.le_refl _) rfl
    · rw [show List.zipWith tkC [tkR retry base] [AV.slice0] = [tkC (tkR retry base) .slice0] from rfl, List.mem_singleton] at hc
      subst hc; rfl
    · cases i with
      | zero =>
        simp only [List.getElem?_cons_zero, Option.some.injEq] at hx ht
        subst hx; subst ht
        exact .nil
      | succ i => simp at hx
  have hfl : tkC (tkR retry base) .slice0 = [.str [97], .slice0, .int .i64 retry, .int .i64 7, .int .i64 base, .str []] := rfl
  have hN := new_c hR (show (1 : Nat) ≤ 1000 by omega) (fun t ht => by rw [List.mem_singleton] at ht; subst ht; exact Nat.zero_le _)
  rw [new_R (by omega) (by omega) (by omega) (by omega)] at hN
  obtain ⟨dx3, xs3, tx3, sx3, H3, n1, n2, n3, n4⟩ := hN
  have n1' : cK (.func (.func 17) [] []) [dv (.slice H.next 0 1 1 true 6)] (al H [.str [97], .slice0, .int .i64 retry, .int .i64 7, .int .i64 base, .str []] 43 0) = some (.tuple [.agg (rv dx3 0 tx3 sx3), .int .i64 0], H3) := n1
  have o4 := al_out H3 (rv dx3 0 tx3 sx3) 47 0
  have cY := al_cs H3 (rv dx3 0 tx3 sx3) 47 0
  have stY : st 4 (.ptr H3.next 0) (.agg (rv dx3 0 tx3 sx3)) (al H3 [.slice0, (.int .i64 0), .slice0, .slice0] 47 0) = some (al H3 (rv dx3 0 tx3 sx3) 47 0) := st_alN (by simp [n2.v.d.row.one, n2.t.rl.one, n2.s.oneX, oneC_i]) rfl rfl (by decide) rfl
  have hlt3 := n2.v.lt
  generalize hA4 : al H3 (rv dx3 0 tx3 sx3) 47 0 = H4 at *
  obtain ⟨H', i1⟩ := retry_loop (retry := retry) (base := base) (Q := H3.next) (by omega) (by omega) (by omega) (by omega) (retry.toNat + 1) 0 H4 dx3 tx3 sx3 xs3 0 1 (by omega) (by omega) (by omega) (by omega) cY (n2.v.out0 o4) (fun z => by have := hlt3 _ z; omega)
  rw [show (((0 + 1 : Nat) : Int)) = 1 from rfl] at i1
  refine ⟨H', c_outriderlaw16_RunRetries ?_⟩
  unfold s_outriderlaw16_RunRetries
  simp (disch := (first | assumption | omega | (simp only [k_d, k_c, Nat.reduceAdd, Nat.reduceLeDiff, Nat.reduceLT] <;> fail) | (simp only [k_c]; omega) | (simp only [k_d, k_c, Nat.reduceAdd, Nat.reduceLeDiff, Nat.reduceLT, *] <;> fail) | fail)) only [haw, d0, d1, d2, d3, n1', stY, i1, k_a, k_b, Nat.reduceAdd, k_s, k_x, Int.reduceBEq, Int.reduceBNe, Int.reduceLT, Int.reduceLE, Int.reduceGT, Int.reduceGE, Int.reduceNeg]
theorem retries_top {H : Hp} {as' : List AV} {ds : List D} (h : ArgsIs H [.int .i64, .int .i64] as' ds) (hT : hasT H begin0) (hn : 11 ≤ H.next) : ∃ H', cK (.func (.func 6) [] []) as' H = some (.bool true, H') := by
  cases h with
  | cons h0 h =>
  cases h with
  | cons h1 h =>
  cases h
  obtain ⟨a, rfl, _⟩ := isA_int h0
  obtain ⟨b, rfl, _⟩ := isA_int h1
  exact retries_c hT hn
end Go.Proofs.YthljbjokonglhaaGreatDoor.DfK
