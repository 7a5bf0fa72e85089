/- RunOrder over the symbolic heap: the law. Conditions: the listed variables hold what the row says. -/
import Derived.Test.YthljbjokonglhaaGreatDoorDfD5
import Derived.Handed
import Derived.Test.YthljbjokonglhaaGreatDoorProg
namespace Go.Proofs.YthljbjokonglhaaGreatDoor.DfK
open Go Am Am.K DfEnv DfM LibP DfG
set_option linter.unusedVariables false
set_option linter.unusedSimpArgs false
set_option maxRecDepth 10000
set_option maxHeartbeats 4000000
theorem bself (b : Bool) : (b == b) = true := by cases b <;> rfl
theorem order_loop {Q : Nat} {lx : AV} {acts : List Act} (hna : acts.length ≤ 50) (hQl : Q ∉ rid lx) : ∀ (r : List Act) (i : Nat) (H : Hp) (dx tx sx : AV) (xs : List AV) (R : Rn) (now : Int), i ≤ acts.length → acts.drop i = r → RL H 5 lx (acts.map actC) → Cs H Q (rv dx R.st tx sx) 47 0 → RV H dx xs tx sx R → Q ∉ fpR dx xs tx sx → Inv0 R → stI R → R.sg.length ≤ i → (∀ t ∈ R.ts, t.after.length ≤ 16) →
    ∃ H', ∀ j40 : K.Fn 0, l_outriderlaw16_RunOrder JN GO cK j40 lx (.ptr Q 0) (.int .i64 now) (.int .i64 (i : Nat)) H = j40 H'
  | [], i, H, dx, tx, sx, xs, R, now, hi, h, hL, hQ, hV, hQd, hI, hs, hsg, hal => by
    obtain rfl := drop_nil hi h
    have ll := hL.len (by decide)
    rw [List.length_map] at ll
    refine ⟨H, fun j40 => ?_⟩
    rw [ql_outriderlaw16_RunOrder]
    simp (maxSteps := 4000000) (disch := (first | assumption | omega | (simp only [k_d, k_c, Nat.reduceAdd, Nat.reduceLeDiff, Nat.reduceLT] <;> fail) | (simp only [k_c]; omega) | (simp only [k_d, k_c, Nat.reduceAdd, Nat.reduceLeDiff, Nat.reduceLT, *] <;> fail) | fail)) only [bl_outriderlaw16_RunOrder, ll, lt_f, k_a, k_b, Nat.reduceAdd, k_s, k_x, Int.reduceBEq, Int.reduceBNe, Int.reduceLT, Int.reduceLE, Int.reduceGT, Int.reduceGE, Int.reduceNeg]
  | a :: r, i, H, dx, tx, sx, xs, R, now, hi, h, hL, hQ, hV, hQd, hI, hs, hsg, hal => by
    obtain ⟨h1, h2, h3⟩ := hd_drop h
    have ll := hL.len (by decide)
    rw [List.length_map] at ll
    have es := wrap_s h1 (by omega)
    have hlQ := hQ.1
    have k4 : cellsAt H Q 0 4 = some (rv dx R.st tx sx) := hQ.cellsAt 4 0 (by simp)
    have ones : (rv dx R.st tx sx).all oneC = true := by simp [hV.d.row.one, hV.t.one, hV.s.one, oneC_i]
    have o1 := al_out H (rv dx R.st tx sx) 47 0
    have cW := al_cs H (rv dx R.st tx sx) 47 0
    have stW : st 4 (.ptr H.next 0) (.agg (rv dx R.st tx sx)) (al H [.slice0, (.int .i64 0), .slice0, .slice0] 47 0) = some (al H (rv dx R.st tx sx) 47 0) := st_alN ones rfl rfl (by decide) rfl
    have n1 : (al H (rv dx R.st tx sx) 47 0).next = H.next + 1 := rfl
    generalize hA1 : al H (rv dx R.st tx sx) 47 0 = H1 at *
    have o2 := al_out H1 (rv dx R.st tx sx) 47 0
    have cX := al_cs H1 (rv dx R.st tx sx) 47 0
    have stX : st 4 (.ptr H1.next 0) (.agg (rv dx R.st tx sx)) (al H1 [.slice0, (.int .i64 0), .slice0, .slice0] 47 0) = some (al H1 (rv dx R.st tx sx) 47 0) := st_alN ones rfl rfl (by decide) rfl
    have n2 : (al H1 (rv dx R.st tx sx) 47 0).next = H.next + 2 := by rw [al_nx, n1]
    rw [n1] at stX cX
    have cQ1 := hQ.out o1 (by simp)
    have cQ2 := cQ1.out o2 (by simp)
    have cW2 := cW.out o2 (by simp)
    have k41 : cellsAt H1 Q 0 4 = some (rv dx R.st tx sx) := cQ1.cellsAt 4 0 (by simp)
    generalize hA2 : al H1 (rv dx R.st tx sx) 47 0 = H2 at *
    have o12 := o1.trans o2
    have ha : (acts.map actC)[i]? = some (actC a) := by rw [List.getElem?_map, h2]; rfl
    obtain ⟨b, o, p1, p2, p3, p4, p5⟩ := (hL.out0 o1).at (by decide) ha
    have f3 : cellAt H1 b (o + 3) = some (.int .i64 a.n) := p5 3 _ rfl
    have g0 : cellAt H2 b o = some (.int .i64 a.op) := by rw [o2.cellAt p3 (by simp)]; have := p5 0 _ (show (actC a)[0]? = _ from rfl); rwa [Nat.add_zero] at this
    have g1 : cellAt H2 b (o + 1) = some (.int .i64 a.task) := by rw [o2.cellAt p3 (by simp)]; exact p5 1 _ rfl
    obtain ⟨z, z1, z2⟩ := and_le (a := a.n) (m := 63) (by omega)
    obtain ⟨y, y1, y2⟩ := and_le (a := a.task) (m := 15) (by omega)
    have z1' : iand (.int .i64 a.n) (.int .i64 63) = some (.int .i64 (z : Int)) := z1
    have y1' : iand (.int .i64 a.task) (.int .i64 15) = some (.int .i64 (y : Int)) := y1
    have hn1 := hI.n1
    have hn2 := hI.n2
    have hrem : irem (.int .i64 (y : Int)) (.int .i64 (R.rs.length : Nat)) = some (.int .i64 ((y % R.rs.length : Nat) : Int)) := by
      rw [irem_i _ _ _ (by omega), Int.tmod_eq_emod_of_nonneg (by omega)]; rfl
    have ht0 : y % R.rs.length < R.rs.length := Nat.mod_lt _ (by omega)
    generalize y % R.rs.length = t at *
    generalize hnow : IntKind.wrap .i64 (now + (z : Int)) = now' at *
    have tl := hV.tlen
    have dl := hV.d.lenx
    rw [← hI.ok.len] at dl
    have c0 : cellAt H2 Q 0 = some dx := cQ2.cellAt rfl
    have c2 : cellAt H2 Q 2 = some tx := cQ2.cellAt rfl
    have c4 : cellsAt H2 Q 0 4 = some (rv dx R.st tx sx) := cQ2.cellsAt 4 0 (by simp)
    have V2 := hV.out0 o12
    have dn0 : (((R.rs.length : Nat) : Int) == 0) = false := beq_false_of_ne (by omega)
    have hu : R.rs[t]? = some R.rs[t] := List.getElem?_eq_getElem ht0
    have hd : R.ts[t]? = some (R.ts[t]'(by rw [← hI.ok.len]; exact ht0)) := List.getElem?_eq_getElem _
    generalize R.rs[t] = u at *
    generalize R.ts[t]'(by rw [← hI.ok.len]; exact ht0) = d at *
    obtain ⟨cb, oe, q1, q2, q3, q4, q5⟩ := V2.t.at (by decide) (rts_get hu)
    have ut : cellAt H2 cb (oe + 1) = some (.int .i64 u.tr) := q5 1 _ (fd_rt u).2.1
    obtain ⟨x, e', oe', w1, w2, w3, w4, w5, w6⟩ := V2.d.at2 hd
    have don : cellAt H2 e' (oe' + 5) = some (.str d.on) := w6 5 _ rfl
    have hQf := hV.lt
    have hll := hL.1.lt
    -- the rest of a round
    have rest : ∀ (H5 : Hp) (dx1 tx1 sx1 : AV) (xs1 : List AV) (R1 : Rn), Out [Q, H.next + 1] H2 H5 → Cs H5 Q (rv dx1 R1.st tx1 sx1) 47 0 → RV H5 dx1 xs1 tx1 sx1 R1 → Q ∉ fpR dx1 xs1 tx1 sx1 → Inv0 R1 → stI R1 → Step R R1 →
        ∃ H' H6, (∀ (j40 : K.Fn 0) (j50 : K.Fn 4) (j297 : K.Fn 5), l_outriderlaw16_RunOrder1 JN GO cK j40 j50 j297 lx (.ptr Q 0) (.int .i64 now') (.int .i64 (i : Nat)) (.ptr H.next 0) (.int .i64 0) (.int .i64 0) H5 = j297 lx (.ptr Q 0) (.int .i64 now') (.int .i64 (i : Nat)) (.int .i64 (R1.rs.countP u3 : Nat)) H6) ∧ cellAt H5 Q 0 = some dx1 ∧ cellAt H5 Q 2 = some tx1 ∧ cellAt H5 H.next 2 = some tx ∧ lenx dx1 = some (.int .i64 (R.rs.length : Nat)) ∧ lenx tx1 = some (.int .i64 (R.rs.length : Nat)) ∧ cellAt H6 Q 1 = some (.int .i64 R1.st) ∧ cellAt H6 Q 2 = some tx1 ∧ (R1.st == 1) = (((R1.rs.countP u3 : Nat) : Int) == ((R.rs.length : Nat) : Int)) ∧ ∀ j40 : K.Fn 0, l_outriderlaw16_RunOrder JN GO cK j40 lx (.ptr Q 0) (.int .i64 now') (.int .i64 ((i + 1 : Nat) : Int)) H6 = j40 H' := by
      intro H5 dx1 tx1 sx1 xs1 R1 k5 a1 a2 a3 a4 a5 a6
      have hno : ∀ j, j < H.next → j ≠ Q → j ∉ [Q, H.next + 1] := fun j hj hne z => by
        simp only [List.mem_cons, List.not_mem_nil, or_false] at z; omega
      have hW5 : Cs H5 H.next (rv dx R.st tx sx) 47 0 := cW2.out k5 (by simp only [List.mem_cons, List.not_mem_nil, or_false]; omega)
      have V5 := V2.out k5 fun j hj => hno j (hQf j hj) fun z => hQd (z ▸ hj)
      have hal1 : ∀ t ∈ R1.ts, t.after.length ≤ 16 := by rw [a6.ts]; exact hal
      obtain ⟨H6, m1, m2⟩ := ord1_loop (a0 := lx) (a2 := .int .i64 now') (a3 := .int .i64 (i : Nat)) a4 a6 hal1 R1.rs.length 0 H5 (by omega) a1 a2 hW5 V5
      rw [List.take_zero, show (((List.countP u3 ([] : List RT) : Nat) : Int)) = 0 from rfl, show (((0 : Nat) : Int)) = 0 from rfl] at m1
      have c6 := a1.out m2 (by simp)
      have hL6 := ((hL.out0 o12).out k5 fun j hj => hno j (hll j hj) fun z => hQl (z ▸ hj)).out0 m2
      have sg1 := a6.sg
      obtain ⟨H', i1⟩ := order_loop hna hQl r (i + 1) H6 dx1 tx1 sx1 xs1 R1 now' h1 h3 hL6 c6 (a2.out0 m2) a3 a4 a5 (by omega) hal1
      have tl1 := a2.tlen
      have dl1 := a2.d.lenx
      rw [a6.len] at tl1
      rw [a6.ts, ← hI.ok.len] at dl1
      refine ⟨H', H6, m1, a1.cellAt rfl, a1.cellAt rfl, hW5.cellAt rfl, dl1, tl1, c6.cellAt rfl, c6.cellAt rfl, ?_, i1⟩
      rw [Bool.eq_iff_iff, beq_iff_eq, beq_iff_eq]
      unfold stI at a5
      rw [a5, ← a6.len]
      have hc : (∀ r ∈ R1.rs, r.ph = 3) ↔ R1.rs.countP u3 = R1.rs.length := by
        rw [List.countP_eq_length]
        exact ⟨fun q r hr => by unfold u3; rw [q r hr]; rfl, fun q r hr => by have := q r hr; unfold u3 at this; simpa using this⟩
      rw [hc]; omega
    -- a call's answer is laid into x, and into r where there is no error
    have call : ∀ (H3 : Hp) (dx1 tx1 sx1 : AV) (xs1 : List AV) (R1 : Rn), Out [] H2 H3 → RO H3 dx1 xs1 tx1 sx1 R1 → (∀ j ∈ fpR dx1 xs1 tx1 sx1, H2.next ≤ j) → ∃ H4, st 4 (.ptr (H.next + 1) 0) (.agg (rv dx1 R1.st tx1 sx1)) H3 = some H4 ∧ Cs H4 (H.next + 1) (rv dx1 R1.st tx1 sx1) 47 0 ∧ cellsAt H4 (H.next + 1) 0 4 = some (rv dx1 R1.st tx1 sx1) ∧ Out [Q, H.next + 1] H2 H4 ∧ RV H4 dx1 xs1 tx1 sx1 R1 ∧ Cs H4 Q (rv dx R.st tx sx) 47 0 ∧ RV H4 dx xs tx sx R ∧
        ∃ H5, st 4 (.ptr Q 0) (.agg (rv dx1 R1.st tx1 sx1)) H4 = some H5 ∧ Cs H5 Q (rv dx1 R1.st tx1 sx1) 47 0 ∧ Out [Q, H.next + 1] H2 H5 ∧ RV H5 dx1 xs1 tx1 sx1 R1 ∧ Q ∉ fpR dx1 xs1 tx1 sx1 := by
      intro H3 dx1 tx1 sx1 xs1 R1 k3 r2 r4
      have on1 : (rv dx1 R1.st tx1 sx1).all oneC = true := by simp [r2.v.d.row.one, r2.t.rl.one, r2.s.oneX, oneC_i]
      obtain ⟨H4, s1, s2, s3, s4⟩ := stAll (n := 4) (vs := rv dx1 R1.st tx1 sx1) (cX.out k3 (by simp)) rfl rfl on1
      have V4 := r2.v.out s3 fun j hj => by rw [List.mem_singleton]; have := r4 j hj; omega
      have cQ4 := (cQ2.out k3 (by simp)).out s3 (by rw [List.mem_singleton]; omega)
      obtain ⟨H5, t1, t2, t3, t4⟩ := stAll (n := 4) (vs := rv dx1 R1.st tx1 sx1) cQ4 rfl rfl on1
      have hq : Q ∉ fpR dx1 xs1 tx1 sx1 := fun z => by have := r4 _ z; omega
      have k4' : Out [Q, H.next + 1] H2 H4 := (k3.mono fun j hj => by cases hj).trans (s3.mono fun j hj => by rw [List.mem_singleton] at hj; subst hj; simp)
      have VQ := V2.out k4' fun j hj z => by
        simp only [List.mem_cons, List.not_mem_nil, or_false] at z
        rcases z with z | z
        · exact hQd (z ▸ hj)
        · have := hQf j hj; omega
      exact ⟨H4, s1, s2, s2.cellsAt 4 0 (by simp), k4', V4, cQ4, VQ, H5, t1, t2, k4'.trans (t3.mono fun j hj => by rw [List.mem_singleton] at hj; subst hj; simp), V4.out t3 (fun j hj => by rw [List.mem_singleton]; intro q; subst q; exact hq hj), hq⟩
    by_cases o0 : a.op = 0
    · have e0 : (a.op == 0) = true := by simp [o0]
      obtain ⟨dx1, xs1, tx1, sx1, H3, r1, r2, r3, r4⟩ := lease_c V2 hI.ok ((t : Nat) : Int) (w64 (u.tr + 1)) now'
      obtain ⟨H4, s1, s2, s3, s4, s5, s6, s7, H5, t1, t2, t3, t4, t5⟩ := call H3 dx1 tx1 sx1 xs1 _ r3 r2 r4
      have gd := lease_good hI hs ((t : Nat) : Int) now' u (by rw [Int.toNat_natCast]; exact hu)
      by_cases he : (leaseM R ((t : Nat) : Int) (w64 (u.tr + 1)) now').2 = 0
      · obtain ⟨v1, v2, v3⟩ := gd he
        rw [he] at r1
        obtain ⟨H', H6, m1, m2, m3, m4, m5, m6, m7, m8, m9, m10⟩ := rest H5 dx1 tx1 sx1 xs1 _ t3 t2 t4 t5 v1 v2 v3
        refine ⟨H', fun j40 => ?_⟩
        rw [ql_outriderlaw16_RunOrder]
        simp (maxSteps := 4000000) (disch := (first | assumption | omega | (simp only [k_d, k_c, Nat.reduceAdd, Nat.reduceLeDiff, Nat.reduceLT] <;> fail) | (simp only [k_c]; omega) | (simp only [k_d, k_c, Nat.reduceAdd, Nat.reduceLeDiff, Nat.reduceLT, *] <;> fail) | fail)) only [bl_outriderlaw16_RunOrder, ll, lt_t h1, k4, stW, p1, f3, z1', hnow, k41, n1, stX, c0, c2, tl, dl, dn0, g1, y1', hrem, g0, c4, q1, ut, w1, don, e0, r1, s1, s3, t1, m1, m2, m3, m4, m5, m6, m7, m8, m9, m10, bself, es, k_a, k_b, Nat.reduceAdd, k_s, k_x, Int.reduceBEq, Int.reduceBNe, Int.reduceLT, Int.reduceLE, Int.reduceGT, Int.reduceGE, Int.reduceNeg]
      · have de : ((leaseM R ((t : Nat) : Int) (w64 (u.tr + 1)) now').2 == 0) = false := by simp [he]
        obtain ⟨H', H6, m1, m2, m3, m4, m5, m6, m7, m8, m9, m10⟩ := rest H4 dx tx sx xs R s4 s6 s7 hQd hI hs (Step.refl R)
        refine ⟨H', fun j40 => ?_⟩
        rw [ql_outriderlaw16_RunOrder]
        simp (maxSteps := 4000000) (disch := (first | assumption | omega | (simp only [k_d, k_c, Nat.reduceAdd, Nat.reduceLeDiff, Nat.reduceLT] <;> fail) | (simp only [k_c]; omega) | (simp only [k_d, k_c, Nat.reduceAdd, Nat.reduceLeDiff, Nat.reduceLT, *] <;> fail) | fail)) only [bl_outriderlaw16_RunOrder, ll, lt_t h1, k4, stW, p1, f3, z1', hnow, k41, n1, stX, c0, c2, tl, dl, dn0, g1, y1', hrem, g0, c4, q1, ut, w1, don, e0, r1, s1, de, m1, m2, m3, m4, m5, m6, m7, m8, m9, m10, bself, es, k_a, k_b, Nat.reduceAdd, k_s, k_x, Int.reduceBEq, Int.reduceBNe, Int.reduceLT, Int.reduceLE, Int.reduceGT, Int.reduceGE, Int.reduceNeg]
    by_cases o1' : a.op = 1
    · have e0 : (a.op == 0) = false := by simp [o0]
      have e1 : (a.op == 1) = true := by simp [o1']
      obtain ⟨dx1, xs1, tx1, sx1, H3, r1, r2, r3, r4⟩ := done_c V2 hI.ok ((t : Nat) : Int) u.tr []
      obtain ⟨H4, s1, s2, s3, s4, s5, s6, s7, H5, t1, t2, t3, t4, t5⟩ := call H3 dx1 tx1 sx1 xs1 _ r3 r2 r4
      have gd := done_good hI hs ((t : Nat) : Int) u.tr []
      by_cases he : (doneM R ((t : Nat) : Int) u.tr []).2 = 0
      · obtain ⟨v1, v2, v3⟩ := gd he
        rw [he] at r1
        obtain ⟨H', H6, m1, m2, m3, m4, m5, m6, m7, m8, m9, m10⟩ := rest H5 dx1 tx1 sx1 xs1 _ t3 t2 t4 t5 v1 v2 v3
        refine ⟨H', fun j40 => ?_⟩
        rw [ql_outriderlaw16_RunOrder]
        simp (maxSteps := 4000000) (disch := (first | assumption | omega | (simp only [k_d, k_c, Nat.reduceAdd, Nat.reduceLeDiff, Nat.reduceLT] <;> fail) | (simp only [k_c]; omega) | (simp only [k_d, k_c, Nat.reduceAdd, Nat.reduceLeDiff, Nat.reduceLT, *] <;> fail) | fail)) only [bl_outriderlaw16_RunOrder, ll, lt_t h1, k4, stW, p1, f3, z1', hnow, k41, n1, stX, c0, c2, tl, dl, dn0, g1, y1', hrem, g0, c4, q1, ut, w1, don, e0, e1, r1, s1, s3, t1, m1, m2, m3, m4, m5, m6, m7, m8, m9, m10, bself, es, k_a, k_b, Nat.reduceAdd, k_s, k_x, Int.reduceBEq, Int.reduceBNe, Int.reduceLT, Int.reduceLE, Int.reduceGT, Int.reduceGE, Int.reduceNeg]
      · have de : ((doneM R ((t : Nat) : Int) u.tr []).2 == 0) = false := by simp [he]
        obtain ⟨H', H6, m1, m2, m3, m4, m5, m6, m7, m8, m9, m10⟩ := rest H4 dx tx sx xs R s4 s6 s7 hQd hI hs (Step.refl R)
        refine ⟨H', fun j40 => ?_⟩
        rw [ql_outriderlaw16_RunOrder]
        simp (maxSteps := 4000000) (disch := (first | assumption | omega | (simp only [k_d, k_c, Nat.reduceAdd, Nat.reduceLeDiff, Nat.reduceLT] <;> fail) | (simp only [k_c]; omega) | (simp only [k_d, k_c, Nat.reduceAdd, Nat.reduceLeDiff, Nat.reduceLT, *] <;> fail) | fail)) only [bl_outriderlaw16_RunOrder, ll, lt_t h1, k4, stW, p1, f3, z1', hnow, k41, n1, stX, c0, c2, tl, dl, dn0, g1, y1', hrem, g0, c4, q1, ut, w1, don, e0, e1, r1, s1, de, m1, m2, m3, m4, m5, m6, m7, m8, m9, m10, bself, es, k_a, k_b, Nat.reduceAdd, k_s, k_x, Int.reduceBEq, Int.reduceBNe, Int.reduceLT, Int.reduceLE, Int.reduceGT, Int.reduceGE, Int.reduceNeg]
    by_cases o2' : a.op = 2
    · have e0 : (a.op == 0) = false := by simp [o0]
      have e1 : (a.op == 1) = false := by simp [o1']
      have e2 : (a.op == 2) = true := by simp [o2']
      obtain ⟨dx1, xs1, tx1, sx1, H3, r1, r2, r3, r4⟩ := failc_c V2 hI.ok hI.bd ((t : Nat) : Int) u.tr now'
      obtain ⟨H4, s1, s2, s3, s4, s5, s6, s7, H5, t1, t2, t3, t4, t5⟩ := call H3 dx1 tx1 sx1 xs1 _ r3 r2 r4
      have gd := fail_good hI hs ((t : Nat) : Int) u.tr now'
      by_cases he : (failM R ((t : Nat) : Int) u.tr now').2 = 0
      · obtain ⟨v1, v2, v3⟩ := gd he
        rw [he] at r1
        obtain ⟨H', H6, m1, m2, m3, m4, m5, m6, m7, m8, m9, m10⟩ := rest H5 dx1 tx1 sx1 xs1 _ t3 t2 t4 t5 v1 v2 v3
        refine ⟨H', fun j40 => ?_⟩
        rw [ql_outriderlaw16_RunOrder]
        simp (maxSteps := 4000000) (disch := (first | assumption | omega | (simp only [k_d, k_c, Nat.reduceAdd, Nat.reduceLeDiff, Nat.reduceLT] <;> fail) | (simp only [k_c]; omega) | (simp only [k_d, k_c, Nat.reduceAdd, Nat.reduceLeDiff, Nat.reduceLT, *] <;> fail) | fail)) only [bl_outriderlaw16_RunOrder, ll, lt_t h1, k4, stW, p1, f3, z1', hnow, k41, n1, stX, c0, c2, tl, dl, dn0, g1, y1', hrem, g0, c4, q1, ut, w1, don, e0, e1, e2, r1, s1, s3, t1, m1, m2, m3, m4, m5, m6, m7, m8, m9, m10, bself, es, k_a, k_b, Nat.reduceAdd, k_s, k_x, Int.reduceBEq, Int.reduceBNe, Int.reduceLT, Int.reduceLE, Int.reduceGT, Int.reduceGE, Int.reduceNeg]
      · have de : ((failM R ((t : Nat) : Int) u.tr now').2 == 0) = false := by simp [he]
        obtain ⟨H', H6, m1, m2, m3, m4, m5, m6, m7, m8, m9, m10⟩ := rest H4 dx tx sx xs R s4 s6 s7 hQd hI hs (Step.refl R)
        refine ⟨H', fun j40 => ?_⟩
        rw [ql_outriderlaw16_RunOrder]
        simp (maxSteps := 4000000) (disch := (first | assumption | omega | (simp only [k_d, k_c, Nat.reduceAdd, Nat.reduceLeDiff, Nat.reduceLT] <;> fail) | (simp only [k_c]; omega) | (simp only [k_d, k_c, Nat.reduceAdd, Nat.reduceLeDiff, Nat.reduceLT, *] <;> fail) | fail)) only [bl_outriderlaw16_RunOrder, ll, lt_t h1, k4, stW, p1, f3, z1', hnow, k41, n1, stX, c0, c2, tl, dl, dn0, g1, y1', hrem, g0, c4, q1, ut, w1, don, e0, e1, e2, r1, s1, de, m1, m2, m3, m4, m5, m6, m7, m8, m9, m10, bself, es, k_a, k_b, Nat.reduceAdd, k_s, k_x, Int.reduceBEq, Int.reduceBNe, Int.reduceLT, Int.reduceLE, Int.reduceGT, Int.reduceGE, Int.reduceNeg]
    by_cases o3' : a.op = 3
    · have e0 : (a.op == 0) = false := by simp [o0]
      have e1 : (a.op == 1) = false := by simp [o1']
      have e2 : (a.op == 2) = false := by simp [o2']
      have e3 : (a.op == 3) = true := by simp [o3']
      obtain ⟨dx1, xs1, tx1, sx1, H3, r1, r2, r3, r4⟩ := tick_c V2 hI.ok hI.bd now'
      obtain ⟨H4, s1, s2, s3, s4, s5, s6, s7, H5, t1, t2, t3, t4, t5⟩ := call H3 dx1 tx1 sx1 xs1 _ r3 r2 r4
      obtain ⟨v1, v2, v3, _⟩ := tickN_good (now := now') R.rs.length 0 R hI hs
      obtain ⟨H', H6, m1, m2, m3, m4, m5, m6, m7, m8, m9, m10⟩ := rest H5 dx1 tx1 sx1 xs1 (tickM R now') t3 t2 t4 t5 v1 v2 v3
      refine ⟨H', fun j40 => ?_⟩
      rw [ql_outriderlaw16_RunOrder]
      simp (maxSteps := 4000000) (disch := (first | assumption | omega | (simp only [k_d, k_c, Nat.reduceAdd, Nat.reduceLeDiff, Nat.reduceLT] <;> fail) | (simp only [k_c]; omega) | (simp only [k_d, k_c, Nat.reduceAdd, Nat.reduceLeDiff, Nat.reduceLT, *] <;> fail) | fail)) only [bl_outriderlaw16_RunOrder, ll, lt_t h1, k4, stW, p1, f3, z1', hnow, k41, n1, stX, c0, c2, tl, dl, dn0, g1, y1', hrem, g0, c4, q1, ut, w1, don, e0, e1, e2, e3, r1, s1, s3, t1, m1, m2, m3, m4, m5, m6, m7, m8, m9, m10, bself, es, k_a, k_b, Nat.reduceAdd, k_s, k_x, Int.reduceBEq, Int.reduceBNe, Int.reduceLT, Int.reduceLE, Int.reduceGT, Int.reduceGE, Int.reduceNeg]
    · have e0 : (a.op == 0) = false := by simp [o0]
      have e1 : (a.op == 1) = false := by simp [o1']
      have e2 : (a.op == 2) = false := by simp [o2']
      have e3 : (a.op == 3) = false := by simp [o3']
      obtain ⟨dx1, xs1, tx1, sx1, H3, r1, r2, r3, r4⟩ := signal_c V2 hI.ok (by omega) d.on
      obtain ⟨H4, s1, s2, s3, s4, s5, s6, s7, H5, t1, t2, t3, t4, t5⟩ := call H3 dx1 tx1 sx1 xs1 _ r3 r2 r4
      have gd := signal_good hI hs d.on (by omega)
      by_cases he : (signalM R d.on).2 = 0
      · obtain ⟨v1, v2, v3⟩ := gd he
        rw [he] at r1
        obtain ⟨H', H6, m1, m2, m3, m4, m5, m6, m7, m8, m9, m10⟩ := rest H5 dx1 tx1 sx1 xs1 _ t3 t2 t4 t5 v1 v2 v3
        refine ⟨H', fun j40 => ?_⟩
        rw [ql_outriderlaw16_RunOrder]
        simp (maxSteps := 4000000) (disch := (first | assumption | omega | (simp only [k_d, k_c, Nat.reduceAdd, Nat.reduceLeDiff, Nat.reduceLT] <;> fail) | (simp only [k_c]; omega) | (simp only [k_d, k_c, Nat.reduceAdd, Nat.reduceLeDiff, Nat.reduceLT, *] <;> fail) | fail)) only [bl_outriderlaw16_RunOrder, ll, lt_t h1, k4, stW, p1, f3, z1', hnow, k41, n1, stX, c0, c2, tl, dl, dn0, g1, y1', hrem, g0, c4, q1, ut, w1, don, e0, e1, e2, e3, r1, s1, s3, t1, m1, m2, m3, m4, m5, m6, m7, m8, m9, m10, bself, es, k_a, k_b, Nat.reduceAdd, k_s, k_x, Int.reduceBEq, Int.reduceBNe, Int.reduceLT, Int.reduceLE, Int.reduceGT, Int.reduceGE, Int.reduceNeg]
      · have de : ((signalM R d.on).2 == 0) = false := by simp [he]
        obtain ⟨H', H6, m1, m2, m3, m4, m5, m6, m7, m8, m9, m10⟩ := rest H4 dx tx sx xs R s4 s6 s7 hQd hI hs (Step.refl R)
        refine ⟨H', fun j40 => ?_⟩
        rw [ql_outriderlaw16_RunOrder]
        simp (maxSteps := 4000000) (disch := (first | assumption | omega | (simp only [k_d, k_c, Nat.reduceAdd, Nat.reduceLeDiff, Nat.reduceLT] <;> fail) | (simp only [k_c]; omega) | (simp only [k_d, k_c, Nat.reduceAdd, Nat.reduceLeDiff, Nat.reduceLT, *] <;> fail) | fail)) only [bl_outriderlaw16_RunOrder, ll, lt_t h1, k4, stW, p1, f3, z1', hnow, k41, n1, stX, c0, c2, tl, dl, dn0, g1, y1', hrem, g0, c4, q1, ut, w1, don, e0, e1, e2, e3, r1, s1, de, m1, m2, m3, m4, m5, m6, m7, m8, m9, m10, bself, es, k_a, k_b, Nat.reduceAdd, k_s, k_x, Int.reduceBEq, Int.reduceBNe, Int.reduceLT, Int.reduceLE, Int.reduceGT, Int.reduceGE, Int.reduceNeg]
end Go.Proofs.YthljbjokonglhaaGreatDoor.DfK
namespace Go.Proofs.YthljbjokonglhaaGreatDoor.DfK
open Go Am Am.K DfEnv DfM LibP DfG
set_option linter.unusedVariables false
set_option linter.unusedSimpArgs false
set_option maxRecDepth 10000
set_option maxHeartbeats 1000000
theorem new_inv {ts : List Tk} (hg : goodM ts = 0) (h1 : 1 ≤ ts.length) (h2 : ts.length ≤ 16) (ha : aftAll ts) (hq : ∀ t ∈ ts, odd1 t = false ∧ odd3 t = false) : Inv0 (newM ts).1 ∧ stI (newM ts).1 ∧ (newM ts).1.sg.length = 0 ∧ (newM ts).1.ts = ts ∧ (newM ts).2 = 0 := by
  unfold newM
  rw [if_pos hg]
  have hal := after_le h2 ha
  have h0 : Inv0 ⟨ts, 0, List.replicate ts.length rt0, []⟩ := by
    refine ⟨⟨⟨by show ts.length ≤ 1000; omega, fun t ht => by have := hal t ht; omega, by show (List.replicate ts.length rt0).length ≤ 1000; rw [List.length_replicate]; omega, Nat.zero_le _⟩, by show (List.replicate ts.length rt0).length = ts.length; rw [List.length_replicate], fun t ht a haa => ?_⟩, by show 1 ≤ (List.replicate ts.length rt0).length; rw [List.length_replicate]; exact h1, by show (List.replicate ts.length rt0).length ≤ 16; rw [List.length_replicate]; exact h2, fun t ht => ?_, fun i t r ht hr => ?_⟩
    · obtain ⟨i, hi⟩ := List.getElem?_of_mem ht
      have := (aft_all ha hi).1 a haa
      exact ⟨this.1, by show a < (ts.length : Int); omega⟩
    · have := (hq t ht).2
      unfold odd3 at this
      simp only [Bool.or_eq_false_iff, Bool.not_eq_false', Bool.and_eq_true, decide_eq_true_eq] at this
      omega
    · have := List.mem_of_getElem? hr
      have e : r = rt0 := (List.mem_replicate.1 this).2
      subst e
      have ho := (hq t (List.mem_of_getElem? ht)).2
      unfold odd3 at ho
      simp only [Bool.or_eq_false_iff, Bool.not_eq_false', Bool.and_eq_true, decide_eq_true_eq] at ho
      exact ⟨by show (0 : Int) ≤ 0; omega, by show (0 : Int) ≤ t.retry + 1; omega, fun _ => by show (0 : Int) ≤ t.retry; omega, fun z => absurd rfl z⟩
  exact ⟨(settle_inv h0).1, settle_stI h0.ok.len (by show (0 : Int) ≠ 1; decide), rfl, rfl, rfl⟩
theorem runOrder_c {text : Str} {lx : AV} {acts : List Act} {H : Hp} (hL : RL H 5 lx (acts.map actC)) (hT : hasT H begin0) (hnx : 11 ≤ H.next) : ∃ H', cK (.func (.func 7) [] []) [.str text, lx] H = some (.bool true, H') := by
  have haw := awake_c2 an hT hnx
  have hg := Gl.of hT hnx
  have ll := hL.len (by decide)
  rw [List.length_map] at ll
  by_cases c0 : 400 < text.length
  · have d0 : decide ((400 : Int) < (text.length : Int)) = true := decide_eq_true (by omega)
    refine ⟨H, c_outriderlaw16_RunOrder ?_⟩
    unfold s_outriderlaw16_RunOrder
    simp (disch := (first | assumption | omega | (simp only [k_d, k_c, Nat.reduceAdd, Nat.reduceLeDiff, Nat.reduceLT] <;> fail) | (simp only [k_c]; omega) | (simp only [k_d, k_c, Nat.reduceAdd, Nat.reduceLeDiff, Nat.reduceLT, *] <;> fail) | fail)) only [haw, d0, k_a, k_b, Nat.reduceAdd, k_s, k_x, Int.reduceBEq, Int.reduceBNe, Int.reduceLT, Int.reduceLE, Int.reduceGT, Int.reduceGE, Int.reduceNeg]
  have d0 : decide ((400 : Int) < (text.length : Int)) = false := decide_eq_false (by omega)
  by_cases c1 : 50 < acts.length
  · have d1 : decide ((50 : Int) < (acts.length : Int)) = true := decide_eq_true (by omega)
    refine ⟨H, c_outriderlaw16_RunOrder ?_⟩
    unfold s_outriderlaw16_RunOrder
    simp (disch := (first | assumption | omega | (simp only [k_d, k_c, Nat.reduceAdd, Nat.reduceLeDiff, Nat.reduceLT] <;> fail) | (simp only [k_c]; omega) | (simp only [k_d, k_c, Nat.reduceAdd, Nat.reduceLeDiff, Nat.reduceLT, *] <;> fail) | fail)) only [haw, d0, ll, d1, k_a, k_b, Nat.reduceAdd, k_s, k_x, Int.reduceBEq, Int.reduceBNe, Int.reduceLT, Int.reduceLE, Int.reduceGT, Int.reduceGE, Int.reduceNeg]
  have d1 : decide ((50 : Int) < (acts.length : Int)) = false := decide_eq_false (by omega)
  obtain ⟨dx, xs, tx, sx, H1, p1, p2, p3, p4⟩ := begun_c (text := text) hg
  have o1 := al_out H1 (rv dx (begunM text).1.st tx sx) 47 0
  have cQ := al_cs H1 (rv dx (begunM text).1.st tx sx) 47 0
  have stQ : st 4 (.ptr H1.next 0) (.agg (rv dx (begunM text).1.st tx sx)) (al H1 [.slice0, (.int .i64 0), .slice0, .slice0] 47 0) = some (al H1 (rv dx (begunM text).1.st tx sx) 47 0) := st_alN (by simp [p2.v.d.row.one, p2.t.rl.one, p2.s.oneX, oneC_i]) rfl rfl (by decide) rfl
  generalize hA : al H1 (rv dx (begunM text).1.st tx sx) 47 0 = H2 at *
  by_cases he : (begunM text).2 = 0
  · have d2 : ((begunM text).2 != 0) = false := by simp [he]
    have hp : (parseM text).2 = 0 := by
      unfold begunM at he
      by_cases q : (parseM text).2 = 0
      · exact q
      · rw [if_neg q] at he; exact he
    obtain ⟨g1, g2, g3, g4, g5, g6⟩ := parseM_good hp
    obtain ⟨i1, i2, i3, i4, i5⟩ := new_inv g1 g2 g3 g4 g6
    have hB : begunM text = newM (parseM text).1 := by unfold begunM; rw [if_pos hp]
    rw [← hB] at i1 i2 i3 i4
    have hal := after_le g3 g4
    have hfl := p2.v.lt
    have hll := hL.1.lt
    have hn := p3.nx
    obtain ⟨H', k1⟩ := order_loop (Q := H1.next) (by omega) (fun z => by have := hll _ z; omega) acts 0 H2 dx tx sx xs (begunM text).1 1 (Nat.zero_le _) List.drop_zero (hL.out0 (p3.trans o1)) cQ (p2.v.out0 o1) (fun z => by have := hfl _ z; omega) i1 i2 (by omega) (by rw [i4]; exact hal)
    rw [show (((0 : Nat) : Int)) = 0 from rfl] at k1
    refine ⟨H', c_outriderlaw16_RunOrder ?_⟩
    unfold s_outriderlaw16_RunOrder
    simp (disch := (first | assumption | omega | (simp only [k_d, k_c, Nat.reduceAdd, Nat.reduceLeDiff, Nat.reduceLT] <;> fail) | (simp only [k_c]; omega) | (simp only [k_d, k_c, Nat.reduceAdd, Nat.reduceLeDiff, Nat.reduceLT, *] <;> fail) | fail)) only [haw, d0, ll, d1, p1, stQ, d2, k1, k_a, k_b, Nat.reduceAdd, k_s, k_x, Int.reduceBEq, Int.reduceBNe, Int.reduceLT, Int.reduceLE, Int.reduceGT, Int.reduceGE, Int.reduceNeg]
  · have d2 : ((begunM text).2 != 0) = true := by simp [he]
    refine ⟨H2, c_outriderlaw16_RunOrder ?_⟩
    unfold s_outriderlaw16_RunOrder
    simp (disch := (first | assumption | omega | (simp only [k_d, k_c, Nat.reduceAdd, Nat.reduceLeDiff, Nat.reduceLT] <;> fail) | (simp only [k_c]; omega) | (simp only [k_d, k_c, Nat.reduceAdd, Nat.reduceLeDiff, Nat.reduceLT, *] <;> fail) | fail)) only [haw, d0, ll, d1, p1, stQ, d2, k_a, k_b, Nat.reduceAdd, k_s, k_x, Int.reduceBEq, Int.reduceBNe, Int.reduceLT, Int.reduceLE, Int.reduceGT, Int.reduceGE, Int.reduceNeg]
theorem runOrder_top {H : Hp} {as' : List AV} {ds : List D} (h : ArgsIs H [.str, .slice 5 ActTy] as' ds) (hT : hasT H begin0) (hn : 11 ≤ H.next) : ∃ H', cK (.func (.func 7) [] []) as' H = some (.bool true, H') := by
  cases h with
  | cons h0 h =>
  cases h with
  | cons h1 h =>
  cases h
  obtain ⟨s, rfl, _, _⟩ := isA_str h0
  obtain ⟨l, hl⟩ := acts_of (isA_row h1)
  exact runOrder_c hl hT hn
end Go.Proofs.YthljbjokonglhaaGreatDoor.DfK
namespace Go.Proofs.YthljbjokonglhaaGreatDoor.Hand
open Go
set_option linter.unusedVariables false

theorem size_open {P : Program} {w : World} (h : w.ShapedOpen P) {g : Nat} (hg : g + 1 = P.globals.size) (hr : (((begin P (fun _ _ => 0) default).world.heap[g]?).bind Obj.row?).isSome = true) : P.globals.size ≤ w.heap.size := by
  obtain ⟨⟨zero, t⟩, hr⟩ := Option.isSome_iff_exists.1 hr
  obtain ⟨cs, hc, _⟩ := h.1 g zero t (by omega) hr
  have := (Array.getElem?_eq_some_iff.1 hc).1
  omega

variable {H : Type} {enc : TypeId × Value → H}
theorem handed {a : Assume} {C : Checked} {os : Os} {f : FuncId} {fn : Func} {s : ChangeSpec} {conds : List PathCond} {apart fresh handsOn again : Bool} {X : World → Array Value → Prop} {g : Nat}
    (hg : g + 1 = C.prog.globals.size) (hr : (((begin C.prog (fun _ _ => 0) default).world.heap[g]?).bind Obj.row?).isSome = true)
    (hX : ∀ (w w' : World) (args : Array Value), w.heap = w'.heap → X w args → X w' args)
    (own : ownKnob C.prog.godebug = none) (started : os.Started) (noInit : C.prog.inits.idxOf? f = none) (hfn : C.prog.funcs[f]? = some fn)
    (witness : ∃ (w : World) (tape : Tape) (i : Input), w.os = os ∧ (w.forCall tape i).Shaped C.prog ∧ i.vars = [] ∧ Input.okWide C.prog (w.forCall tape i) .any w.heap.size f i ∧
      ((s.pre enc C.prog fn conds apart (w.forCall tape i).memory i.args ∧ X (w.forCall tape i).memory i.args) ∧ sizedMet enc C.prog fn (OpenSpec.ofChange s) apart (w.forCall tape i).memory i.args) ∧ a.holds C.prog (lone (Frame.enter C.prog f i.args .normal) [] (w.forCall tape i)))
    (contract : ∀ (W : World) (base : Nat) (args : Array Value) (ds gs : List (DataW H)) (before : List MemPlace), C.prog.globals.size ≤ W.heap.size →
      (∀ (j : Nat) t v, fn.params[j]? = some t → args[j]? = some v → Value.okWide C.prog W .any base t v) →
      DataW.Whole enc C.prog fn.params.toList s.vars apart W args.toList ds gs before →
      conds.all (PathCond.test C.prog ⟨fn.params.toList, ds, s.plain.varTypes C.prog, gs⟩) = true →
      (DataW.weightsEach C.prog (fn.params.toList ++ s.plain.varTypes C.prog) (ds ++ gs)).all (· ≤ reachBytes) = true → X W args →
      a.holds C.prog (lone (Frame.enter C.prog f args .normal) [] W) →
      Calls C.prog f args W fun e W' => ∃ v, e = .returned v ∧ s.post enc C.prog fn apart fresh handsOn again W args v W') :
    ReturnsInHanded a C os f .any (fun w args => (s.pre enc C.prog fn conds apart w args ∧ X w args) ∧ sizedMet enc C.prog fn (OpenSpec.ofChange s) apart w args) (s.post enc C.prog fn apart fresh handsOn again) :=
  returnsInHanded_of_calls own started noInit witness fun w tape i _ hsh _ hok hpre hholds => by
    obtain ⟨_, _, _, fn', hfn', _, _, _, _, hval⟩ := hok
    obtain rfl : fn' = fn := Option.some.inj (hfn'.symm.trans hfn)
    obtain ⟨⟨⟨ds, gs, before, hw, hc⟩, hx⟩, hz⟩ := hpre
    refine (contract (w.forCall tape i) w.heap.size i.args ds gs before (size_open hsh hg hr) hval (DataW.Whole.of_heap (w' := w.forCall tape i) (by rfl) hw) hc (hz.weights hw) (hX _ _ _ (by rfl) hx) hholds).mono fun e W' hp => ?_
    obtain ⟨v, rfl, hp⟩ := hp
    exact ChangeSpec.post_blind hp
end Go.Proofs.YthljbjokonglhaaGreatDoor.Hand
