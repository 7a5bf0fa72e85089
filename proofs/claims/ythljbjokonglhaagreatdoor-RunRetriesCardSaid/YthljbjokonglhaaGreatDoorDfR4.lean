/- What a run's New, Lease, Done do, as contracts over the symbolic heap. Conditions: as each states them. -/
import Derived.Test.YthljbjokonglhaaGreatDoorDfR3
namespace Go.Proofs.YthljbjokonglhaaGreatDoor.DfK
open Go Am Am.K DfEnv DfM LibP DfG
set_option linter.unusedVariables false
set_option linter.unusedSimpArgs false
set_option maxRecDepth 10000
set_option maxHeartbeats 1000000
abbrev w64 (n : Int) : Int := IntKind.wrap .i64 n
theorem RO.out {H H' : Hp} {dx tx sx : AV} {xs : List AV} {R : Rn} {S : List Nat} (h : RO H dx xs tx sx R) (k : Out S H H') (hs : ∀ j ∈ fpR dx xs tx sx, j ∉ S) : RO H' dx xs tx sx R :=
  ⟨h.v.out k hs, h.t.out k fun j hj => hs j (List.mem_append_right _ (List.mem_append_left _ hj)), h.s.out k fun j hj => hs j (List.mem_append_right _ (List.mem_append_right _ hj)), h.dt, h.ds⟩
theorem RO.out0 {H H' : Hp} {dx tx sx : AV} {xs : List AV} {R : Rn} (h : RO H dx xs tx sx R) (k : Out [] H H') : RO H' dx xs tx sx R := h.out k fun _ _ q => by cases q
theorem rt_one (t : RT) : (rtC t).all oneC = true := rfl
theorem RO.set {H : Hp} {dx tx sx : AV} {xs : List AV} {R : Rn} {i b o : Nat} (h : RO H dx xs tx sx R) (hi : i < R.rs.length) (hia : ∀ kd, ia 4 tx (.int kd i) = some (.ptr b o)) (t : RT) :
    ∃ H', st 4 (.ptr b o) (.agg (rtC t)) H = some H' ∧ RO H' dx xs tx sx { R with rs := R.rs.set i t } ∧ Out (rid tx) H H' ∧ H'.next = H.next := by
  obtain ⟨H', h1, h2, h3, h4⟩ := h.t.stN (vs := rtC t) (by rw [rts_len]; exact hi) hia (rt_one t) rfl (by decide)
  rw [rts_set] at h2
  exact ⟨H', h1, ⟨⟨h.v.d.out h3 fun j hj z => (h.dt j z).1 hj, h2.rl, h.v.s.out h3 fun j hj z => (h.dt j z).2 hj⟩, h2, h.s.out h3 fun j hj z => (h.dt j z).2 hj, h.dt, h.ds⟩, h3, h4⟩
theorem RD.at2 {H : Hp} {dx : AV} {xs : List AV} {ts : List Tk} (h : RD H dx xs ts) {i : Nat} {t : Tk} (ht : ts[i]? = some t) :
    ∃ x b o, (∀ k, ia 6 dx (.int k i) = some (.ptr b o)) ∧ b ∈ rid dx ∧ b < H.next ∧ oneC x = true ∧ cellsAt H b o 6 = some (tkC t x) ∧ ∀ k v, (tkC t x)[k]? = some v → cellAt H b (o + k) = some v := by
  have hi := (List.getElem?_eq_some_iff.1 ht).1
  have hx : xs[i]? = some (xs[i]'(by rw [h.len]; exact hi)) := List.getElem?_eq_getElem _
  have hw := h.aft i _ t hx ht
  have hz : (List.zipWith tkC ts xs)[i]? = some (tkC t (xs[i]'(by rw [h.len]; exact hi))) := by rw [List.getElem?_zipWith, ht, hx]
  obtain ⟨b, o, h1, h2, h3, h4, h5⟩ := h.row.at (by decide) hz
  exact ⟨_, b, o, h1, h2, h3, hw.one, h4, h5⟩
abbrev zR : List AV := [.slice0, .int .i64 0, .slice0, .slice0]
abbrev Rn0 : Rn := ⟨[], 0, [], []⟩
theorem RO.zero (H : Hp) : RO H .slice0 [] .slice0 .slice0 Rn0 :=
  ⟨⟨RD.nil H, RL.nil H 4, .nil⟩, OL.nil H _ 4, .nil, fun j hj => (by cases hj), fun j hj => by cases hj⟩
structure Okr (R : Rn) : Prop where
  sm : Sm R
  len : R.rs.length = R.ts.length
  aft : ∀ t ∈ R.ts, ∀ a ∈ t.after, 0 ≤ a ∧ a < (R.ts.length : Int)
/-- what a function that makes a run answers -/
def Ans (f : AV) (args : List AV) (H : Hp) (R : Rn) (e : Int) : Prop :=
  ∃ dx xs tx sx H', cK f args H = some (.tuple [.agg (rv dx R.st tx sx), .int .i64 e], H') ∧ RO H' dx xs tx sx R ∧ Out [] H H' ∧ ∀ j ∈ fpR dx xs tx sx, H.next ≤ j
theorem Ans.err {f : AV} {args : List AV} {H H1 H' : Hp} {e : Int} {m : Nat} (h : cK f args H = some (.tuple [.agg zR, .int .i64 e], H')) (k : Out [] H H1) (k2 : Out [m] H1 H') (hm : H.next ≤ m) : Ans f args H Rn0 e :=
  ⟨.slice0, [], .slice0, .slice0, H', h, RO.zero H', k.then k2 (fun j hj => by rw [List.mem_singleton] at hj; exact .inr (by omega)), fun j hj => by cases hj⟩
theorem one_ge {n m : Nat} (h : n ≤ m) : ∀ j ∈ [m], n ≤ j := fun j hj => by rw [List.mem_singleton] at hj; omega
theorem outNew {H A B : Hp} {S : List Nat} (h : Out [] H A) (k : Out S A B) (hS : ∀ j ∈ S, H.next ≤ j) : Out [] H B := h.then k fun j hj => .inr (hS j hj)
/-! Lease -/
def leaseM (R : Rn) (task try_ now : Int) : Rn × Int :=
  if mayM R task = 0 then (match R.rs[task.toNat]?, R.ts[task.toNat]? with
    | some t, some d => if t.ph = 1 then (if try_ = w64 (t.tr + 1) then ({ R with rs := R.rs.set task.toNat ⟨2, try_, w64 (now + d.wait), t.dat⟩ }, 0) else (Rn0, 8)) else (Rn0, 4)
    | _, _ => (Rn0, 4)) else (Rn0, mayM R task)
theorem lease_c {H : Hp} {dx tx sx : AV} {xs : List AV} {R : Rn} (h : RV H dx xs tx sx R) (hk : Okr R) (task try_ now : Int) :
    Ans (.func (.func 18) [] []) [.agg (rv dx R.st tx sx), .int .i64 task, .int .i64 try_, .int .i64 now] H (leaseM R task try_ now).1 (leaseM R task try_ now).2 := by
  have hbx : bx 47 (.agg (rv dx R.st tx sx)) H = some (H.next, al H (rv dx R.st tx sx) 47 0) := bx_alA (by simp)
  have o1 := al_out H (rv dx R.st tx sx) 47 0
  have c1 := al_cs H (rv dx R.st tx sx) 47 0
  have n1 : (al H (rv dx R.st tx sx) 47 0).next = H.next + 1 := rfl
  generalize al H (rv dx R.st tx sx) 47 0 = H1 at *
  have o2 := al_out H1 zR 47 0
  have c2 := al_cs H1 zR 47 0
  have n2 : (al H1 zR 47 0).next = H.next + 2 := by rw [al_nx, n1]
  rw [n1] at c2
  generalize hA2 : al H1 zR 47 0 = H2 at *
  have o12 := o1.trans o2
  have cP2 := c1.out o2 (by simp)
  have k1 : cellsAt H2 H.next 0 4 = some (rv dx R.st tx sx) := cP2.cellsAt 4 0 (by simp)
  have hm := may_c (h.out0 o12) task
  have o3 := al_out H2 (rv dx R.st tx sx) 47 0
  have n3 : (al H2 (rv dx R.st tx sx) 47 0).next = H.next + 3 := by rw [al_nx, n2]
  generalize al H2 (rv dx R.st tx sx) 47 0 = H3 at *
  have o13 := o12.trans o3
  have cP3 := cP2.out o3 (by simp)
  have cQ3 := c2.out o3 (by simp)
  unfold leaseM
  by_cases h0 : mayM R task = 0
  · obtain ⟨i, t, rfl, ht, hst⟩ := may_ok h0
    have hil := (List.getElem?_eq_some_iff.1 ht).1
    have hd : R.ts[i]? = some (R.ts[i]'(by rw [← hk.len]; exact hil)) := List.getElem?_eq_getElem _
    have d0 : (mayM R (i : Int) != 0) = false := by simp [h0]
    rw [if_pos h0, Int.toNat_natCast, ht, hd]
    simp only
    generalize R.ts[i]'(by rw [← hk.len]; exact hil) = d at *
    have k2 : cellAt H3 H.next 2 = some tx := cP3.cellAt rfl
    obtain ⟨b, o, q1, q2, q3, q4, q5⟩ := (h.t.out0 o13).at (by decide) (rts_get ht)
    have hsr := st_rt t H3
    rw [n3] at hsr
    obtain ⟨e0, e1, e2, e3⟩ := fd_rt t
    have o4 := al_out H3 (rtC t) 51 0
    have cT4 := al_cs H3 (rtC t) 51 0
    rw [n3] at cT4
    have n4 : (al H3 (rtC t) 51 0).next = H.next + 4 := by rw [al_nx, n3]
    generalize al H3 (rtC t) 51 0 = H4 at *
    have hz4 : newCells H3 [(.int .i64 0), (.int .i64 0), (.int .i64 0), (.str [])] 51 0 = some (H.next + 3, al H3 [(.int .i64 0), (.int .i64 0), (.int .i64 0), (.str [])] 51 0) := by rw [← n3]; exact newCells_al (by simp)
    have o14 := o13.trans o4
    have cP4 := cP3.out o4 (by simp)
    have cQ4 := cQ3.out o4 (by simp)
    have t0 : cellAt H4 (H.next + 3) 0 = some (.int .i64 t.ph) := cT4.cellAt e0
    have t1 : cellAt H4 (H.next + 3) 1 = some (.int .i64 t.tr) := cT4.cellAt e1
    by_cases h1 : t.ph = 1
    · have d1 : (t.ph != 1) = false := by simp [h1]
      rw [if_pos h1]
      by_cases h2 : try_ = w64 (t.tr + 1)
      · have d2 : (try_ != IntKind.wrap .i64 (t.tr + 1)) = false := by simp [h2]
        rw [if_pos h2]
        have k4 : cellsAt H4 H.next 0 4 = some (rv dx R.st tx sx) := cP4.cellsAt 4 0 (by simp)
        obtain ⟨dx', xs', tx', sx', H5, r1, r2, r3, r4⟩ := clone_c (h.out0 o14) hk.sm
        have n5 := r3.nx
        obtain ⟨H6, s1, s2, s3, s4⟩ := stAll (n := 4) (vs := rv dx' R.st tx' sx') (cP4.out r3 (by simp)) rfl rfl (by simp [r2.v.d.row.one, r2.t.rl.one, r2.s.oneX, oneC_i])
        have fr : ∀ m, m < H.next + 4 → ∀ j ∈ fpR dx' xs' tx' sx', j ∉ [m] := fun m hm j hj => by rw [List.mem_singleton]; have := r4 j hj; omega
        have R6 := r2.out s3 (fr _ (by omega))
        obtain ⟨x, b2, o2', p1, p2, p3, p4, p5, p6⟩ := R6.v.d.at2 hd
        have kw6 : cellAt H6 b2 (o2' + 3) = some (.int .i64 d.wait) := p6 3 _ rfl
        have kd6 : cellAt H6 H.next 0 = some dx' := s2.cellAt rfl
        have cT6 := (cT4.out r3 (by simp)).out s3 (by rw [List.mem_singleton]; omega)
        have hb2 : b2 ≠ H.next + 3 := by have := r4 b2 (List.mem_append_left _ (List.mem_append_left _ p2)); omega
        obtain ⟨H7, u1, u2, u3, u4⟩ := st1 cT6 (by decide) (o := 0) (by rw [rt_len]; omega) (v := .int .i64 2) rfl
        obtain ⟨H8, v1, v2, v3, v4⟩ := st1 u2 (by decide) (o := 1) (by rw [List.length_set, rt_len]; omega) (v := .int .i64 try_) rfl
        obtain ⟨H9, w1, w2, w3, w4⟩ := st1 v2 (by decide) (o := 2) (by rw [List.length_set, List.length_set, rt_len]; omega) (v := .int .i64 (w64 (now + d.wait))) rfl
        have hset : (((rtC t).set 0 (.int .i64 2)).set 1 (.int .i64 try_)).set 2 (.int .i64 (w64 (now + d.wait))) = rtC ⟨2, try_, w64 (now + d.wait), t.dat⟩ := rfl
        rw [hset] at w2
        have kw7 : cellAt H7 b2 (o2' + 3) = some (.int .i64 d.wait) := by rw [u3.cellAt p3 (by rw [List.mem_singleton]; exact hb2)]; exact kw6
        have kw8 : cellAt H8 b2 (o2' + 3) = some (.int .i64 d.wait) := by rw [v3.cellAt (by omega) (by rw [List.mem_singleton]; exact hb2)]; exact kw7
        have hT3 : H.next ∉ [H.next + 3] := by rw [List.mem_singleton]; omega
        have s7 := s2.out u3 hT3
        have s8 := s7.out v3 hT3
        have s9 := s8.out w3 hT3
        have kd7 : cellAt H7 H.next 0 = some dx' := s7.cellAt rfl
        have kd8 : cellAt H8 H.next 0 = some dx' := s8.cellAt rfl
        have kt9 : cellAt H9 H.next 2 = some tx' := s9.cellAt rfl
        have kT9 : cellsAt H9 (H.next + 3) 0 4 = some (rtC ⟨2, try_, w64 (now + d.wait), t.dat⟩) := w2.cellsAt 4 0 (by rw [rt_len]; omega)
        have R9 := ((R6.out u3 (fr _ (by omega))).out v3 (fr _ (by omega))).out w3 (fr _ (by omega))
        obtain ⟨b3, o3', y1, y2, y3, y4, y5⟩ := R9.v.t.at (by decide) (rts_get ht)
        obtain ⟨H10, z1, z2, z3, z4⟩ := R9.set hil y1 ⟨2, try_, w64 (now + d.wait), t.dat⟩
        have ntx : ∀ m, m < H.next + 4 → m ∉ rid tx' := fun m hm z => by have := r4 m (List.mem_append_right _ (List.mem_append_left _ z)); omega
        have s10 := s9.out z3 (ntx _ (by omega))
        have kP10 : cellsAt H10 H.next 0 4 = some (rv dx' R.st tx' sx') := s10.cellsAt 4 0 (by simp)
        have hQ : ∀ m, m ≠ H.next + 1 → H.next + 1 ∉ [m] := fun m hm => by rw [List.mem_singleton]; omega
        have cQ10 := ((((((cQ4.out r3 (by simp)).out s3 (hQ _ (by omega))).out u3 (hQ _ (by omega))).out v3 (hQ _ (by omega))).out w3 (hQ _ (by omega))).out z3 (ntx _ (by omega)))
        obtain ⟨H11, g1, g2, g3, g4⟩ := stAll (n := 4) (vs := rv dx' R.st tx' sx') cQ10 rfl rfl (by simp [r2.v.d.row.one, r2.t.rl.one, r2.s.oneX, oneC_i])
        have kQ : cellsAt H11 (H.next + 1) 0 4 = some (rv dx' R.st tx' sx') := g2.cellsAt 4 0 (by simp)
        have out := outNew (outNew (outNew (outNew (outNew (outNew (o14.trans r3) s3 (one_ge (Nat.le_refl _))) u3 (one_ge (by omega))) v3 (one_ge (by omega))) w3 (one_ge (by omega))) z3 (fun j hj => by have := r4 j (List.mem_append_right _ (List.mem_append_left _ hj)); omega)) g3 (one_ge (by omega))
        refine ⟨dx', xs', tx', sx', H11, c__run_Run_Lease ?_, z2.out g3 (fr _ (by omega)), out, fun j hj => by have := r4 j hj; omega⟩
        unfold s__run_Run_Lease
        simp (disch := (first | assumption | omega | (simp only [k_d, k_c, Nat.reduceAdd, Nat.reduceLeDiff, Nat.reduceLT] <;> fail) | (simp only [k_c]; omega) | (simp only [k_d, k_c, Nat.reduceAdd, Nat.reduceLeDiff, Nat.reduceLT, *] <;> fail) | fail)) only [hbx, n1, hA2, k1, hm, d0, k2, q1, q4, n3, hsr, t0, t1, d1, d2, k4, r1, s1, kd6, p1, kw6, u1, v1, w1, kd7, kd8, kw7, kw8, SM_t (same_rw r2.v.d.row.1), SM_t (same_i _ _), kt9, kT9, y1, z1, kP10, g1, kQ, k_a, k_b, Nat.reduceAdd, k_s, k_x, Int.reduceBEq, Int.reduceBNe, Int.reduceLT, Int.reduceLE, Int.reduceGT, Int.reduceGE, Int.reduceNeg]
      · have d2 : (try_ != IntKind.wrap .i64 (t.tr + 1)) = true := by simp [h2]
        rw [if_neg h2]
        obtain ⟨H5, w1, w2, w3, w4⟩ := stAll (n := 4) (vs := zR) cQ4 rfl rfl rfl
        have k5 : cellsAt H5 (H.next + 1) 0 4 = some zR := w2.cellsAt 4 0 (by simp)
        refine Ans.err (c__run_Run_Lease (?_ : _ = some (_, H5))) o14 w3 (Nat.le_succ _)
        unfold s__run_Run_Lease
        simp (disch := (first | assumption | omega | (simp only [k_d, k_c, Nat.reduceAdd, Nat.reduceLeDiff, Nat.reduceLT] <;> fail) | (simp only [k_c]; omega) | (simp only [k_d, k_c, Nat.reduceAdd, Nat.reduceLeDiff, Nat.reduceLT, *] <;> fail) | fail)) only [hbx, n1, hA2, k1, hm, d0, k2, q1, q4, n3, hsr, t0, t1, d1, d2, w1, k5, k_a, k_b, Nat.reduceAdd, k_s, k_x, Int.reduceBEq, Int.reduceBNe, Int.reduceLT, Int.reduceLE, Int.reduceGT, Int.reduceGE, Int.reduceNeg]
    · have d1 : (t.ph != 1) = true := by simp [h1]
      rw [if_neg h1]
      obtain ⟨H5, w1, w2, w3, w4⟩ := stAll (n := 4) (vs := zR) cQ4 rfl rfl rfl
      have k5 : cellsAt H5 (H.next + 1) 0 4 = some zR := w2.cellsAt 4 0 (by simp)
      refine Ans.err (c__run_Run_Lease (?_ : _ = some (_, H5))) o14 w3 (Nat.le_succ _)
      unfold s__run_Run_Lease
      simp (disch := (first | assumption | omega | (simp only [k_d, k_c, Nat.reduceAdd, Nat.reduceLeDiff, Nat.reduceLT] <;> fail) | (simp only [k_c]; omega) | (simp only [k_d, k_c, Nat.reduceAdd, Nat.reduceLeDiff, Nat.reduceLT, *] <;> fail) | fail)) only [hbx, n1, hA2, k1, hm, d0, k2, q1, q4, n3, hsr, t0, d1, w1, k5, k_a, k_b, Nat.reduceAdd, k_s, k_x, Int.reduceBEq, Int.reduceBNe, Int.reduceLT, Int.reduceLE, Int.reduceGT, Int.reduceGE, Int.reduceNeg]
  · have d0 : (mayM R task != 0) = true := by simp [h0]
    rw [if_neg h0]
    obtain ⟨H4, w1, w2, w3, w4⟩ := stAll (n := 4) (vs := zR) cQ3 rfl rfl rfl
    have k5 : cellsAt H4 (H.next + 1) 0 4 = some zR := w2.cellsAt 4 0 (by simp)
    refine Ans.err (c__run_Run_Lease (?_ : _ = some (_, H4))) o13 w3 (Nat.le_succ _)
    unfold s__run_Run_Lease
    simp (disch := (first | assumption | omega | (simp only [k_d, k_c, Nat.reduceAdd, Nat.reduceLeDiff, Nat.reduceLT] <;> fail) | (simp only [k_c]; omega) | (simp only [k_d, k_c, Nat.reduceAdd, Nat.reduceLeDiff, Nat.reduceLT, *] <;> fail) | fail)) only [hbx, n1, hA2, k1, hm, d0, w1, k5, k_a, k_b, Nat.reduceAdd, k_s, k_x, Int.reduceBEq, Int.reduceBNe, Int.reduceLT, Int.reduceLE, Int.reduceGT, Int.reduceGE, Int.reduceNeg]
end Go.Proofs.YthljbjokonglhaaGreatDoor.DfK
