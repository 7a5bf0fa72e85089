/- What back.Delay and a run's Fail do, as contracts over the symbolic heap. Conditions: as each states them. -/
import Derived.Test.YthljbjokonglhaaGreatDoorDfR5
namespace Go.Proofs.YthljbjokonglhaaGreatDoor.DfK
open Go Am Am.K DfEnv DfM LibP DfG
set_option linter.unusedVariables false
set_option linter.unusedSimpArgs false
set_option maxRecDepth 10000
set_option maxHeartbeats 1000000
/-! back.Delay -/
def dlN : Nat → Nat → Nat
  | 0, d => d
  | n + 1, d => if d < 64000 then dlN n (min (2 * d) 64000) else d
def delN (base try_ : Nat) : Nat := if base = 0 ∨ try_ = 0 then 0 else dlN (try_ - 1) (min base 64000)
theorem min_i (ty : Array TypeId) (x y : Int) (H : Hp) : builtinA P .min ty [.int .i64 x, .int .i64 y] H = some (.int .i64 (if y < x then y else x), H) := Eq.trans rfl (id rfl)
theorem dlN_le : ∀ (n d : Nat), d ≤ 64000 → dlN n d ≤ 64000
  | 0, d, h => h
  | n + 1, d, h => by
    unfold dlN
    split
    · exact dlN_le n _ (Nat.min_le_right _ _)
    · exact h
theorem delN_le (b t : Nat) : delN b t ≤ 64000 := by
  unfold delN
  split
  · omega
  · exact dlN_le _ _ (Nat.min_le_right _ _)
theorem delay_loop {t : Nat} (ht : t ≤ 1000000) {H : Hp} (j21 : K.Fn 1) : ∀ (n d k : Nat), k + n = t → d ≤ 64000 → l_back_Delay JN GO cK j21 (.int .i64 (t : Nat)) (.int .i64 (d : Nat)) (.int .i64 (k : Nat)) H = j21 (.int .i64 (dlN n d : Nat)) H
  | 0, d, k, h, hd => by
    obtain rfl : k = t := by omega
    rw [ql_back_Delay]
    simp only [bl_back_Delay, lt_f, dlN, k_s, k_x, Int.reduceBEq, Int.reduceBNe, Int.reduceLT, Int.reduceLE, Int.reduceGT, Int.reduceGE, Int.reduceNeg]
  | n + 1, d, k, h, hd => by
    have h1 : k < t := by omega
    have es := wrap_s h1 (by omega)
    rw [ql_back_Delay]
    unfold dlN
    by_cases h2 : d < 64000
    · have d2 : decide (((d : Nat) : Int) < 64000) = true := decide_eq_true (by omega)
      have sh : ishl (.int .i64 ((d : Nat) : Int)) (.int .u64 1) = some (.int .i64 ((2 * d : Nat) : Int)) := by
        have := ishl_n (k := .i64) (j := .u64) (a := d) (b := 1)
        rw [show (((1 : Nat) : Int)) = 1 from rfl] at this
        rw [this, show min 1 IntKind.i64.bits = 1 from rfl, Nat.pow_one, Nat.mul_comm, wrap_i64 (by omega) (by omega)]
      have hm : (if (64000 : Int) < ((2 * d : Nat) : Int) then (64000 : Int) else ((2 * d : Nat) : Int)) = ((min (2 * d) 64000 : Nat) : Int) := by
        split <;> omega
      have hmin := min_i #[2, 2] ((2 * d : Nat) : Int) 64000 H
      rw [hm] at hmin
      have ih := delay_loop ht (H := H) j21 n (min (2 * d) 64000) (k + 1) (by omega) (Nat.min_le_right _ _)
      rw [if_pos h2]
      simp only [bl_back_Delay, lt_t h1, d2, sh, hmin, es, ih, k_s, k_x, Int.reduceBEq, Int.reduceBNe, Int.reduceLT, Int.reduceLE, Int.reduceGT, Int.reduceGE, Int.reduceNeg]
    · have d2 : decide (((d : Nat) : Int) < 64000) = false := decide_eq_false (by omega)
      rw [if_neg h2]
      simp only [bl_back_Delay, lt_t h1, d2, k_s, k_x, Int.reduceBEq, Int.reduceBNe, Int.reduceLT, Int.reduceLE, Int.reduceGT, Int.reduceGE, Int.reduceNeg]
theorem delay_c {base t : Nat} (hb : base ≤ 1000000) (ht : t ≤ 1000000) (H : Hp) : cK (.func (.func 81) [] []) [.int .i64 (base : Nat), .int .i64 (t : Nat)] H = some (.int .i64 (delN base t : Nat), H) := by
  refine c_back_Delay ?_
  unfold s_back_Delay delN
  by_cases h0 : base = 0
  · have d0 : decide (((base : Nat) : Int) < 1) = true := decide_eq_true (by omega)
    rw [if_pos (.inl h0)]
    simp only [d0, k_s, k_x, Int.reduceBEq, Int.reduceBNe, Int.reduceLT, Int.reduceLE, Int.reduceGT, Int.reduceGE, Int.reduceNeg]; rfl
  · have d0 : decide (((base : Nat) : Int) < 1) = false := decide_eq_false (by omega)
    by_cases h1 : t = 0
    · have d1 : decide (((t : Nat) : Int) < 1) = true := decide_eq_true (by omega)
      rw [if_pos (.inr h1)]
      simp only [d0, d1, k_s, k_x, Int.reduceBEq, Int.reduceBNe, Int.reduceLT, Int.reduceLE, Int.reduceGT, Int.reduceGE, Int.reduceNeg]; rfl
    · have d1 : decide (((t : Nat) : Int) < 1) = false := decide_eq_false (by omega)
      rw [if_neg (fun q => q.elim h0 h1)]
      have hm : (if (64000 : Int) < ((base : Nat) : Int) then (64000 : Int) else ((base : Nat) : Int)) = ((min base 64000 : Nat) : Int) := by
        split <;> omega
      have hmin := min_i #[2, 2] ((base : Nat) : Int) 64000 H
      rw [hm] at hmin
      have ih := fun j21 => delay_loop ht (H := H) j21 (t - 1) (min base 64000) 1 (by omega) (Nat.min_le_right _ _)
      rw [show (((1 : Nat) : Int)) = 1 from rfl] at ih
      simp only [d0, d1, hmin, ih, k_s, k_x, Int.reduceBEq, Int.reduceBNe, Int.reduceLT, Int.reduceLE, Int.reduceGT, Int.reduceGE, Int.reduceNeg]
def dM (base tr : Int) : Int := (delN base.toNat tr.toNat : Nat)
/-! fail -/
def failR (R : Rn) (i : Nat) (t : RT) (d : Tk) (now : Int) : Rn :=
  if t.tr ≤ d.retry then { R with rs := R.rs.set i { t with ph := 5, til := w64 (now + dM d.base t.tr) } } else { R with rs := R.rs.set i { t with ph := 4, til := 0 }, st := 2 }
theorem RO.upd {H H' : Hp} {dx tx sx : AV} {xs : List AV} {R : Rn} {l : List RT} (h : RO H dx xs tx sx R) (hO : OL H' 51 4 tx (rts l)) (k : Out (rid tx) H H') : RO H' dx xs tx sx { R with rs := l } :=
  ⟨⟨h.v.d.out k fun j hj z => (h.dt j z).1 hj, hO.rl, h.v.s.out k fun j hj z => (h.dt j z).2 hj⟩, hO, h.s.out k fun j hj z => (h.dt j z).2 hj, h.dt, h.ds⟩
theorem fail_c {H : Hp} {p i : Nat} {dx tx sx : AV} {xs : List AV} {R : Rn} {t : RT} {d : Tk} (hC : Cs H p (rv dx R.st tx sx) 47 0) (hO : RO H dx xs tx sx R) (hp : p ∉ fpR dx xs tx sx) (ht : R.rs[i]? = some t) (hd : R.ts[i]? = some d) (hb0 : 0 ≤ d.base) (hb : d.base ≤ 1000000) (ht0 : 0 ≤ t.tr) (ht1 : t.tr ≤ 1000000) (now : Int) :
    ∃ H', cK (.func (.func 52) [] []) [.ptr p 0, .int .i64 (i : Nat), .int .i64 now] H = some (.tuple [], H') ∧ Cs H' p (rv dx (failR R i t d now).st tx sx) 47 0 ∧ RO H' dx xs tx sx (failR R i t d now) ∧ Out (p :: rid tx) H H' := by
  have hpt : p ∉ rid tx := fun z => hp (List.mem_append_right _ (List.mem_append_left _ z))
  obtain ⟨x, b2, o2', p1, p2, p3, p4, p5, p6⟩ := hO.v.d.at2 hd
  have hst := st_tk d x p4 H
  have o1 := al_out H (tkC d x) 43 0
  have cT := al_cs H (tkC d x) 43 0
  have c2 : cellAt H p 2 = some tx := hC.cellAt rfl
  have c0 : cellAt H p 0 = some dx := hC.cellAt rfl
  obtain ⟨b, o, q1, q2, q3, q4, q5⟩ := (hO.v.t.out0 o1).at (by decide) (rts_get ht)
  have r1 : cellAt (al H (tkC d x) 43 0) b (o + 1) = some (.int .i64 t.tr) := q5 1 _ (fd_rt t).2.1
  have m2 : cellAt (al H (tkC d x) 43 0) H.next 2 = some (.int .i64 d.retry) := cT.cellAt (fd_tk d x).2.2.1
  have m4 : cellAt (al H (tkC d x) 43 0) H.next 4 = some (.int .i64 d.base) := cT.cellAt (fd_tk d x).2.2.2.2.1
  have hO1 := hO.out0 o1
  have hC1 := hC.out o1 (by simp)
  have hil := (List.getElem?_eq_some_iff.1 ht).1
  have hdel : cK (.func (.func 81) [] []) [.int .i64 d.base, .int .i64 t.tr] (al H (tkC d x) 43 0) = some (.int .i64 (dM d.base t.tr), al H (tkC d x) 43 0) := by
    have := delay_c (base := d.base.toNat) (t := t.tr.toNat) (by omega) (by omega) (al H (tkC d x) 43 0)
    rw [show ((d.base.toNat : Nat) : Int) = d.base by omega, show ((t.tr.toNat : Nat) : Int) = t.tr by omega] at this
    exact this
  generalize hA : al H (tkC d x) 43 0 = H1 at *
  have two : ∀ (a c : Int), ∃ H3 H2, st 1 (.ptr b o) (.int .i64 a) H1 = some H2 ∧ st 1 (.ptr b (o + 2)) (.int .i64 c) H2 = some H3 ∧ OL H3 51 4 tx (rts (R.rs.set i { t with ph := a, til := c })) ∧ Out (rid tx) H1 H3 := by
    intro a c
    obtain ⟨H2, w1, w2, w3, w4⟩ := hO1.t.st1 (k := 0) (v := .int .i64 a) (rts_get ht) q1 rfl (by decide)
    have e2 : ((rts R.rs).set i ((rtC t).set 0 (.int .i64 a)))[i]? = some ((rtC t).set 0 (.int .i64 a)) := List.getElem?_set_self (by rw [rts_len]; exact hil)
    obtain ⟨H3, v1, v2, v3, v4⟩ := w2.st1 (k := 2) (v := .int .i64 c) e2 q1 rfl (by decide)
    rw [List.set_set] at v2
    have hset : ((rtC t).set 0 (.int .i64 a)).set 2 (.int .i64 c) = rtC { t with ph := a, til := c } := rfl
    rw [hset, rts_set] at v2
    rw [Nat.add_zero] at w1
    exact ⟨H3, H2, w1, v1, v2, w3.trans v3⟩
  unfold failR
  by_cases hle : t.tr ≤ d.retry
  · have dl : decide (t.tr ≤ d.retry) = true := decide_eq_true hle
    obtain ⟨H3, H2, v1, v2, v3, v4⟩ := two 5 (w64 (now + dM d.base t.tr))
    rw [if_pos hle]
    refine ⟨H3, c_run_Run_fail ?_, hC1.out v4 hpt, hO1.upd v3 v4, (o1.mono fun j hj => by cases hj).trans (v4.mono fun j hj => .tail _ hj)⟩
    unfold s_run_Run_fail
    simp (disch := (first | assumption | omega | (simp only [k_d, k_c, Nat.reduceAdd, Nat.reduceLeDiff, Nat.reduceLT] <;> fail) | (simp only [k_c]; omega) | (simp only [k_d, k_c, Nat.reduceAdd, Nat.reduceLeDiff, Nat.reduceLT, *] <;> fail) | fail)) only [c2, c0, q1, p1, p5, hst, hA, r1, m2, m4, dl, hdel, v1, v2, k_a, k_b, Nat.reduceAdd, k_s, k_x, Int.reduceBEq, Int.reduceBNe, Int.reduceLT, Int.reduceLE, Int.reduceGT, Int.reduceGE, Int.reduceNeg]
  · have dl : decide (t.tr ≤ d.retry) = false := decide_eq_false hle
    obtain ⟨H3, H2, v1, v2, v3, v4⟩ := two 4 0
    rw [if_neg hle]
    obtain ⟨H4, w1, w2, w3, w4⟩ := st1 (hC1.out v4 hpt) (by decide) (o := 1) (by simp) (v := .int .i64 2) rfl
    have hset : (rv dx R.st tx sx).set 1 (.int .i64 2) = rv dx 2 tx sx := rfl
    rw [hset] at w2
    have hR4 := (hO1.upd v3 v4).out w3 fun j hj => by rw [List.mem_singleton]; intro e; subst e; exact hp hj
    refine ⟨H4, c_run_Run_fail ?_, w2, ⟨⟨hR4.v.d, hR4.v.t, hR4.v.s⟩, hR4.t, hR4.s, hR4.dt, hR4.ds⟩, ((o1.mono fun j hj => by cases hj).trans (v4.mono fun j hj => .tail _ hj)).trans (w3.mono fun j hj => by rw [List.mem_singleton] at hj; subst hj; exact .head _)⟩
    unfold s_run_Run_fail
    simp (disch := (first | assumption | omega | (simp only [k_d, k_c, Nat.reduceAdd, Nat.reduceLeDiff, Nat.reduceLT] <;> fail) | (simp only [k_c]; omega) | (simp only [k_d, k_c, Nat.reduceAdd, Nat.reduceLeDiff, Nat.reduceLT, *] <;> fail) | fail)) only [c2, c0, q1, p1, p5, hst, hA, r1, m2, m4, dl, v1, v2, w1, k_a, k_b, Nat.reduceAdd, k_s, k_x, Int.reduceBEq, Int.reduceBNe, Int.reduceLT, Int.reduceLE, Int.reduceGT, Int.reduceGE, Int.reduceNeg]
/-- what Delay needs -/
structure Bd2 (R : Rn) : Prop where
  d : ∀ t ∈ R.ts, 0 ≤ t.base ∧ t.base ≤ 1000000
  t : ∀ t ∈ R.rs, 0 ≤ t.tr ∧ t.tr ≤ 1000000
def failM (R : Rn) (task try_ now : Int) : Rn × Int :=
  if heldM R task try_ = 0 then (match R.rs[task.toNat]?, R.ts[task.toNat]? with
    | some t, some d => (failR R task.toNat t d now, 0)
    | _, _ => (Rn0, 0)) else (Rn0, heldM R task try_)
theorem failc_c {H : Hp} {dx tx sx : AV} {xs : List AV} {R : Rn} (h : RV H dx xs tx sx R) (hk : Okr R) (hb : Bd2 R) (task try_ now : Int) :
    Ans (.func (.func 21) [] []) [.agg (rv dx R.st tx sx), .int .i64 task, .int .i64 try_, .int .i64 now] H (failM R task try_ now).1 (failM R task try_ now).2 := by
  have hbx : bx 47 (.agg (rv dx R.st tx sx)) H = some (H.next, al H (rv dx R.st tx sx) 47 0) := bx_alA (by simp)
  have o1 := al_out H (rv dx R.st tx sx) 47 0
  have c1 := al_cs H (rv dx R.st tx sx) 47 0
  have n1 : (al H (rv dx R.st tx sx) 47 0).next = H.next + 1 := rfl
  generalize al H (rv dx R.st tx sx) 47 0 = H1 at *
  have o2 := al_out H1 zR 47 0
  have c2 := al_cs H1 zR 47 0
  have n2 : (al H1 zR 47 0).next = H.next + 2 := by rw [al_nx, n1]
  rw [n1] at c2
  generalize hA2 : al H1 zR 47 0 = H2 at *
  have o12 := o1.trans o2
  have cP2 := c1.out o2 (by simp)
  have k1 : cellsAt H2 H.next 0 4 = some (rv dx R.st tx sx) := cP2.cellsAt 4 0 (by simp)
  obtain ⟨H3, hm, o3⟩ := held_c (h.out0 o12) task try_
  have n3 := o3.nx
  have o13 := o12.trans o3
  have cP3 := cP2.out o3 (by simp)
  have cQ3 := c2.out o3 (by simp)
  unfold failM
  by_cases h0 : heldM R task try_ = 0
  · obtain ⟨i, t, rfl, ht, hst, hph, htr⟩ := held_ok h0
    have hil := (List.getElem?_eq_some_iff.1 ht).1
    have hd : R.ts[i]? = some (R.ts[i]'(by rw [← hk.len]; exact hil)) := List.getElem?_eq_getElem _
    have d0 : (heldM R (i : Int) try_ != 0) = false := by simp [h0]
    rw [if_pos h0, Int.toNat_natCast, ht, hd]
    simp only
    generalize R.ts[i]'(by rw [← hk.len]; exact hil) = d at *
    have k3 : cellsAt H3 H.next 0 4 = some (rv dx R.st tx sx) := cP3.cellsAt 4 0 (by simp)
    obtain ⟨dx', xs', tx', sx', H4, r1, r2, r3, r4⟩ := clone_c (h.out0 o13) hk.sm
    have n4 := r3.nx
    have ones : ∀ z : Int, (rv dx' z tx' sx').all oneC = true := fun z => by simp [r2.v.d.row.one, r2.t.rl.one, r2.s.oneX, oneC_i]
    obtain ⟨H5, s1, s2, s3, s4⟩ := stAll (n := 4) (vs := rv dx' R.st tx' sx') (cP3.out r3 (by simp)) rfl rfl (ones _)
    have fr : ∀ m, m < H.next + 2 → ∀ j ∈ fpR dx' xs' tx' sx', j ∉ [m] := fun m hm j hj => by rw [List.mem_singleton]; have := r4 j hj; omega
    have R5 := r2.out s3 (fr _ (by omega))
    have ntx : ∀ m, m < H.next + 2 → m ∉ rid tx' := fun m hm z => by have := r4 m (List.mem_append_right _ (List.mem_append_left _ z)); omega
    have b1 := hb.d d (List.mem_of_getElem? hd)
    have b2 := hb.t t (List.mem_of_getElem? ht)
    obtain ⟨H7, t1, t2, t3, t4⟩ := fail_c s2 R5 (fun z => by have := r4 _ z; omega) ht hd b1.1 b1.2 b2.1 b2.2 now
    have ntp : ∀ m, m < H.next + 2 → m ≠ H.next → m ∉ H.next :: rid tx' := fun m hm hne z => (List.mem_cons.1 z).elim hne (ntx m hm)
    have cQ7 := ((cQ3.out r3 (by simp)).out s3 (by rw [List.mem_singleton]; omega)).out t4 (ntp _ (by omega) (by omega))
    generalize failR R i t d now = R7 at *
    have k7 : cellsAt H7 H.next 0 4 = some (rv dx' R7.st tx' sx') := t2.cellsAt 4 0 (by simp)
    obtain ⟨H8, w1, w2, w3, w4⟩ := stAll (n := 4) (vs := rv dx' R7.st tx' sx') cQ7 rfl rfl (ones _)
    have k8 : cellsAt H8 (H.next + 1) 0 4 = some (rv dx' R7.st tx' sx') := w2.cellsAt 4 0 (by simp)
    have hge : ∀ j ∈ rid tx', H.next ≤ j := fun j hj => by have := r4 j (List.mem_append_right _ (List.mem_append_left _ hj)); omega
    have out := outNew (outNew (outNew (o13.trans r3) s3 (one_ge (Nat.le_refl _))) t4 (fun j hj => (List.mem_cons.1 hj).elim (fun e => by omega) (hge j))) w3 (one_ge (Nat.le_succ _))
    refine ⟨dx', xs', tx', sx', H8, c__run_Run_Fail ?_, t3.out w3 (fr _ (by omega)), out, fun j hj => by have := r4 j hj; omega⟩
    unfold s__run_Run_Fail
    simp (disch := (first | assumption | omega | (simp only [k_d, k_c, Nat.reduceAdd, Nat.reduceLeDiff, Nat.reduceLT] <;> fail) | (simp only [k_c]; omega) | (simp only [k_d, k_c, Nat.reduceAdd, Nat.reduceLeDiff, Nat.reduceLT, *] <;> fail) | fail)) only [hbx, n1, hA2, k1, hm, d0, k3, r1, s1, t1, k7, w1, k8, k_a, k_b, Nat.reduceAdd, k_s, k_x, Int.reduceBEq, Int.reduceBNe, Int.reduceLT, Int.reduceLE, Int.reduceGT, Int.reduceGE, Int.reduceNeg]
  · have d0 : (heldM R task try_ != 0) = true := by simp [h0]
    rw [if_neg h0]
    obtain ⟨H4, w1, w2, w3, w4⟩ := stAll (n := 4) (vs := zR) cQ3 rfl rfl rfl
    have k5 : cellsAt H4 (H.next + 1) 0 4 = some zR := w2.cellsAt 4 0 (by simp)
    refine Ans.err (c__run_Run_Fail (?_ : _ = some (_, H4))) o13 w3 (Nat.le_succ _)
    unfold s__run_Run_Fail
    simp (disch := (first | assumption | omega | (simp only [k_d, k_c, Nat.reduceAdd, Nat.reduceLeDiff, Nat.reduceLT] <;> fail) | (simp only [k_c]; omega) | (simp only [k_d, k_c, Nat.reduceAdd, Nat.reduceLeDiff, Nat.reduceLT, *] <;> fail) | fail)) only [hbx, n1, hA2, k1, hm, d0, w1, k5, k_a, k_b, Nat.reduceAdd, k_s, k_x, Int.reduceBEq, Int.reduceBNe, Int.reduceLT, Int.reduceLE, Int.reduceGT, Int.reduceGE, Int.reduceNeg]
end Go.Proofs.YthljbjokonglhaaGreatDoor.DfK
