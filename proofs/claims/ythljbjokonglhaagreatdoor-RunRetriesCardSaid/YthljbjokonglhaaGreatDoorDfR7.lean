/- What a run's Tick, Next, Same do, as contracts over the symbolic heap. Conditions: as each states them. -/
import Derived.Test.YthljbjokonglhaaGreatDoorDfR6
namespace Go.Proofs.YthljbjokonglhaaGreatDoor.DfK
open Go Am Am.K DfEnv DfM LibP DfG
set_option linter.unusedVariables false
set_option linter.unusedSimpArgs false
set_option maxRecDepth 10000
set_option maxHeartbeats 1000000
/-! Tick -/
def tickAt (now : Int) (R : Rn) (i : Nat) : Rn := match R.rs[i]?, R.ts[i]? with
  | some t, some d => if R.st ≠ 0 ∨ now < t.til then R else if t.ph = 2 then failR R i t d now else if t.ph = 5 then { R with rs := R.rs.set i { t with ph := 1, til := 0 } } else R
  | _, _ => R
def tickN (now : Int) : Nat → Nat → Rn → Rn
  | 0, _, R => R
  | m + 1, i, R => tickN now m (i + 1) (tickAt now R i)
def tickM (R : Rn) (now : Int) : Rn := tickN now R.rs.length 0 R
theorem mem_set {rs : List RT} {i : Nat} {u v : RT} (h : v ∈ rs.set i u) : v ∈ rs ∨ v = u := List.mem_or_eq_of_mem_set h
theorem failR_keep {R : Rn} {i : Nat} {t : RT} {d : Tk} {now : Int} (ht : R.rs[i]? = some t) (hk : Okr R) (hb : Bd2 R) : Okr (failR R i t d now) ∧ Bd2 (failR R i t d now) ∧ (failR R i t d now).ts = R.ts ∧ (failR R i t d now).sg = R.sg ∧ (failR R i t d now).rs.length = R.rs.length := by
  have hbt := hb.t t (List.mem_of_getElem? ht)
  unfold failR
  split
  · refine ⟨hk.set i _, ⟨hb.d, fun u hu => ?_⟩, rfl, rfl, List.length_set⟩
    rcases mem_set hu with hu | rfl
    · exact hb.t u hu
    · exact hbt
  · have h1 := hk.set i { t with ph := 4, til := 0 }
    refine ⟨⟨⟨h1.sm.n, h1.sm.a, h1.sm.r, h1.sm.s⟩, h1.len, h1.aft⟩, ⟨hb.d, fun u hu => ?_⟩, rfl, rfl, List.length_set⟩
    rcases mem_set hu with hu | rfl
    · exact hb.t u hu
    · exact hbt
theorem tickAt_keep {R : Rn} {i : Nat} {now : Int} (hk : Okr R) (hb : Bd2 R) : Okr (tickAt now R i) ∧ Bd2 (tickAt now R i) ∧ (tickAt now R i).ts = R.ts ∧ (tickAt now R i).sg = R.sg ∧ (tickAt now R i).rs.length = R.rs.length := by
  unfold tickAt
  split
  · rename_i t d ht hd
    split
    · exact ⟨hk, hb, rfl, rfl, rfl⟩
    · split
      · exact failR_keep ht hk hb
      · split
        · refine ⟨hk.set i _, ⟨hb.d, fun u hu => ?_⟩, rfl, rfl, List.length_set⟩
          rcases mem_set hu with hu | rfl
          · exact hb.t u hu
          · exact hb.t t (List.mem_of_getElem? ht)
        · exact ⟨hk, hb, rfl, rfl, rfl⟩
  · exact ⟨hk, hb, rfl, rfl, rfl⟩
theorem tick_loop {dx tx sx x16 : AV} {xs : List AV} {P n : Nat} {now : Int} (hn : n ≤ 1000) (hp : P ∉ fpR dx xs tx sx) : ∀ (m i : Nat) (H : Hp) (R : Rn), i + m = n → R.rs.length = n → Cs H P (rv dx R.st tx sx) 47 0 → RO H dx xs tx sx R → Okr R → Bd2 R →
    ∃ H', (∀ j12 : K.Fn 2, l__run_Run_Tick JN GO cK j12 (.int .i64 now) (.ptr P 0) x16 (.int .i64 (n : Nat)) (.int .i64 (i : Nat)) H = j12 (.ptr P 0) x16 H') ∧ Cs H' P (rv dx (tickN now m i R).st tx sx) 47 0 ∧ RO H' dx xs tx sx (tickN now m i R) ∧ Out (P :: rid tx) H H'
  | 0, i, H, R, hm, hl, hC, hO, hk, hb => by
    obtain rfl : i = n := by omega
    refine ⟨H, fun j12 => ?_, hC, hO, Out.refl _ _⟩
    rw [ql__run_Run_Tick]
    simp only [bl__run_Run_Tick, lt_f, k_s, k_x, Int.reduceBEq, Int.reduceBNe, Int.reduceLT, Int.reduceLE, Int.reduceGT, Int.reduceGE, Int.reduceNeg]
  | m + 1, i, H, R, hm, hl, hC, hO, hk, hb => by
    have h1 : i < n := by omega
    have es := wrap_s h1 (by omega)
    have ht : R.rs[i]? = some (R.rs[i]'(by omega)) := List.getElem?_eq_getElem _
    have hlt : R.ts.length = n := by rw [← hk.len]; exact hl
    have hd : R.ts[i]? = some (R.ts[i]'(by omega)) := List.getElem?_eq_getElem _
    have kp := tickAt_keep (i := i) (now := now) hk hb
    have hA : tickAt now R i = (if R.st ≠ 0 ∨ now < (R.rs[i]'(by omega)).til then R else if (R.rs[i]'(by omega)).ph = 2 then failR R i (R.rs[i]'(by omega)) (R.ts[i]'(by omega)) now else if (R.rs[i]'(by omega)).ph = 5 then { R with rs := R.rs.set i { (R.rs[i]'(by omega)) with ph := 1, til := 0 } } else R) := by
      unfold tickAt; rw [ht, hd]
    generalize R.rs[i]'(by omega) = t at *
    generalize R.ts[i]'(by omega) = d at *
    have c1 : cellAt H P 1 = some (.int .i64 R.st) := hC.cellAt rfl
    have c2 : cellAt H P 2 = some tx := hC.cellAt rfl
    obtain ⟨b, o, q1, q2, q3, q4, q5⟩ := hO.v.t.at (by decide) (rts_get ht)
    have r0 : cellAt H b o = some (.int .i64 t.ph) := by have := q5 0 _ (fd_rt t).1; rwa [Nat.add_zero] at this
    have r2 : cellAt H b (o + 2) = some (.int .i64 t.til) := q5 2 _ (fd_rt t).2.2.1
    have hil := (List.getElem?_eq_some_iff.1 ht).1
    show ∃ H', (∀ j12 : K.Fn 2, _) ∧ Cs H' P (rv dx (tickN now m (i + 1) (tickAt now R i)).st tx sx) 47 0 ∧ RO H' dx xs tx sx (tickN now m (i + 1) (tickAt now R i)) ∧ Out (P :: rid tx) H H'
    have go : ∀ (H1 : Hp), Cs H1 P (rv dx (tickAt now R i).st tx sx) 47 0 → RO H1 dx xs tx sx (tickAt now R i) → Out (P :: rid tx) H H1 → (∀ H' : Hp, (∀ j12 : K.Fn 2, l__run_Run_Tick JN GO cK j12 (.int .i64 now) (.ptr P 0) x16 (.int .i64 (n : Nat)) (.int .i64 ((i + 1 : Nat) : Int)) H1 = j12 (.ptr P 0) x16 H') → ∀ j12 : K.Fn 2, l__run_Run_Tick JN GO cK j12 (.int .i64 now) (.ptr P 0) x16 (.int .i64 (n : Nat)) (.int .i64 (i : Nat)) H = j12 (.ptr P 0) x16 H') →
        ∃ H', (∀ j12 : K.Fn 2, l__run_Run_Tick JN GO cK j12 (.int .i64 now) (.ptr P 0) x16 (.int .i64 (n : Nat)) (.int .i64 (i : Nat)) H = j12 (.ptr P 0) x16 H') ∧ Cs H' P (rv dx (tickN now m (i + 1) (tickAt now R i)).st tx sx) 47 0 ∧ RO H' dx xs tx sx (tickN now m (i + 1) (tickAt now R i)) ∧ Out (P :: rid tx) H H' := by
      intro H1 a1 a2 a3 a4
      obtain ⟨H', i1, i2, i3, i4⟩ := tick_loop (x16 := x16) hn hp m (i + 1) H1 (tickAt now R i) (by omega) (kp.2.2.2.2.trans hl) a1 a2 kp.1 kp.2.1
      exact ⟨H', a4 H' i1, i2, i3, a3.trans i4⟩
    clear kp
    by_cases h0 : R.st = 0
    · have d0 : (R.st != 0) = false := by simp [h0]
      by_cases h2 : now < t.til
      · have d2 : decide (now < t.til) = true := decide_eq_true h2
        rw [if_pos (.inr h2)] at hA
        rw [hA] at go ⊢
        refine go H hC hO (Out.refl _ _) fun H' i1 j12 => ?_
        rw [ql__run_Run_Tick]
        simp (disch := (first | assumption | omega | (simp only [k_d, k_c, Nat.reduceAdd, Nat.reduceLeDiff, Nat.reduceLT] <;> fail) | (simp only [k_c]; omega) | (simp only [k_d, k_c, Nat.reduceAdd, Nat.reduceLeDiff, Nat.reduceLT, *] <;> fail) | fail)) only [bl__run_Run_Tick, lt_t h1, c1, c2, q1, d0, r2, d2, es, i1, k_a, k_b, Nat.reduceAdd, k_s, k_x, Int.reduceBEq, Int.reduceBNe, Int.reduceLT, Int.reduceLE, Int.reduceGT, Int.reduceGE, Int.reduceNeg]
      · have d2 : decide (now < t.til) = false := decide_eq_false h2
        rw [if_neg (fun q => q.elim (fun z => z h0) h2)] at hA
        by_cases h3 : t.ph = 2
        · have d3 : (t.ph == 2) = true := by simp [h3]
          rw [if_pos h3] at hA
          rw [hA] at go ⊢
          have bd := hb.d d (List.mem_of_getElem? hd)
          have bt := hb.t t (List.mem_of_getElem? ht)
          obtain ⟨H1, f1, f2, f3, f4⟩ := fail_c hC hO hp ht hd bd.1 bd.2 bt.1 bt.2 now
          refine go H1 f2 f3 f4 fun H' i1 j12 => ?_
          rw [ql__run_Run_Tick]
          simp (disch := (first | assumption | omega | (simp only [k_d, k_c, Nat.reduceAdd, Nat.reduceLeDiff, Nat.reduceLT] <;> fail) | (simp only [k_c]; omega) | (simp only [k_d, k_c, Nat.reduceAdd, Nat.reduceLeDiff, Nat.reduceLT, *] <;> fail) | fail)) only [bl__run_Run_Tick, lt_t h1, c1, c2, q1, d0, r2, d2, r0, d3, f1, es, i1, k_a, k_b, Nat.reduceAdd, k_s, k_x, Int.reduceBEq, Int.reduceBNe, Int.reduceLT, Int.reduceLE, Int.reduceGT, Int.reduceGE, Int.reduceNeg]
        · have d3 : (t.ph == 2) = false := by simp [h3]
          rw [if_neg h3] at hA
          by_cases h5 : t.ph = 5
          · have d5 : (t.ph == 5) = true := by simp [h5]
            rw [if_pos h5] at hA
            rw [hA] at go ⊢
            obtain ⟨H2, w1, w2, w3, w4⟩ := hO.t.st1 (k := 0) (v := .int .i64 1) (rts_get ht) q1 rfl (by decide)
            have e2 : ((rts R.rs).set i ((rtC t).set 0 (.int .i64 1)))[i]? = some ((rtC t).set 0 (.int .i64 1)) := List.getElem?_set_self (by rw [rts_len]; exact hil)
            obtain ⟨H3, v1, v2, v3, v4⟩ := w2.st1 (k := 2) (v := .int .i64 0) e2 q1 rfl (by decide)
            rw [List.set_set] at v2
            have hset : ((rtC t).set 0 (.int .i64 1)).set 2 (.int .i64 0) = rtC { t with ph := 1, til := 0 } := rfl
            rw [hset, rts_set] at v2
            rw [Nat.add_zero] at w1
            have o3 := w3.trans v3
            have hpt : P ∉ rid tx := fun z => hp (List.mem_append_right _ (List.mem_append_left _ z))
            refine go H3 (hC.out o3 hpt) (hO.upd v2 o3) (o3.mono fun j hj => .tail _ hj) fun H' i1 j12 => ?_
            rw [ql__run_Run_Tick]
            simp (disch := (first | assumption | omega | (simp only [k_d, k_c, Nat.reduceAdd, Nat.reduceLeDiff, Nat.reduceLT] <;> fail) | (simp only [k_c]; omega) | (simp only [k_d, k_c, Nat.reduceAdd, Nat.reduceLeDiff, Nat.reduceLT, *] <;> fail) | fail)) only [bl__run_Run_Tick, lt_t h1, c1, c2, q1, d0, r2, d2, r0, d3, d5, w1, v1, es, i1, k_a, k_b, Nat.reduceAdd, k_s, k_x, Int.reduceBEq, Int.reduceBNe, Int.reduceLT, Int.reduceLE, Int.reduceGT, Int.reduceGE, Int.reduceNeg]
          · have d5 : (t.ph == 5) = false := by simp [h5]
            rw [if_neg h5] at hA
            rw [hA] at go ⊢
            refine go H hC hO (Out.refl _ _) fun H' i1 j12 => ?_
            rw [ql__run_Run_Tick]
            simp (disch := (first | assumption | omega | (simp only [k_d, k_c, Nat.reduceAdd, Nat.reduceLeDiff, Nat.reduceLT] <;> fail) | (simp only [k_c]; omega) | (simp only [k_d, k_c, Nat.reduceAdd, Nat.reduceLeDiff, Nat.reduceLT, *] <;> fail) | fail)) only [bl__run_Run_Tick, lt_t h1, c1, c2, q1, d0, r2, d2, r0, d3, d5, es, i1, k_a, k_b, Nat.reduceAdd, k_s, k_x, Int.reduceBEq, Int.reduceBNe, Int.reduceLT, Int.reduceLE, Int.reduceGT, Int.reduceGE, Int.reduceNeg]
    · have d0 : (R.st != 0) = true := by simp [h0]
      rw [if_pos (.inl h0)] at hA
      rw [hA] at go ⊢
      refine go H hC hO (Out.refl _ _) fun H' i1 j12 => ?_
      rw [ql__run_Run_Tick]
      simp (disch := (first | assumption | omega | (simp only [k_d, k_c, Nat.reduceAdd, Nat.reduceLeDiff, Nat.reduceLT] <;> fail) | (simp only [k_c]; omega) | (simp only [k_d, k_c, Nat.reduceAdd, Nat.reduceLeDiff, Nat.reduceLT, *] <;> fail) | fail)) only [bl__run_Run_Tick, lt_t h1, c1, c2, q1, d0, es, i1, k_a, k_b, Nat.reduceAdd, k_s, k_x, Int.reduceBEq, Int.reduceBNe, Int.reduceLT, Int.reduceLE, Int.reduceGT, Int.reduceGE, Int.reduceNeg]
theorem tick_c {H : Hp} {dx tx sx : AV} {xs : List AV} {R : Rn} (h : RV H dx xs tx sx R) (hk : Okr R) (hb : Bd2 R) (now : Int) :
    ∃ dx' xs' tx' sx' H', cK (.func (.func 23) [] []) [.agg (rv dx R.st tx sx), .int .i64 now] H = some (.agg (rv dx' (tickM R now).st tx' sx'), H') ∧ RO H' dx' xs' tx' sx' (tickM R now) ∧ Out [] H H' ∧ ∀ j ∈ fpR dx' xs' tx' sx', H.next ≤ j := by
  have hbx : bx 47 (.agg (rv dx R.st tx sx)) H = some (H.next, al H (rv dx R.st tx sx) 47 0) := bx_alA (by simp)
  have o1 := al_out H (rv dx R.st tx sx) 47 0
  have c1 := al_cs H (rv dx R.st tx sx) 47 0
  have n1 : (al H (rv dx R.st tx sx) 47 0).next = H.next + 1 := rfl
  generalize al H (rv dx R.st tx sx) 47 0 = H1 at *
  have o2 := al_out H1 zR 47 0
  have c2 := al_cs H1 zR 47 0
  have n2 : (al H1 zR 47 0).next = H.next + 2 := by rw [al_nx, n1]
  rw [n1] at c2
  generalize hA2 : al H1 zR 47 0 = H2 at *
  have o12 := o1.trans o2
  have cP2 := c1.out o2 (by simp)
  have k1 : cellsAt H2 H.next 0 4 = some (rv dx R.st tx sx) := cP2.cellsAt 4 0 (by simp)
  obtain ⟨dx', xs', tx', sx', H4, r1, r2, r3, r4⟩ := clone_c (h.out0 o12) hk.sm
  have n4 := r3.nx
  have ones : ∀ z : Int, (rv dx' z tx' sx').all oneC = true := fun z => by simp [r2.v.d.row.one, r2.t.rl.one, r2.s.oneX, oneC_i]
  obtain ⟨H5, s1, s2, s3, s4⟩ := stAll (n := 4) (vs := rv dx' R.st tx' sx') (cP2.out r3 (by simp)) rfl rfl (ones _)
  have fr : ∀ m, m < H.next + 2 → ∀ j ∈ fpR dx' xs' tx' sx', j ∉ [m] := fun m hm j hj => by rw [List.mem_singleton]; have := r4 j hj; omega
  have R5 := r2.out s3 (fr _ (by omega))
  have ntx : ∀ m, m < H.next + 2 → m ∉ rid tx' := fun m hm z => by have := r4 m (List.mem_append_right _ (List.mem_append_left _ z)); omega
  have hr := hk.sm.r
  obtain ⟨H7, t1, t2, t3, t4⟩ := tick_loop (x16 := .ptr (H.next + 1) 0) (P := H.next) (now := now) hr (fun z => by have := r4 _ z; omega) R.rs.length 0 H5 R (by omega) rfl s2 R5 hk hb
  rw [show (((0 : Nat) : Int)) = 0 from rfl] at t1
  have ht2 : Cs H7 H.next (rv dx' (tickM R now).st tx' sx') 47 0 := t2
  have ht3 : RO H7 dx' xs' tx' sx' (tickM R now) := t3
  have ntp : ∀ m, m < H.next + 2 → m ≠ H.next → m ∉ H.next :: rid tx' := fun m hm hne z => (List.mem_cons.1 z).elim hne (ntx m hm)
  have cQ7 := ((c2.out r3 (by simp)).out s3 (by rw [List.mem_singleton]; omega)).out t4 (ntp _ (by omega) (by omega))
  have k5 : cellAt H5 H.next 2 = some tx' := s2.cellAt rfl
  have tl := R5.v.tlen
  have k7 : cellsAt H7 H.next 0 4 = some (rv dx' (tickM R now).st tx' sx') := ht2.cellsAt 4 0 (by simp)
  obtain ⟨H8, w1, w2, w3, w4⟩ := stAll (n := 4) (vs := rv dx' (tickM R now).st tx' sx') cQ7 rfl rfl (ones _)
  have k8 : cellsAt H8 (H.next + 1) 0 4 = some (rv dx' (tickM R now).st tx' sx') := w2.cellsAt 4 0 (by simp)
  have hge : ∀ j ∈ rid tx', H.next ≤ j := fun j hj => by have := r4 j (List.mem_append_right _ (List.mem_append_left _ hj)); omega
  have out := outNew (outNew (outNew (o12.trans r3) s3 (one_ge (Nat.le_refl _))) t4 (fun j hj => (List.mem_cons.1 hj).elim (fun e => by omega) (hge j))) w3 (one_ge (Nat.le_succ _))
  refine ⟨dx', xs', tx', sx', H8, c__run_Run_Tick ?_, ht3.out w3 (fr _ (by omega)), out, fun j hj => by have := r4 j hj; omega⟩
  unfold s__run_Run_Tick
  simp (disch := (first | assumption | omega | (simp only [k_d, k_c, Nat.reduceAdd, Nat.reduceLeDiff, Nat.reduceLT] <;> fail) | (simp only [k_c]; omega) | (simp only [k_d, k_c, Nat.reduceAdd, Nat.reduceLeDiff, Nat.reduceLT, *] <;> fail) | fail)) only [hbx, n1, hA2, k1, r1, s1, k5, tl, t1, k7, w1, k8, k_a, k_b, Nat.reduceAdd, k_s, k_x, Int.reduceBEq, Int.reduceBNe, Int.reduceLT, Int.reduceLE, Int.reduceGT, Int.reduceGE, Int.reduceNeg]
/-! Next -/
def nxS (st : Int) (t : RT) (a : Int × Bool) : Int × Bool := if st = 0 ∧ (t.ph = 2 ∨ t.ph = 5) ∧ (a.2 = false ∨ t.til < a.1) then (t.til, true) else a
def nxF (st : Int) : List RT → Int × Bool → Int × Bool
  | [], a => a
  | t :: r, a => nxF st r (nxS st t a)
theorem next_l {R : Rn} {tx : AV} {P : Nat} (hn : R.rs.length ≤ 1000) : ∀ (r : List RT) (i : Nat) (H : Hp) (a : Int × Bool), i ≤ R.rs.length → R.rs.drop i = r → cellAt H P 1 = some (.int .i64 R.st) → P < H.next → RL H 4 tx (rts R.rs) →
    ∃ H', (∀ j6 : K.Fn 2, l__run_Run_Next JN GO cK j6 (.ptr P 0) (.int .i64 a.1) (.bool a.2) tx (.int .i64 (R.rs.length : Nat)) (.int .i64 (i : Nat)) H = j6 (.int .i64 (nxF R.st r a).1) (.bool (nxF R.st r a).2) H') ∧ Out [] H H'
  | [], i, H, a, hi, h, hP, hPl, hT => by
    obtain rfl := drop_nil hi h
    refine ⟨H, fun j6 => ?_, Out.refl _ _⟩
    rw [ql__run_Run_Next]
    simp only [bl__run_Run_Next, lt_f, nxF, k_s, k_x, Int.reduceBEq, Int.reduceBNe, Int.reduceLT, Int.reduceLE, Int.reduceGT, Int.reduceGE, Int.reduceNeg]
  | t :: r, i, H, a, hi, h, hP, hPl, hT => by
    obtain ⟨h1, h2, h3⟩ := hd_drop h
    have es := wrap_s h1 (by omega)
    obtain ⟨b, o, q1, q2, q3, q4, q5⟩ := hT.at (by decide) (rts_get h2)
    have hsr := st_rt t H
    have o1 := al_out H (rtC t) 51 0
    have cT := al_cs H (rtC t) 51 0
    have n1 : (al H (rtC t) 51 0).next = H.next + 1 := rfl
    obtain ⟨e0, e1, e2, e3⟩ := fd_rt t
    have k0 : cellAt (al H (rtC t) 51 0) H.next 0 = some (.int .i64 t.ph) := cT.cellAt e0
    have k2 : cellAt (al H (rtC t) 51 0) H.next 2 = some (.int .i64 t.til) := cT.cellAt e2
    have hP1 : cellAt (al H (rtC t) 51 0) P 1 = some (.int .i64 R.st) := by rw [cellAt_al_ne hPl]; exact hP
    generalize al H (rtC t) 51 0 = H1 at *
    obtain ⟨H', i1, i2⟩ := next_l (tx := tx) (P := P) hn r (i + 1) H1 (nxS R.st t a) h1 h3 hP1 (by omega) (hT.out0 o1)
    refine ⟨H', fun j6 => ?_, o1.trans i2⟩
    rw [ql__run_Run_Next]
    show _ = j6 (.int .i64 (nxF R.st r (nxS R.st t a)).1) (.bool (nxF R.st r (nxS R.st t a)).2) H'
    obtain ⟨at', ok⟩ := a
    unfold nxS at i1 ⊢
    simp only at i1 ⊢
    by_cases s0 : R.st = 0
    · have d0 : (R.st == 0) = true := by simp [s0]
      have fin : (t.ph = 2 ∨ t.ph = 5) → ∀ p2 : Bool, (t.ph == 2) = p2 → (p2 = false → (t.ph == 5) = true) → bl__run_Run_Next JN GO cK j6 (l__run_Run_Next JN GO cK j6) (.ptr P 0) (.int .i64 at') (.bool ok) tx (.int .i64 (R.rs.length : Nat)) (.int .i64 (i : Nat)) H = j6 (.int .i64 (nxF R.st r (if R.st = 0 ∧ (t.ph = 2 ∨ t.ph = 5) ∧ (ok = false ∨ t.til < at') then (t.til, true) else (at', ok))).1) (.bool (nxF R.st r (if R.st = 0 ∧ (t.ph = 2 ∨ t.ph = 5) ∧ (ok = false ∨ t.til < at') then (t.til, true) else (at', ok))).2) H' := by
        intro hp p2 d2 d5
        cases ok with
        | false =>
          rw [if_pos ⟨s0, hp, .inl rfl⟩] at i1 ⊢
          cases p2 with
          | true => simp (disch := (first | assumption | omega | (simp only [k_d, k_c, Nat.reduceAdd, Nat.reduceLeDiff, Nat.reduceLT] <;> fail) | (simp only [k_c]; omega) | (simp only [k_d, k_c, Nat.reduceAdd, Nat.reduceLeDiff, Nat.reduceLT, *] <;> fail) | fail)) only [bl__run_Run_Next, lt_t h1, q1, q4, hsr, hP1, d0, k0, k2, d2, es, i1, k_a, k_b, Nat.reduceAdd, k_s, k_x, Int.reduceBEq, Int.reduceBNe, Int.reduceLT, Int.reduceLE, Int.reduceGT, Int.reduceGE, Int.reduceNeg]
          | false =>
            have d5' := d5 rfl
            simp (disch := (first | assumption | omega | (simp only [k_d, k_c, Nat.reduceAdd, Nat.reduceLeDiff, Nat.reduceLT] <;> fail) | (simp only [k_c]; omega) | (simp only [k_d, k_c, Nat.reduceAdd, Nat.reduceLeDiff, Nat.reduceLT, *] <;> fail) | fail)) only [bl__run_Run_Next, lt_t h1, q1, q4, hsr, hP1, d0, k0, k2, d2, d5', es, i1, k_a, k_b, Nat.reduceAdd, k_s, k_x, Int.reduceBEq, Int.reduceBNe, Int.reduceLT, Int.reduceLE, Int.reduceGT, Int.reduceGE, Int.reduceNeg]
        | true =>
          by_cases h6 : t.til < at'
          · have d6 : decide (t.til < at') = true := decide_eq_true h6
            rw [if_pos ⟨s0, hp, .inr h6⟩] at i1 ⊢
            cases p2 with
            | true => simp (disch := (first | assumption | omega | (simp only [k_d, k_c, Nat.reduceAdd, Nat.reduceLeDiff, Nat.reduceLT] <;> fail) | (simp only [k_c]; omega) | (simp only [k_d, k_c, Nat.reduceAdd, Nat.reduceLeDiff, Nat.reduceLT, *] <;> fail) | fail)) only [bl__run_Run_Next, lt_t h1, q1, q4, hsr, hP1, d0, k0, k2, d2, d6, es, i1, k_a, k_b, Nat.reduceAdd, k_s, k_x, Int.reduceBEq, Int.reduceBNe, Int.reduceLT, Int.reduceLE, Int.reduceGT, Int.reduceGE, Int.reduceNeg]
            | false =>
              have d5' := d5 rfl
              simp (disch := (first | assumption | omega | (simp only [k_d, k_c, Nat.reduceAdd, Nat.reduceLeDiff, Nat.reduceLT] <;> fail) | (simp only [k_c]; omega) | (simp only [k_d, k_c, Nat.reduceAdd, Nat.reduceLeDiff, Nat.reduceLT, *] <;> fail) | fail)) only [bl__run_Run_Next, lt_t h1, q1, q4, hsr, hP1, d0, k0, k2, d2, d5', d6, es, i1, k_a, k_b, Nat.reduceAdd, k_s, k_x, Int.reduceBEq, Int.reduceBNe, Int.reduceLT, Int.reduceLE, Int.reduceGT, Int.reduceGE, Int.reduceNeg]
          · have d6 : decide (t.til < at') = false := decide_eq_false h6
            rw [if_neg (fun q => q.2.2.elim (fun z => by cases z) h6)] at i1 ⊢
            cases p2 with
            | true => simp (disch := (first | assumption | omega | (simp only [k_d, k_c, Nat.reduceAdd, Nat.reduceLeDiff, Nat.reduceLT] <;> fail) | (simp only [k_c]; omega) | (simp only [k_d, k_c, Nat.reduceAdd, Nat.reduceLeDiff, Nat.reduceLT, *] <;> fail) | fail)) only [bl__run_Run_Next, lt_t h1, q1, q4, hsr, hP1, d0, k0, k2, d2, d6, es, i1, k_a, k_b, Nat.reduceAdd, k_s, k_x, Int.reduceBEq, Int.reduceBNe, Int.reduceLT, Int.reduceLE, Int.reduceGT, Int.reduceGE, Int.reduceNeg]
            | false =>
              have d5' := d5 rfl
              simp (disch := (first | assumption | omega | (simp only [k_d, k_c, Nat.reduceAdd, Nat.reduceLeDiff, Nat.reduceLT] <;> fail) | (simp only [k_c]; omega) | (simp only [k_d, k_c, Nat.reduceAdd, Nat.reduceLeDiff, Nat.reduceLT, *] <;> fail) | fail)) only [bl__run_Run_Next, lt_t h1, q1, q4, hsr, hP1, d0, k0, k2, d2, d5', d6, es, i1, k_a, k_b, Nat.reduceAdd, k_s, k_x, Int.reduceBEq, Int.reduceBNe, Int.reduceLT, Int.reduceLE, Int.reduceGT, Int.reduceGE, Int.reduceNeg]
      by_cases h2 : t.ph = 2
      · exact fin (.inl h2) true (by simp [h2]) (fun z => by cases z)
      · have d2 : (t.ph == 2) = false := by simp [h2]
        by_cases h5 : t.ph = 5
        · exact fin (.inr h5) false d2 (fun _ => by simp [h5])
        · have d5 : (t.ph == 5) = false := by simp [h5]
          rw [if_neg (fun q => q.2.1.elim h2 h5)] at i1 ⊢
          simp (disch := (first | assumption | omega | (simp only [k_d, k_c, Nat.reduceAdd, Nat.reduceLeDiff, Nat.reduceLT] <;> fail) | (simp only [k_c]; omega) | (simp only [k_d, k_c, Nat.reduceAdd, Nat.reduceLeDiff, Nat.reduceLT, *] <;> fail) | fail)) only [bl__run_Run_Next, lt_t h1, q1, q4, hsr, hP1, d0, k0, k2, d2, d5, es, i1, k_a, k_b, Nat.reduceAdd, k_s, k_x, Int.reduceBEq, Int.reduceBNe, Int.reduceLT, Int.reduceLE, Int.reduceGT, Int.reduceGE, Int.reduceNeg]
    · have d0 : (R.st == 0) = false := by simp [s0]
      rw [if_neg (fun q => s0 q.1)] at i1 ⊢
      simp (disch := (first | assumption | omega | (simp only [k_d, k_c, Nat.reduceAdd, Nat.reduceLeDiff, Nat.reduceLT] <;> fail) | (simp only [k_c]; omega) | (simp only [k_d, k_c, Nat.reduceAdd, Nat.reduceLeDiff, Nat.reduceLT, *] <;> fail) | fail)) only [bl__run_Run_Next, lt_t h1, q1, q4, hsr, hP1, d0, es, i1, k_a, k_b, Nat.reduceAdd, k_s, k_x, Int.reduceBEq, Int.reduceBNe, Int.reduceLT, Int.reduceLE, Int.reduceGT, Int.reduceGE, Int.reduceNeg]
theorem next_c {H : Hp} {dx tx sx : AV} {xs : List AV} {R : Rn} (h : RV H dx xs tx sx R) (hr : R.rs.length ≤ 1000) :
    ∃ H', cK (.func (.func 22) [] []) [.agg (rv dx R.st tx sx)] H = some (.tuple [.int .i64 (nxF R.st R.rs (0, false)).1, .bool (nxF R.st R.rs (0, false)).2], H') ∧ Out [] H H' := by
  have hbx : bx 47 (.agg (rv dx R.st tx sx)) H = some (H.next, al H (rv dx R.st tx sx) 47 0) := bx_alA (by simp)
  have o1 := al_out H (rv dx R.st tx sx) 47 0
  have c1 := al_cs H (rv dx R.st tx sx) 47 0
  have n1 : (al H (rv dx R.st tx sx) 47 0).next = H.next + 1 := rfl
  generalize al H (rv dx R.st tx sx) 47 0 = H1 at *
  have k2 : cellAt H1 H.next 2 = some tx := c1.cellAt rfl
  have tl := h.tlen
  obtain ⟨H', i1, i2⟩ := next_l (P := H.next) hr R.rs 0 H1 (0, false) (Nat.zero_le _) List.drop_zero (c1.cellAt rfl) (by omega) (h.t.out0 o1)
  rw [show (((0 : Nat) : Int)) = 0 from rfl] at i1
  simp only at i1
  refine ⟨H', c__run_Run_Next ?_, o1.trans i2⟩
  unfold s__run_Run_Next
  simp (disch := (first | assumption | omega | (simp only [k_d, k_c, Nat.reduceAdd, Nat.reduceLeDiff, Nat.reduceLT] <;> fail) | (simp only [k_c]; omega) | (simp only [k_d, k_c, Nat.reduceAdd, Nat.reduceLeDiff, Nat.reduceLT, *] <;> fail) | fail)) only [hbx, k2, tl, i1, k_a, k_b, Nat.reduceAdd, k_s, k_x, Int.reduceBEq, Int.reduceBNe, Int.reduceLT, Int.reduceLE, Int.reduceGT, Int.reduceGE, Int.reduceNeg]
end Go.Proofs.YthljbjokonglhaaGreatDoor.DfK
