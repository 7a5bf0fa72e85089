/- What a run's settle does, as a contract over the symbolic heap. Conditions: as each states them. -/
import Derived.Test.YthljbjokonglhaaGreatDoorDfR2
namespace Go.Proofs.YthljbjokonglhaaGreatDoor.DfK
open Go Am Am.K DfEnv DfM LibP DfG
set_option linter.unusedVariables false
set_option linter.unusedSimpArgs false
set_option maxRecDepth 10000
set_option maxHeartbeats 1000000
def phN (rs : List RT) (a : Int) : Int := ((rs[a.toNat]?).map (·.ph)).getD 0
def blk (rs : List RT) (t : Tk) : Bool := t.after.any (fun a => phN rs a != 3)
def rdy (rs : List RT) (sg : List Str) (t : Tk) (r : RT) : Bool := (r.ph == 0) && (!(blk rs t) && ((t.on == []) || sg.any (fun a => t.on == a)))
def settleT (rs : List RT) (sg : List Str) (t : Tk) (r : RT) : RT := if rdy rs sg t r then { r with ph := 1 } else r
def settleM (R : Rn) : Rn := { R with rs := List.zipWith (settleT R.rs R.sg) R.ts R.rs, st := if R.rs.all (fun r => r.ph == 3) then 1 else R.st }
theorem settleT_ph (rs : List RT) (sg : List Str) (t : Tk) (r : RT) : ((settleT rs sg t r).ph == 3) = (r.ph == 3) := by
  unfold settleT
  split
  · rename_i h
    unfold rdy at h
    rw [Bool.and_eq_true, beq_iff_eq] at h
    rw [h.1]; rfl
  · rfl
theorem any_congr' {α : Type} {p q : α → Bool} : ∀ {l : List α}, (∀ a ∈ l, p a = q a) → l.any p = l.any q
  | [], _ => rfl
  | a :: l, h => by rw [List.any_cons, List.any_cons, h a (.head _), any_congr' fun b hb => h b (.tail _ hb)]
theorem settle1_c {H : Hp} {p G : Nat} {tx : AV} {rk : List RT} (hG : cellAt H G 0 = some (.ptr p 0)) (hC : cellAt H p 2 = some tx) (hT : RL H 4 tx (rts rk)) {a : Int} (h0 : 0 ≤ a) (h1 : a < rk.length) :
    cK (.func (.func 78) [] [.ptr G 0]) [.int .i64 a] H = some (.bool (phN rk a != 3), H) := by
  obtain ⟨m, rfl⟩ : ∃ m : Nat, a = m := ⟨a.toNat, by omega⟩
  have hm : rk[m]? = some (rk[m]'(by omega)) := List.getElem?_eq_getElem _
  obtain ⟨b, o, q1, q2, q3, q4, q5⟩ := hT.at (by decide) (rts_get hm)
  have e0 := q5 0 _ (fd_rt _).1
  rw [Nat.add_zero] at e0
  have hp : phN rk (m : Int) = (rk[m]'(by omega)).ph := by unfold phN; rw [Int.toNat_natCast, hm]; rfl
  refine c_run_Run_settle_1 ?_
  unfold s_run_Run_settle_1
  rw [hp]
  simp (disch := (first | assumption | omega | (simp only [k_d, k_c, Nat.reduceAdd, Nat.reduceLeDiff, Nat.reduceLT] <;> fail) | (simp only [k_c]; omega) | (simp only [k_d, k_c, Nat.reduceAdd, Nat.reduceLeDiff, Nat.reduceLT, *] <;> fail) | fail)) only [hG, hC, q1, e0, k_a, k_b, Nat.reduceAdd, k_s, k_x, Int.reduceBEq, Int.reduceBNe, Int.reduceLT, Int.reduceLE, Int.reduceGT, Int.reduceGE, Int.reduceNeg]
theorem rts_set (l : List RT) (i : Nat) (t : RT) : (rts l).set i (rtC t) = rts (l.set i t) := by simp [rts, List.map_set]
theorem settle_loop {ts : List Tk} {dx tx sx : AV} {xs : List AV} {st : Int} {p G : Nat} {sg : List Str} {rs0 : List RT} (hn : ts.length ≤ 1000) (hal : ∀ t ∈ ts, t.after.length ≤ 1000) (hsg : sg.length ≤ 1000) (hr0 : rs0.length = ts.length) (ha : ∀ t ∈ ts, ∀ a ∈ t.after, 0 ≤ a ∧ a < (ts.length : Int)) (hpt : p ∉ rid tx) (hGt : G ∉ rid tx) (hd : ∀ j ∈ rid tx, j ∉ fpD dx xs ∧ j ∉ rid sx) :
    ∀ (r : List Tk) (i : Nat) (H : Hp) (rk : List RT) (all : Bool), i ≤ ts.length → ts.drop i = r → Cs H p (rv dx st tx sx) 47 0 → cellAt H G 0 = some (.ptr p 0) → G < H.next → RD H dx xs ts → OL H 51 4 tx (rts rk) → Rw H 1 sx (strs sg) → rk.length = ts.length → (∀ k, i ≤ k → rk[k]? = rs0[k]?) → (∀ k, k < i → rk[k]? = (List.zipWith (settleT rs0 sg) ts rs0)[k]?) →
    ∃ H', (∀ j16 : K.Fn 2, l_run_Run_settle JN GO cK j16 (.ptr G 0) (.bool all) dx (.int .i64 (ts.length : Nat)) (.int .i64 (i : Nat)) H = j16 (.ptr G 0) (.bool (all && (rs0.drop i).all (fun r => r.ph == 3))) H') ∧ Cs H' p (rv dx st tx sx) 47 0 ∧ cellAt H' G 0 = some (.ptr p 0) ∧ OL H' 51 4 tx (rts (List.zipWith (settleT rs0 sg) ts rs0)) ∧ Out (rid tx) H H'
  | [], i, H, rk, all, hi, h, hC, hG, hGl, hR, hO, hS, hl, h1, h2 => by
    obtain rfl := drop_nil hi h
    have hrk : rk = List.zipWith (settleT rs0 sg) ts rs0 := by
      apply List.ext_getElem?
      intro k
      by_cases hk : k < ts.length
      · exact h2 k hk
      · rw [List.getElem?_eq_none (by omega), List.getElem?_eq_none (by rw [List.length_zipWith]; omega)]
    refine ⟨H, fun j16 => ?_, hC, hG, by rw [← hrk]; exact hO, Out.refl _ _⟩
    rw [ql_run_Run_settle, List.drop_eq_nil_of_le (by omega), List.all_nil, Bool.and_true]
    simp only [bl_run_Run_settle, lt_f, k_s, k_x, Int.reduceBEq, Int.reduceBNe, Int.reduceLT, Int.reduceLE, Int.reduceGT, Int.reduceGE, Int.reduceNeg]
  | t :: r, i, H, rk, all, hi, h, hC, hG, hGl, hR, hO, hS, hl, h1, h2 => by
    obtain ⟨g1, g2, g3⟩ := hd_drop h
    have ht := List.mem_of_getElem? g2
    obtain ⟨x, b, o, q0, q1, q2, q3, q4, q5, q6⟩ := hR.at g2
    have es := wrap_s g1 (by omega)
    have hst := st_tk t x q1 H
    obtain ⟨e0, e1, e2, e3, e4, e5⟩ := fd_tk t x
    have o1 := al_out H (tkC t x) 43 0
    have cT := al_cs H (tkC t x) 43 0
    have hcell : ∀ H' : Hp, Out [] H H' → cellAt H' G 0 = some (.ptr p 0) ∧ cellAt H' p 2 = some tx ∧ cellAt H' p 3 = some sx := fun H' k => ⟨by rw [k.cellAt hGl (by simp)]; exact hG, (hC.out k (by simp)).cellAt rfl, (hC.out k (by simp)).cellAt rfl⟩
    obtain ⟨H2, f1, f2⟩ := containsFuncint_c (fv := .func (.func 78) [] [.ptr G 0]) (p := fun a => phN rk a != 3) (q2.out0 o1) (by have := hal t ht; omega) (fun H' k a hm => by
      obtain ⟨c1, c2, c3⟩ := hcell H' (o1.trans k)
      exact ⟨H', settle1_c c1 c2 (hO.rl.out0 (o1.trans k)) (ha t ht a hm).1 (by rw [hl]; exact (ha t ht a hm).2), Out.refl _ _⟩)
    have o2 := o1.trans f2
    have hn2 := o2.nx
    obtain ⟨c1, c2, c3⟩ := hcell H2 o2
    have cT2 := cT.out f2 (by simp)
    have k5 : cellAt H2 H.next 5 = some (.str t.on) := cT2.cellAt e5
    have kx : cellAt (al H (tkC t x) 43 0) H.next 1 = some x := cT.cellAt e1
    have hil : i < rs0.length := by omega
    have hri : rs0[i]? = some (rs0[i]'hil) := List.getElem?_eq_getElem _
    have hrk : rk[i]? = some (rs0[i]'hil) := by rw [h1 i (Nat.le_refl _), hri]
    have hdr : rs0.drop i = (rs0[i]'hil) :: rs0.drop (i + 1) := (List.getElem_cons_drop hil).symm
    generalize rs0[i]'hil = u at *
    obtain ⟨b', o', p1, p2, p3, p4, p5⟩ := (hO.rl.out0 o2).at (by decide) (rts_get hrk)
    have u0 := p5 0 _ (fd_rt u).1
    rw [Nat.add_zero] at u0
    have hblk : (t.after.any fun a => phN rk a != 3) = blk rs0 t := by
      unfold blk
      refine any_congr' fun a hm => ?_
      obtain ⟨a0, a1⟩ := ha t ht a hm
      unfold phN
      by_cases hk : a.toNat < i
      · have hz := h2 _ hk
        rw [List.getElem?_zipWith, List.getElem?_eq_getElem (show a.toNat < ts.length by omega), List.getElem?_eq_getElem (show a.toNat < rs0.length by omega)] at hz
        rw [hz, List.getElem?_eq_getElem (show a.toNat < rs0.length by omega)]
        simp only [Option.map_some, Option.getD_some]
        have := settleT_ph rs0 sg (ts[a.toNat]'(by omega)) (rs0[a.toNat]'(by omega))
        simp only [bne, this]
      · rw [h1 _ (by omega)]
    rw [hblk] at f1
    have hz : (List.zipWith (settleT rs0 sg) ts rs0)[i]? = some (settleT rs0 sg t u) := by rw [List.getElem?_zipWith, g2, hri]
    have hct := containsstring_c (hS.out0 o2) (by omega) t.on
    rw [hdr, List.all_cons]
    -- the rest, from any heap behind
    have fin : ∀ (H3 : Hp) (rk3 : List RT), Out (rid tx) H2 H3 → OL H3 51 4 tx (rts rk3) → rk3.length = ts.length → (∀ k, k ≠ i → rk3[k]? = rk[k]?) → rk3[i]? = some (settleT rs0 sg t u) →
        (∀ H' : Hp, (∀ j16 : K.Fn 2, l_run_Run_settle JN GO cK j16 (.ptr G 0) (.bool (all && (u.ph == 3))) dx (.int .i64 (ts.length : Nat)) (.int .i64 ((i + 1 : Nat) : Int)) H3 = j16 (.ptr G 0) (.bool ((all && (u.ph == 3)) && (rs0.drop (i + 1)).all (fun r => r.ph == 3))) H') → (∀ b3 o3, ia 4 tx (.int .i64 (i : Nat)) = some (.ptr b3 o3) → cellAt H3 b3 o3 = some (.int .i64 (settleT rs0 sg t u).ph)) → cellAt H3 G 0 = some (.ptr p 0) → cellAt H3 p 2 = some tx → ∀ j16 : K.Fn 2, l_run_Run_settle JN GO cK j16 (.ptr G 0) (.bool all) dx (.int .i64 (ts.length : Nat)) (.int .i64 (i : Nat)) H = j16 (.ptr G 0) (.bool ((all && (u.ph == 3)) && (rs0.drop (i + 1)).all (fun r => r.ph == 3))) H') →
        ∃ H', (∀ j16 : K.Fn 2, l_run_Run_settle JN GO cK j16 (.ptr G 0) (.bool all) dx (.int .i64 (ts.length : Nat)) (.int .i64 (i : Nat)) H = j16 (.ptr G 0) (.bool (all && ((u.ph == 3) && (rs0.drop (i + 1)).all (fun r => r.ph == 3)))) H') ∧ Cs H' p (rv dx st tx sx) 47 0 ∧ cellAt H' G 0 = some (.ptr p 0) ∧ OL H' 51 4 tx (rts (List.zipWith (settleT rs0 sg) ts rs0)) ∧ Out (rid tx) H H' := by
      intro H3 rk3 k3 hO3 hl3 hne hei hrun
      have o3 : Out (rid tx) H H3 := (o2.mono fun j hj => by cases hj).trans k3
      have hG3 : cellAt H3 G 0 = some (.ptr p 0) := by rw [o3.cellAt hGl hGt]; exact hG
      have hC3 := hC.out o3 hpt
      have hn3 := k3.nx
      obtain ⟨H', i1, i2, i3, i4, i5⟩ := settle_loop hn hal hsg hr0 ha hpt hGt hd r (i + 1) H3 rk3 (all && (u.ph == 3)) g1 g3 hC3 hG3 (by omega) (hR.out o3 fun j hj z => (hd j z).1 hj) hO3 (hS.out o3 fun j hj z => (hd j z).2 hj) hl3 (fun k hk => by rw [hne k (by omega)]; exact h1 k (by omega)) (fun k hk => by
        by_cases e : k = i
        · subst e; rw [hei, hz]
        · rw [hne k e]; exact h2 k (by omega))
      refine ⟨H', fun j16 => ?_, i2, i3, i4, o3.trans i5⟩
      rw [← Bool.and_assoc]
      refine hrun H' i1 (fun b3 o3' hb => ?_) hG3 (hC3.cellAt rfl) j16
      obtain ⟨b4, o4, r1, r2, r3, r4, r5⟩ := hO3.rl.at (by decide) (rts_get hei)
      have e4 := r1 .i64
      rw [hb] at e4
      cases e4
      have := r5 0 _ (fd_rt (settleT rs0 sg t u)).1
      rwa [Nat.add_zero] at this
    have hph := settleT_ph rs0 sg t u
    have noset : settleT rs0 sg t u = u → (∀ H' : Hp, (∀ j16 : K.Fn 2, l_run_Run_settle JN GO cK j16 (.ptr G 0) (.bool (all && (u.ph == 3))) dx (.int .i64 (ts.length : Nat)) (.int .i64 ((i + 1 : Nat) : Int)) H2 = j16 (.ptr G 0) (.bool ((all && (u.ph == 3)) && (rs0.drop (i + 1)).all (fun r => r.ph == 3))) H') → ∀ j16 : K.Fn 2, l_run_Run_settle JN GO cK j16 (.ptr G 0) (.bool all) dx (.int .i64 (ts.length : Nat)) (.int .i64 (i : Nat)) H = j16 (.ptr G 0) (.bool ((all && (u.ph == 3)) && (rs0.drop (i + 1)).all (fun r => r.ph == 3))) H') →
        ∃ H', (∀ j16 : K.Fn 2, l_run_Run_settle JN GO cK j16 (.ptr G 0) (.bool all) dx (.int .i64 (ts.length : Nat)) (.int .i64 (i : Nat)) H = j16 (.ptr G 0) (.bool (all && ((u.ph == 3) && (rs0.drop (i + 1)).all (fun r => r.ph == 3)))) H') ∧ Cs H' p (rv dx st tx sx) 47 0 ∧ cellAt H' G 0 = some (.ptr p 0) ∧ OL H' 51 4 tx (rts (List.zipWith (settleT rs0 sg) ts rs0)) ∧ Out (rid tx) H H' := by
      intro e hrun
      exact fin H2 rk (Out.refl _ _) (hO.out o2 (by simp)) hl (fun k hk => rfl) (by rw [hrk, e]) fun H' z _ _ _ => hrun H' z
    have d3 : ∀ z : Bool, (u.ph == 3) = z → (u.ph == 3) = z := fun z h => h
    by_cases hr : rdy rs0 sg t u = true
    · have hs : settleT rs0 sg t u = { u with ph := 1 } := by unfold settleT; rw [if_pos hr]
      obtain ⟨H3, w1, w2, w3, w4⟩ := (hO.out o2 (by simp)).st1 (k := 0) (v := .int .i64 1) (rts_get hrk) p1 rfl (by decide)
      have hset : (rtC u).set 0 (.int .i64 1) = rtC { u with ph := 1 } := rfl
      rw [hset, rts_set] at w2
      rw [Nat.add_zero] at w1
      have hkl := (List.getElem?_eq_some_iff.1 hrk).1
      refine fin H3 (rk.set i { u with ph := 1 }) w3 w2 (by rw [List.length_set]; exact hl) (fun k hk => by rw [List.getElem?_set_ne (fun e => hk e.symm)]) (by rw [List.getElem?_set_self hkl, hs]) fun H' z hb hG3 hC3 j16 => ?_
      have hb3 := hb b' o' (p1 .i64)
      rw [hs] at hb3
      have hb3' : cellAt H3 b' o' = some (.int .i64 1) := hb3
      unfold rdy at hr
      simp only [Bool.and_eq_true, Bool.or_eq_true, Bool.not_eq_true'] at hr
      obtain ⟨r1, r2, r3⟩ := hr
      have r0 : u.ph = 0 := by simpa using r1
      have r13 : (u.ph == 3) = false := by rw [r0]; rfl
      rw [r13, Bool.and_false] at z ⊢
      rw [ql_run_Run_settle]
      cases hon : (t.on == []) with
      | true => cases all <;> simp (disch := (first | assumption | omega | (simp only [k_d, k_c, Nat.reduceAdd, Nat.reduceLeDiff, Nat.reduceLT] <;> fail) | (simp only [k_c]; omega) | (simp only [k_d, k_c, Nat.reduceAdd, Nat.reduceLeDiff, Nat.reduceLT, *] <;> fail) | fail)) only [bl_run_Run_settle, lt_t g1, q3, q5, hst, kx, f1, c1, c2, c3, p1, u0, r1, r2, k5, hon, w1, hG3, hC3, hb3', es, z, k_a, k_b, Nat.reduceAdd, k_s, k_x, Int.reduceBEq, Int.reduceBNe, Int.reduceLT, Int.reduceLE, Int.reduceGT, Int.reduceGE, Int.reduceNeg]
      | false =>
        have r3' := r3.resolve_left (by rw [hon]; simp)
        rw [r3'] at hct
        cases all <;> simp (disch := (first | assumption | omega | (simp only [k_d, k_c, Nat.reduceAdd, Nat.reduceLeDiff, Nat.reduceLT] <;> fail) | (simp only [k_c]; omega) | (simp only [k_d, k_c, Nat.reduceAdd, Nat.reduceLeDiff, Nat.reduceLT, *] <;> fail) | fail)) only [bl_run_Run_settle, lt_t g1, q3, q5, hst, kx, f1, c1, c2, c3, p1, u0, r1, r2, k5, hon, hct, w1, hG3, hC3, hb3', es, z, k_a, k_b, Nat.reduceAdd, k_s, k_x, Int.reduceBEq, Int.reduceBNe, Int.reduceLT, Int.reduceLE, Int.reduceGT, Int.reduceGE, Int.reduceNeg]
    · have hs : settleT rs0 sg t u = u := by unfold settleT; rw [if_neg hr]
      refine noset hs fun H' z j16 => ?_
      rw [ql_run_Run_settle]
      unfold rdy at hr
      cases r1 : (u.ph == 0) with
      | false => cases all <;> simp only [Bool.true_and, Bool.false_and] at z ⊢ <;> simp (disch := (first | assumption | omega | (simp only [k_d, k_c, Nat.reduceAdd, Nat.reduceLeDiff, Nat.reduceLT] <;> fail) | (simp only [k_c]; omega) | (simp only [k_d, k_c, Nat.reduceAdd, Nat.reduceLeDiff, Nat.reduceLT, *] <;> fail) | fail)) only [bl_run_Run_settle, lt_t g1, q3, q5, hst, kx, f1, c1, c2, c3, p1, u0, r1, k5, es, z, k_a, k_b, Nat.reduceAdd, k_s, k_x, Int.reduceBEq, Int.reduceBNe, Int.reduceLT, Int.reduceLE, Int.reduceGT, Int.reduceGE, Int.reduceNeg]
      | true =>
        cases r2 : blk rs0 t with
        | true =>
          rw [r2] at f1
          cases all <;> simp only [Bool.true_and, Bool.false_and] at z ⊢ <;> simp (disch := (first | assumption | omega | (simp only [k_d, k_c, Nat.reduceAdd, Nat.reduceLeDiff, Nat.reduceLT] <;> fail) | (simp only [k_c]; omega) | (simp only [k_d, k_c, Nat.reduceAdd, Nat.reduceLeDiff, Nat.reduceLT, *] <;> fail) | fail)) only [bl_run_Run_settle, lt_t g1, q3, q5, hst, kx, f1, c1, c2, c3, p1, u0, r1, r2, k5, es, z, k_a, k_b, Nat.reduceAdd, k_s, k_x, Int.reduceBEq, Int.reduceBNe, Int.reduceLT, Int.reduceLE, Int.reduceGT, Int.reduceGE, Int.reduceNeg]
        | false =>
          rw [r2] at f1
          rw [r1, r2] at hr
          have hon : (t.on == []) = false := by
            cases hq : (t.on == []) with
            | false => rfl
            | true => rw [hq] at hr; simp at hr
          have hno : (sg.any fun a => t.on == a) = false := by
            rw [hon] at hr
            cases hq : (sg.any fun a => t.on == a) with
            | false => rfl
            | true => rw [hq] at hr; simp at hr
          rw [hno] at hct
          cases all <;> simp only [Bool.true_and, Bool.false_and] at z ⊢ <;> simp (disch := (first | assumption | omega | (simp only [k_d, k_c, Nat.reduceAdd, Nat.reduceLeDiff, Nat.reduceLT] <;> fail) | (simp only [k_c]; omega) | (simp only [k_d, k_c, Nat.reduceAdd, Nat.reduceLeDiff, Nat.reduceLT, *] <;> fail) | fail)) only [bl_run_Run_settle, lt_t g1, q3, q5, hst, kx, f1, c1, c2, c3, p1, u0, r1, r2, k5, hon, hct, es, z, k_a, k_b, Nat.reduceAdd, k_s, k_x, Int.reduceBEq, Int.reduceBNe, Int.reduceLT, Int.reduceLE, Int.reduceGT, Int.reduceGE, Int.reduceNeg]
theorem settle_c {H : Hp} {p : Nat} {dx tx sx : AV} {xs : List AV} {R : Rn} (hC : Cs H p (rv dx R.st tx sx) 47 0) (hO : RO H dx xs tx sx R) (hp : p ∉ fpR dx xs tx sx) (hs : Sm R) (hl : R.rs.length = R.ts.length) (ha : ∀ t ∈ R.ts, ∀ a ∈ t.after, 0 ≤ a ∧ a < (R.ts.length : Int)) :
    ∃ H', cK (.func (.func 45) [] []) [.ptr p 0] H = some (.tuple [], H') ∧ Cs H' p (rv dx (settleM R).st tx sx) 47 0 ∧ RO H' dx xs tx sx (settleM R) ∧ Out (p :: rid tx) H H' := by
  have hbx : bx 126 (.ptr p 0) H = some (H.next, al H [.ptr p 0] 126 0) := bx_al1 rfl
  have o1 := al_out H [.ptr p 0] 126 0
  have hpt : p ∉ rid tx := fun z => hp (List.mem_append_right _ (List.mem_append_left _ z))
  have hG1 : cellAt (al H [.ptr p 0] 126 0) H.next 0 = some (.ptr p 0) := by rw [cellAt_al rfl]; rfl
  have hC1 := hC.out o1 (by simp)
  have k0 : cellAt (al H [.ptr p 0] 126 0) p 0 = some dx := hC1.cellAt rfl
  have hR1 := hO.v.d.out0 o1
  have hdl := hR1.lenx
  have htl := hO.v.t.1.lt
  obtain ⟨H2, i1, i2, i3, i4, i5⟩ := settle_loop (G := H.next) hs.n hs.a hs.s hl ha hpt (fun z => by have := htl _ z; omega) hO.dt R.ts 0 (al H [.ptr p 0] 126 0) R.rs true (Nat.zero_le _) List.drop_zero hC1 hG1 (by rw [al_nx]; omega) hR1 (hO.t.out o1 (by simp)) (hO.s.rw.out0 o1) hl (fun k _ => rfl) (fun k hk => by omega)
  rw [List.drop_zero, Bool.true_and, show (((0 : Nat) : Int)) = 0 from rfl] at i1
  have hR2 := hR1.out i5 fun j hj z => (hO.dt j z).1 hj
  have hS2 := (hO.s.out o1 (by simp)).out i5 fun j hj z => (hO.dt j z).2 hj
  have o2 : Out (rid tx) H H2 := (o1.mono fun j hj => by cases hj).trans i5
  cases hall : R.rs.all (fun r => r.ph == 3) with
  | true =>
    rw [hall] at i1
    obtain ⟨H3, w1, w2, w3, w4⟩ := st1 i2 (by decide) (o := 1) (by simp) (v := .int .i64 1) rfl
    have hst : (settleM R).st = 1 := by unfold settleM; rw [hall]; rfl
    have hset : (rv dx R.st tx sx).set 1 (.int .i64 1) = rv dx 1 tx sx := rfl
    rw [hset] at w2
    have hnp : ∀ {x : AV}, (∀ j ∈ rid x, j ∈ fpR dx xs tx sx) → ∀ j ∈ rid x, j ∉ [p] := fun hx j hj => by rw [List.mem_singleton]; intro e; subst e; exact hp (hx j hj)
    have hd3 : RD H3 dx xs R.ts := hR2.out w3 fun j hj => by rw [List.mem_singleton]; intro e; subst e; exact hp (List.mem_append_left _ hj)
    have ht3 := i4.out w3 (hnp fun j hj => List.mem_append_right _ (List.mem_append_left _ hj))
    have hs3 := hS2.out w3 (hnp fun j hj => List.mem_append_right _ (List.mem_append_right _ hj))
    refine ⟨H3, c_run_Run_settle ?_, by rw [hst]; exact w2, ⟨⟨hd3, ht3.rl, hs3.rw⟩, ht3, hs3, hO.dt, hO.ds⟩, (o2.mono fun j hj => .tail _ hj).trans (w3.mono fun j hj => by rw [List.mem_singleton] at hj; subst hj; exact .head _)⟩
    unfold s_run_Run_settle
    simp (disch := (first | assumption | omega | (simp only [k_d, k_c, Nat.reduceAdd, Nat.reduceLeDiff, Nat.reduceLT] <;> fail) | (simp only [k_c]; omega) | (simp only [k_d, k_c, Nat.reduceAdd, Nat.reduceLeDiff, Nat.reduceLT, *] <;> fail) | fail)) only [hbx, hG1, k0, hdl, i1, i3, w1, k_a, k_b, Nat.reduceAdd, k_s, k_x, Int.reduceBEq, Int.reduceBNe, Int.reduceLT, Int.reduceLE, Int.reduceGT, Int.reduceGE, Int.reduceNeg]
  | false =>
    rw [hall] at i1
    have hst : (settleM R).st = R.st := by unfold settleM; rw [hall]; rfl
    refine ⟨H2, c_run_Run_settle ?_, by rw [hst]; exact i2, ⟨⟨hR2, i4.rl, hS2.rw⟩, i4, hS2, hO.dt, hO.ds⟩, o2.mono fun j hj => .tail _ hj⟩
    unfold s_run_Run_settle
    simp (disch := (first | assumption | omega | (simp only [k_d, k_c, Nat.reduceAdd, Nat.reduceLeDiff, Nat.reduceLT] <;> fail) | (simp only [k_c]; omega) | (simp only [k_d, k_c, Nat.reduceAdd, Nat.reduceLeDiff, Nat.reduceLT, *] <;> fail) | fail)) only [hbx, hG1, k0, hdl, i1, i3, k_a, k_b, Nat.reduceAdd, k_s, k_x, Int.reduceBEq, Int.reduceBNe, Int.reduceLT, Int.reduceLE, Int.reduceGT, Int.reduceGE, Int.reduceNeg]
end Go.Proofs.YthljbjokonglhaaGreatDoor.DfK
