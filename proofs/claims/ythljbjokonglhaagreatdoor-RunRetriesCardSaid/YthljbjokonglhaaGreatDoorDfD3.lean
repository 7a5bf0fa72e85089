/- What def.Good does, as a contract over the symbolic heap. Conditions: the definition has at most 100000 tasks, each behind at most 100000. -/
import Derived.Test.YthljbjokonglhaaGreatDoorDfD2
namespace Go.Proofs.YthljbjokonglhaaGreatDoor.DfK
open Go Am Am.K DfEnv DfM LibP DfG
set_option linter.unusedVariables false
set_option linter.unusedSimpArgs false
set_option maxRecDepth 10000
noncomputable def p1 (ts : List Tk) (i : Nat) : Bool := match ts[i]? with | some t => odd1 t | none => false
def p3 (ts : List Tk) (i : Nat) : Bool := match ts[i]? with | some t => odd3 t | none => false
def p4 (ts : List Tk) (i : Nat) : Bool := match ts[i]? with | some t => !aftG ts.length i [] t.after | none => false
instance (N : Nat) (E : List Ed) : Decidable (noCyc N E) := by unfold noCyc; infer_instance
/-- why a definition may not be so; 0: it may -/
noncomputable def goodM (ts : List Tk) : Int :=
  if ¬ (1 ≤ ts.length ∧ ts.length ≤ 16) then 1
  else if (List.range ts.length).any (p1 ts) then 2
  else if (List.range ts.length).any (dup ts) then 5
  else if (List.range ts.length).any (p3 ts) then 1
  else if (List.range ts.length).any (p4 ts) then 1
  else if noCyc ts.length (edFrom 0 ts) then 0 else 7
theorem any_p4 {ts : List Tk} (h : (List.range ts.length).any (p4 ts) = false) : aftAll ts := by
  intro i t ht
  have hi := (List.getElem?_eq_some_iff.1 ht).1
  rw [List.any_eq_false] at h
  have := h i (List.mem_range.2 hi)
  unfold p4 at this
  rw [ht] at this
  simpa using this
theorem tri : ∀ (i : Nat) (H H' : Hp), True → Out [] H H' → True := fun _ _ _ _ _ => trivial
abbrev tyS : Nat := 75
theorem dgood_c {dx : AV} {xs : List AV} {ts : List Tk} {H : Hp} (hn : ts.length ≤ 100000) (hal : ∀ t ∈ ts, t.after.length ≤ 100000) (hR : RD H dx xs ts) :
    ∃ H', cK (.func (.func 11) [] []) [dv dx] H = some (.int .i64 (goodM ts), H') ∧ Out [] H H' := by
  have hd1 := hR.row.one
  have hdl := hR.lenx
  have hfl := hR.lt
  have o1 := al_out H [dx] 25 0
  by_cases hr : ¬ (1 ≤ ts.length ∧ ts.length ≤ 16)
  · refine ⟨al H [dx] 25 0, c_def_Good ?_, o1⟩
    have d : (decide ((1 : Int) ≤ (ts.length : Int)) && decide ((ts.length : Int) ≤ 16)) = false := by
      rw [← Bool.not_eq_true, Bool.and_eq_true, decide_eq_true_eq, decide_eq_true_eq]; omega
    unfold s_def_Good goodM
    rw [if_pos hr]
    simp (disch := (first | assumption | omega | (simp only [k_d, k_c, Nat.reduceAdd, Nat.reduceLeDiff, Nat.reduceLT] <;> fail) | (simp only [k_c]; omega) | (simp only [k_d, k_c, Nat.reduceAdd, Nat.reduceLeDiff, Nat.reduceLT, *] <;> fail) | fail)) only [hdl, din_c, d, k_a, k_b, Nat.reduceAdd, k_s, k_x, Int.reduceBEq, Int.reduceBNe, Int.reduceLT, Int.reduceLE, Int.reduceGT, Int.reduceGE, Int.reduceNeg]
  have hr' := hr
  replace hr : 1 ≤ ts.length ∧ ts.length ≤ 16 := Decidable.not_not.1 hr
  have d : (decide ((1 : Int) ≤ (ts.length : Int)) && decide ((ts.length : Int) ≤ 16)) = true := by
    rw [Bool.and_eq_true, decide_eq_true_eq, decide_eq_true_eq]; omega
  obtain ⟨H2, m1, m2, m3, m4⟩ := mk0_ok (al H [dx] 25 0)
  rw [al_nx] at m1 m2 m4
  have o2 : Out [] H H2 := o1.trans m3
  -- the map's place, the four tests
  let L8 : List AV := [.func (.func 33) [] [], .int .i64 2, .func (.func 34) [] [.ptr (H.next + 2) 0], .int .i64 5, .func (.func 35) [] [], .int .i64 1, .func (.func 36) [] [.ptr H.next 0], .int .i64 1]
  have hn2 : H2.next = H.next + 2 := by rw [m4]
  have o3 := al_out H2 [.map (H.next + 1)] 73 0
  have o4 := al_out (al H2 [.map (H.next + 1)] 73 0) L8 tyS 0
  have hC4 := al_cs (al H2 [.map (H.next + 1)] 73 0) L8 tyS 0
  have ho4 : Out [] H (al (al H2 [.map (H.next + 1)] 73 0) L8 tyS 0) := (o2.trans o3).trans o4
  have hnx4 : (al (al H2 [.map (H.next + 1)] 73 0) L8 tyS 0).next = H.next + 4 := by rw [al_nx, al_nx, hn2]
  have hid4 : (al H2 [.map (H.next + 1)] 73 0).next = H.next + 3 := by rw [al_nx, hn2]
  have hcd : ∀ {H' : Hp} {S : List Nat}, Out S (al (al H2 [.map (H.next + 1)] 73 0) L8 tyS 0) H' → (∀ j ∈ S, j = H.next + 1) → cellAt H' H.next 0 = some dx ∧ cellsAt H' H.next 0 1 = some [dx] ∧ RD H' dx xs ts ∧ (∀ k : Nat, k < 4 → ∃ a b, L8[k * 2]? = some a ∧ L8[k * 2 + 1]? = some b ∧ cellsAt H' (H.next + 3) (k * 2) 2 = some [a, b]) := by
    intro H' S ho hS
    have hne : ∀ j, j < H.next + 4 → j ≠ H.next + 1 → ∀ o, cellAt H' j o = cellAt (al (al H2 [.map (H.next + 1)] 73 0) L8 tyS 0) j o := fun j hj hj2 o => ho.cellAt (by rw [hnx4]; exact hj) fun q => hj2 (hS j q)
    have h0 : cellAt H' H.next 0 = some dx := by
      rw [hne _ (by omega) (by omega), cellAt_al_ne (by rw [hid4]; omega), cellAt_al_ne (by rw [hn2]; omega), m3.cellAt (by rw [al_nx]; omega) (by simp), cellAt_al rfl]; rfl
    refine ⟨h0, ?_, (hR.out0 ho4).out ho fun j hj q => by have := hfl j hj; have := hS j q; omega, fun k hk => ?_⟩
    · unfold cellsAt cellsAt; rw [h0]; rfl
    · have hL : L8.length = 8 := rfl
      have ha : L8[k * 2]? = some (L8[k * 2]'(by rw [hL]; omega)) := List.getElem?_eq_getElem _
      have hb : L8[k * 2 + 1]? = some (L8[k * 2 + 1]'(by rw [hL]; omega)) := List.getElem?_eq_getElem _
      refine ⟨_, _, ha, hb, ?_⟩
      unfold cellsAt cellsAt cellsAt
      rw [hne _ (by omega) (by omega), hne _ (by omega) (by omega), cellAt_al hid4.symm, cellAt_al hid4.symm, ha, hb]
      rfl
  have hm4 : Mp (al (al H2 [.map (H.next + 1)] 73 0) L8 tyS 0) (H.next + 1) (hadM []) 0 := (m2.out o3 (by simp)).out o4 (by simp)
  have hq4 : Cs (al (al H2 [.map (H.next + 1)] 73 0) L8 tyS 0) (H.next + 2) [.map (H.next + 1)] 73 0 := by
    have := (al_cs H2 [.map (H.next + 1)] 73 0).out o4 (by simp)
    rw [hn2] at this; exact this
  -- one test behind the other
  have hstA : ∀ (H' : Hp) (a b : AV), oneC a = true → oneC b = true → st 2 (.ptr H'.next 0) (.agg [a, b]) (al H' [.nilFunc, .int .i64 0] tyS 0) = some (al H' [a, b] tyS 0) := fun H' a b ha hb => st_alN (by simp [ha, hb]) rfl rfl (by decide) rfl
  have one : ∀ (k : Nat) (z z' : Int) (p : Nat → Bool) (e : Int) (fv : AV) (H' : Hp) (H'' : Hp), k < 4 → z = (k : Nat) → z' = (k + 1 : Nat) → L8[k * 2]? = some fv → L8[k * 2 + 1]? = some (.int .i64 e) → oneC fv = true →
      cellsAt H' H.next 0 1 = some [dx] → H.next + 4 ≤ H'.next → (∀ a b, L8[k * 2]? = some a → L8[k * 2 + 1]? = some b → cellsAt H' (H.next + 3) (k * 2) 2 = some [a, b]) →
      cK (.func (.func 38) [] []) [dv dx, fv] (al H' [fv, .int .i64 e] tyS 0) = some (.bool ((List.range ts.length).any p), H'') → Out [H.next + 1] (al H' [fv, .int .i64 e] tyS 0) H'' →
      ∀ j35 : K.Fn 1, l_def_Good JN GO cK j35 (.ptr H.next 0) (.slice (H.next + 3) 0 4 4 true 2) (.int .i64 4) (.int .i64 z) H' = if (List.range ts.length).any p then some (.int .i64 e, H'') else l_def_Good JN GO cK j35 (.ptr H.next 0) (.slice (H.next + 3) 0 4 4 true 2) (.int .i64 4) (.int .i64 z') H'' := by
    intro k z z' p e fv H' H'' hk hz hz' ha hb hfv hcx hHn hl hs hos j35
    subst hz; subst hz'
    have hll := hl _ _ ha hb
    have hia : ia 2 (.slice (H.next + 3) 0 4 4 true 2) (.int .i64 (k : Nat)) = some (.ptr (H.next + 3) (k * 2)) := by rw [ia_s hk]; simp
    have hlt : decide (((k : Nat) : Int) < 4) = true := decide_eq_true (by omega)
    have es : IntKind.wrap .i64 ((k : Int) + 1) = ((k + 1 : Nat) : Int) := by rw [wrap_i64 (by omega) (by omega)]; rfl
    have hst := hstA H' fv (.int .i64 e) hfv rfl
    have he : cellAt H'' H'.next 1 = some (.int .i64 e) := by
      rw [hos.cellAt (by rw [al_nx]; omega) (by rw [List.mem_singleton]; omega), cellAt_al rfl]; rfl
    have hnc : newCells H' [.nilFunc, .int .i64 0] tyS 0 = some (H'.next, al H' [.nilFunc, .int .i64 0] tyS 0) := newCells_al (by simp)
    rw [ql_def_Good]
    cases hany : (List.range ts.length).any p with
    | true =>
      rw [hany] at hs
      simp (disch := (first | assumption | omega | (simp only [k_d, k_c, Nat.reduceAdd, Nat.reduceLeDiff, Nat.reduceLT] <;> fail) | (simp only [k_c]; omega) | (simp only [k_d, k_c, Nat.reduceAdd, Nat.reduceLeDiff, Nat.reduceLT, *] <;> fail) | fail)) only [bl_def_Good, hlt, hia, hll, hnc, hst, hcx, hs, he, if_true, k_a, k_b, Nat.reduceAdd, k_s, k_x, Int.reduceBEq, Int.reduceBNe, Int.reduceLT, Int.reduceLE, Int.reduceGT, Int.reduceGE, Int.reduceNeg]
    | false =>
      rw [hany] at hs
      simp (disch := (first | assumption | omega | (simp only [k_d, k_c, Nat.reduceAdd, Nat.reduceLeDiff, Nat.reduceLT] <;> fail) | (simp only [k_c]; omega) | (simp only [k_d, k_c, Nat.reduceAdd, Nat.reduceLeDiff, Nat.reduceLT, *] <;> fail) | fail)) only [bl_def_Good, hlt, hia, hll, hnc, hst, hcx, hs, es, Bool.false_eq_true, if_false, k_a, k_b, Nat.reduceAdd, k_s, k_x, Int.reduceBEq, Int.reduceBNe, Int.reduceLT, Int.reduceLE, Int.reduceGT, Int.reduceGE, Int.reduceNeg]
  generalize hH4 : al (al H2 [.map (H.next + 1)] 73 0) L8 tyS 0 = H4 at *
  have mono1 : ∀ {A B : Hp}, Out [] A B → Out [H.next + 1] A B := fun h => h.mono fun j hj => by cases hj
  have hmS : ∀ j ∈ ([H.next + 1] : List Nat), j = H.next + 1 := fun j hj => by rw [List.mem_singleton] at hj; exact hj
  -- first test
  obtain ⟨a1, a2, a3, a4⟩ := hcd (Out.refl [H.next + 1] H4) hmS
  have r1 := al_out H4 [.func (.func 33) [] [], .int .i64 2] tyS 0
  obtain ⟨H5, s1, s2⟩ := some_c (S := []) (fv := .func (.func 33) [] []) (p := p1 ts) (fun _ _ => True) hn (by simp) tri (fun i t x H' ht hx hR' _ => by
    obtain ⟨H'', c1, c2⟩ := good1_c t x i H'
    have hp : p1 ts i = odd1 t := by unfold p1; rw [ht]
    exact ⟨H'', by rw [hp]; exact c1, c2, fun _ => trivial⟩) (a3.out0 r1) trivial
  have g1 := one 0 0 1 (p1 ts) 2 _ H4 H5 (by omega) rfl rfl rfl rfl rfl a2 (by omega) (fun a b ha hb => by obtain ⟨a', b', x1, x2, x3⟩ := a4 0 (by omega); rw [x1] at ha; rw [x2] at hb; cases ha; cases hb; exact x3) s1 (mono1 s2)
  have t5 : Out [H.next + 1] H4 H5 := mono1 (r1.trans s2)
  -- second test
  obtain ⟨b1, b2, b3, b4⟩ := hcd t5 hmS
  have n5 := t5.nx
  have r2 := al_out H5 [.func (.func 34) [] [.ptr (H.next + 2) 0], .int .i64 5] tyS 0
  have hHI : HadI (H.next + 1) (H.next + 2) ts 0 (al H5 [.func (.func 34) [] [.ptr (H.next + 2) 0], .int .i64 5] tyS 0) :=
    ⟨73, [], 0, ((hq4.out (r1.trans s2) (by simp)).out r2 (by simp)), (hm4.out (r1.trans s2) (by simp)).out r2 (by simp), by rw [List.take_zero]; rfl, by omega⟩
  have hfm : ∀ j ∈ fpD dx xs, j ∉ ([H.next + 1] : List Nat) := fun j hj => by rw [List.mem_singleton]; have := hfl j hj; omega
  obtain ⟨H6, u1, u2⟩ := some_c (S := [H.next + 1]) (fv := .func (.func 34) [] [.ptr (H.next + 2) 0]) (p := dup ts) (HadI (H.next + 1) (H.next + 2) ts) hn hfm (fun i A B hA hAB => by
    obtain ⟨el, l, c, x1, x2, x3, x4⟩ := hA
    exact ⟨el, l, c, x1.out hAB (by simp), x2.out hAB (by simp), x3, x4⟩) (fun i t x H' ht hx hR' hI => good2_c hI ht) (b3.out0 r2) hHI
  have g2 := one 1 1 2 (dup ts) 5 _ H5 H6 (by omega) rfl rfl rfl rfl rfl b2 (by omega) (fun a b ha hb => by obtain ⟨a', b', x1, x2, x3⟩ := b4 1 (by omega); rw [x1] at ha; rw [x2] at hb; cases ha; cases hb; exact x3) u1 u2
  have t6 : Out [H.next + 1] H4 H6 := t5.trans ((mono1 r2).trans u2)
  -- third test
  obtain ⟨c1, c2, c3, c4⟩ := hcd t6 hmS
  have n6 := t6.nx
  have r3 := al_out H6 [.func (.func 35) [] [], .int .i64 1] tyS 0
  obtain ⟨H7, v1, v2⟩ := some_c (S := []) (fv := .func (.func 35) [] []) (p := p3 ts) (fun _ _ => True) hn (by simp) tri (fun i t x H' ht hx hR' _ => by
    obtain ⟨H'', c1, c2⟩ := good3_c t x i H'
    have hp : p3 ts i = odd3 t := by unfold p3; rw [ht]
    exact ⟨H'', by rw [hp]; exact c1, c2, fun _ => trivial⟩) (c3.out0 r3) trivial
  have g3 := one 2 2 3 (p3 ts) 1 _ H6 H7 (by omega) rfl rfl rfl rfl rfl c2 (by omega) (fun a b ha hb => by obtain ⟨a', b', x1, x2, x3⟩ := c4 2 (by omega); rw [x1] at ha; rw [x2] at hb; cases ha; cases hb; exact x3) v1 (mono1 v2)
  have t7 : Out [H.next + 1] H4 H7 := t6.trans (mono1 (r3.trans v2))
  -- fourth test
  obtain ⟨d1, d2, d3, d4⟩ := hcd t7 hmS
  have n7 := t7.nx
  have r4 := al_out H7 [.func (.func 36) [] [.ptr H.next 0], .int .i64 1] tyS 0
  obtain ⟨H8, w1, w2⟩ := some_c (S := []) (fv := .func (.func 36) [] [.ptr H.next 0]) (p := p4 ts) (fun _ H' => cellAt H' H.next 0 = some dx ∧ H.next < H'.next) hn (by simp) (fun i A B hA hAB => ⟨by rw [hAB.cellAt hA.2 (by simp)]; exact hA.1, by have := hAB.nx; omega⟩) (fun i t x H' ht hx hR' hI => by
    obtain ⟨x', bb, oo, y1, y2, y3, _⟩ := hR'.at ht
    rw [hx] at y1
    cases y1
    obtain ⟨H'', c1, c2⟩ := good4_c (i := (i : Int)) (n := ts.length) hn (hal t (List.mem_of_getElem? ht)) hdl hd1 hI.1 hI.2 y3
    have hp : p4 ts i = !aftG ts.length i [] t.after := by unfold p4; rw [ht]
    exact ⟨H'', by rw [hp]; exact c1, c2, fun _ => ⟨by rw [c2.cellAt hI.2 (by simp)]; exact hI.1, by have := c2.nx; omega⟩⟩) (d3.out0 r4) ⟨by rw [r4.cellAt (by omega) (by simp)]; exact d1, by rw [al_nx]; omega⟩
  have g4 := one 3 3 4 (p4 ts) 1 _ H7 H8 (by omega) rfl rfl rfl rfl rfl d2 (by omega) (fun a b ha hb => by obtain ⟨a', b', x1, x2, x3⟩ := d4 3 (by omega); rw [x1] at ha; rw [x2] at hb; cases ha; cases hb; exact x3) w1 (mono1 w2)
  have t8 : Out [H.next + 1] H4 H8 := t7.trans (mono1 (r4.trans w2))
  obtain ⟨e1, e2, e3, e4⟩ := hcd t8 hmS
  have fin : ∀ {B : Hp}, Out [H.next + 1] H4 B → Out [] H B := fun h => ho4.then h fun j hj => by rw [List.mem_singleton] at hj; exact .inr (by omega)
  have g5 : ∀ j35 : K.Fn 1, l_def_Good JN GO cK j35 (.ptr H.next 0) (.slice (H.next + 3) 0 4 4 true 2) (.int .i64 4) (.int .i64 4) H8 = j35 (.ptr H.next 0) H8 := fun j35 => by
    have d : decide ((4 : Int) < 4) = false := rfl
    rw [ql_def_Good]
    simp only [bl_def_Good, d, k_s, k_x, Int.reduceBEq, Int.reduceBNe, Int.reduceLT, Int.reduceLE, Int.reduceGT, Int.reduceGE, Int.reduceNeg]
  have hst0 : st 1 (.ptr (H.next + 2) 0) (.map (H.next + 1)) (al H2 [.map0] 73 0) = some (al H2 [.map (H.next + 1)] 73 0) := st_al1 rfl (by rw [hn2]) (by decide) (by simp)
  have hnc : newCells (al H2 [.map (H.next + 1)] 73 0) L8 tyS 0 = some (H.next + 3, H4) := by rw [← hH4, newCells_al (by show 8 ≤ _; omega), hid4]
  have hf8 : fl [.nilFunc, (.int .i64 0), .nilFunc, (.int .i64 0), .nilFunc, (.int .i64 0), .nilFunc, (.int .i64 0)] [(0, 2, (.agg [.func (.func 33) [] [], .int .i64 2])), (2, 2, (.agg [.func (.func 34) [] [.ptr (H.next + 2) 0], .int .i64 5])), (4, 2, (.agg [.func (.func 35) [] [], .int .i64 1])), (6, 2, (.agg [.func (.func 36) [] [.ptr H.next 0], .int .i64 1]))] = some L8 := rfl
  have hgm : goodM ts = if (List.range ts.length).any (p1 ts) then 2 else if (List.range ts.length).any (dup ts) then 5 else if (List.range ts.length).any (p3 ts) then 1 else if (List.range ts.length).any (p4 ts) then 1 else if noCyc ts.length (edFrom 0 ts) then 0 else 7 := by unfold goodM; rw [if_neg hr']
  rw [hgm]
  have hH2m : mk0 (al H [dx] 25 0) = some (H.next + 1, H2) := m1
  have h44 : ((4 : Nat) : Int) = 4 := rfl
  have hid3 : H.next + 2 + 1 = H.next + 3 := rfl
  have hH4' : al (al H2 [.map (H.next + 1)] 73 0) [.func (.func 33) [] [], .int .i64 2, .func (.func 34) [] [.ptr (H.next + 2) 0], .int .i64 5, .func (.func 35) [] [], .int .i64 1, .func (.func 36) [] [.ptr H.next 0], .int .i64 1] tyS 0 = H4 := hH4
  have hlen4 : lenx (.slice (H.next + 3) 0 4 4 true 2) = some (.int .i64 4) := rfl
  have hH2n : H2.next = H.next + 2 := hn2
  cases q1 : (List.range ts.length).any (p1 ts) with
  | true =>
    simp only [q1, if_true] at g1
    refine ⟨H5, c_def_Good ?_, fin t5⟩
    unfold s_def_Good
    simp (disch := (first | assumption | omega | (simp only [k_d, k_c, Nat.reduceAdd, Nat.reduceLeDiff, Nat.reduceLT] <;> fail) | (simp only [k_c]; omega) | (simp only [k_d, k_c, Nat.reduceAdd, Nat.reduceLeDiff, Nat.reduceLT, *] <;> fail) | fail)) only [hdl, din_c, d, hH2m, hH2n, hst0, hf8, h44, hid3, hH4', g1, if_true, k_a, k_b, Nat.reduceAdd, k_s, k_x, Int.reduceBEq, Int.reduceBNe, Int.reduceLT, Int.reduceLE, Int.reduceGT, Int.reduceGE, Int.reduceNeg]
  | false =>
  cases q2 : (List.range ts.length).any (dup ts) with
  | true =>
    simp only [q1, Bool.false_eq_true, if_false] at g1
    simp only [q2, if_true] at g2
    refine ⟨H6, c_def_Good ?_, fin t6⟩
    unfold s_def_Good
    simp (disch := (first | assumption | omega | (simp only [k_d, k_c, Nat.reduceAdd, Nat.reduceLeDiff, Nat.reduceLT] <;> fail) | (simp only [k_c]; omega) | (simp only [k_d, k_c, Nat.reduceAdd, Nat.reduceLeDiff, Nat.reduceLT, *] <;> fail) | fail)) only [hdl, din_c, d, hH2m, hH2n, hst0, hf8, h44, hid3, hH4', g1, g2, if_true, Bool.false_eq_true, if_false, k_a, k_b, Nat.reduceAdd, k_s, k_x, Int.reduceBEq, Int.reduceBNe, Int.reduceLT, Int.reduceLE, Int.reduceGT, Int.reduceGE, Int.reduceNeg]
  | false =>
  cases q3 : (List.range ts.length).any (p3 ts) with
  | true =>
    simp only [q1, Bool.false_eq_true, if_false] at g1
    simp only [q2, Bool.false_eq_true, if_false] at g2
    simp only [q3, if_true] at g3
    refine ⟨H7, c_def_Good ?_, fin t7⟩
    unfold s_def_Good
    simp (disch := (first | assumption | omega | (simp only [k_d, k_c, Nat.reduceAdd, Nat.reduceLeDiff, Nat.reduceLT] <;> fail) | (simp only [k_c]; omega) | (simp only [k_d, k_c, Nat.reduceAdd, Nat.reduceLeDiff, Nat.reduceLT, *] <;> fail) | fail)) only [hdl, din_c, d, hH2m, hH2n, hst0, hf8, h44, hid3, hH4', g1, g2, g3, if_true, Bool.false_eq_true, if_false, k_a, k_b, Nat.reduceAdd, k_s, k_x, Int.reduceBEq, Int.reduceBNe, Int.reduceLT, Int.reduceLE, Int.reduceGT, Int.reduceGE, Int.reduceNeg]
  | false =>
  cases q4 : (List.range ts.length).any (p4 ts) with
  | true =>
    simp only [q1, Bool.false_eq_true, if_false] at g1
    simp only [q2, Bool.false_eq_true, if_false] at g2
    simp only [q3, Bool.false_eq_true, if_false] at g3
    simp only [q4, if_true] at g4
    refine ⟨H8, c_def_Good ?_, fin t8⟩
    unfold s_def_Good
    simp (disch := (first | assumption | omega | (simp only [k_d, k_c, Nat.reduceAdd, Nat.reduceLeDiff, Nat.reduceLT] <;> fail) | (simp only [k_c]; omega) | (simp only [k_d, k_c, Nat.reduceAdd, Nat.reduceLeDiff, Nat.reduceLT, *] <;> fail) | fail)) only [hdl, din_c, d, hH2m, hH2n, hst0, hf8, h44, hid3, hH4', g1, g2, g3, g4, if_true, Bool.false_eq_true, if_false, k_a, k_b, Nat.reduceAdd, k_s, k_x, Int.reduceBEq, Int.reduceBNe, Int.reduceLT, Int.reduceLE, Int.reduceGT, Int.reduceGE, Int.reduceNeg]
  | false =>
    simp only [q1, Bool.false_eq_true, if_false] at g1
    simp only [q2, Bool.false_eq_true, if_false] at g2
    simp only [q3, Bool.false_eq_true, if_false] at g3
    simp only [q4, Bool.false_eq_true, if_false] at g4
    have haft := any_p4 q4
    have hal2 : ∀ t ∈ ts, t.after.length ≤ 16 := fun t ht => by
      obtain ⟨i, hi⟩ := List.getElem?_of_mem ht
      obtain ⟨x1, x2⟩ := aft_all haft hi
      have := nodup_le (n := ts.length) (fun a h => ⟨(x1 a h).1, (x1 a h).2.1⟩) x2
      omega
    obtain ⟨ex, H9, y1, y2, y3, y4⟩ := graph_c hr.2 hal2 haft e3
    obtain ⟨cy, kk, H10, z1, z2, z3, z4⟩ := cycle_c (goodE_of hr.2 haft) y2
    refine ⟨H10, c_def_Good ?_, (fin t8).trans (y3.trans z4)⟩
    by_cases hk : kk = 0
    · have hcyc := z3.1 hk
      rw [if_pos hcyc]
      have dk : decide ((0 : Int) < ((kk : Nat) : Int)) = false := decide_eq_false (by omega)
      unfold s_def_Good
      simp (disch := (first | assumption | omega | (simp only [k_d, k_c, Nat.reduceAdd, Nat.reduceLeDiff, Nat.reduceLT] <;> fail) | (simp only [k_c]; omega) | (simp only [k_d, k_c, Nat.reduceAdd, Nat.reduceLeDiff, Nat.reduceLT, *] <;> fail) | fail)) only [hdl, din_c, d, hH2m, hH2n, hst0, hf8, h44, hid3, hH4', g1, g2, g3, g4, g5, e2, y1, z1, z2, dk, Bool.false_eq_true, if_false, k_a, k_b, Nat.reduceAdd, k_s, k_x, Int.reduceBEq, Int.reduceBNe, Int.reduceLT, Int.reduceLE, Int.reduceGT, Int.reduceGE, Int.reduceNeg]
    · have hcyc : ¬ noCyc ts.length (edFrom 0 ts) := fun q => hk (z3.2 q)
      rw [if_neg hcyc]
      have dk : decide ((0 : Int) < ((kk : Nat) : Int)) = true := decide_eq_true (by omega)
      unfold s_def_Good
      simp (disch := (first | assumption | omega | (simp only [k_d, k_c, Nat.reduceAdd, Nat.reduceLeDiff, Nat.reduceLT] <;> fail) | (simp only [k_c]; omega) | (simp only [k_d, k_c, Nat.reduceAdd, Nat.reduceLeDiff, Nat.reduceLT, *] <;> fail) | fail)) only [hdl, din_c, d, hH2m, hH2n, hst0, hf8, h44, hid3, hH4', g1, g2, g3, g4, g5, e2, y1, z1, z2, dk, Bool.false_eq_true, if_false, k_a, k_b, Nat.reduceAdd, k_s, k_x, Int.reduceBEq, Int.reduceBNe, Int.reduceLT, Int.reduceLE, Int.reduceGT, Int.reduceGE, Int.reduceNeg]
end Go.Proofs.YthljbjokonglhaaGreatDoor.DfK
