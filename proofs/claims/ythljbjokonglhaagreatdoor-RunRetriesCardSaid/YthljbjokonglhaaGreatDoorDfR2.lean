/- What a run's clone does, as a contract over the symbolic heap. Conditions: as each states them. -/
import Derived.Test.YthljbjokonglhaaGreatDoorDfR1
namespace Go.Proofs.YthljbjokonglhaaGreatDoor.DfK
open Go Am Am.K DfEnv DfM LibP DfG
set_option linter.unusedVariables false
set_option linter.unusedSimpArgs false
set_option maxRecDepth 10000
set_option maxHeartbeats 1000000
theorem sameS_rw {H : Hp} {es : Nat} {x : AV} {l : List AV} (h : Rw H es x l) : sameS x x = true := by
  cases h <;> simp [sameS]
theorem same_rw {H : Hp} {es : Nat} {x : AV} {l : List AV} (h : Rw H es x l) : same x x = true := by
  cases h <;> simp [same, sameS]
theorem same_i (k : IntKind) (a : Int) : same (.int k a) (.int k a) = true := by cases k <;> simp [same, sameS]
theorem tk_one {t : Tk} {x : AV} (hx : oneC x = true) : ∀ v ∈ tkC t x, oneC v = true := by
  intro v hv
  simp only [tkC, List.mem_cons, List.not_mem_nil, or_false] at hv
  rcases hv with rfl | rfl | rfl | rfl | rfl | rfl <;> first | rfl | exact hx
theorem RD.ones {H : Hp} {dx : AV} {xs : List AV} {ts : List Tk} (h : RD H dx xs ts) : ∀ v ∈ (List.zipWith tkC ts xs).flatten, oneC v = true := by
  intro v hv
  obtain ⟨c, hc, hv⟩ := List.mem_flatten.1 hv
  obtain ⟨i, hi⟩ := List.getElem?_of_mem hc
  rw [List.getElem?_zipWith] at hi
  cases ht : ts[i]? with
  | none => rw [ht] at hi; simp at hi
  | some t =>
    cases hx : xs[i]? with
    | none => rw [ht, hx] at hi; simp at hi
    | some x =>
      rw [ht, hx] at hi
      simp only [Option.some.injEq] at hi
      subst hi
      exact tk_one (h.aft i x t hx ht).one v hv
theorem rts_ones (l : List RT) : ∀ v ∈ (rts l).flatten, oneC v = true := by
  intro v hv
  obtain ⟨c, hc, hv⟩ := List.mem_flatten.1 hv
  obtain ⟨t, _, rfl⟩ := List.mem_map.1 hc
  simp only [rtC, List.mem_cons, List.not_mem_nil, or_false] at hv
  rcases hv with rfl | rfl | rfl | rfl <;> rfl
theorem zip_six {ts : List Tk} {xs : List AV} : ∀ c ∈ List.zipWith tkC ts xs, c.length = 6 := by
  intro c hc
  obtain ⟨i, hi⟩ := List.getElem?_of_mem hc
  rw [List.getElem?_zipWith] at hi
  cases ht : ts[i]? with
  | none => rw [ht] at hi; simp at hi
  | some t =>
    cases hx : xs[i]? with
    | none => rw [ht, hx] at hi; simp at hi
    | some x =>
      rw [ht, hx] at hi
      simp only [Option.some.injEq] at hi
      subst hi; rfl
theorem rts_four (l : List RT) : ∀ c ∈ rts l, c.length = 4 := fun c hc => by
  obtain ⟨t, _, rfl⟩ := List.mem_map.1 hc; rfl
theorem zip_set {ts : List Tk} {xs : List AV} {i : Nat} {t : Tk} {x y : AV} (ht : ts[i]? = some t) (hx : xs[i]? = some x) : (List.zipWith tkC ts xs).set i ((tkC t x).set 1 y) = List.zipWith tkC ts (xs.set i y) := by
  apply List.ext_getElem?
  intro k
  rw [List.getElem?_set, List.getElem?_zipWith, List.getElem?_zipWith, List.getElem?_set]
  have hil := (List.getElem?_eq_some_iff.1 ht).1
  have hxl := (List.getElem?_eq_some_iff.1 hx).1
  by_cases e : i = k
  · subst e
    rw [if_pos rfl, if_pos rfl, if_pos hxl, if_pos (by rw [List.length_zipWith]; omega), ht]; rfl
  · rw [if_neg e, if_neg e]
theorem clone_loop {ts : List Tk} {dx x31 : AV} {P B : Nat} (hn : ts.length ≤ 1000) (hal : ∀ t ∈ ts, t.after.length ≤ 1000) : ∀ (r : List Tk) (i : Nat) (H : Hp) (xk : List AV), i ≤ ts.length → ts.drop i = r → RD H dx xk ts → OL H 43 6 dx (List.zipWith tkC ts xk) → cellAt H P 0 = some dx → P < H.next → B ≤ H.next → P ∉ rid dx → (∀ x ∈ xk, ∀ j ∈ rid x, j ∉ rid dx) → (∀ (m : Nat) (x : AV), m < i → xk[m]? = some x → ∀ j ∈ rid x, B ≤ j) →
    ∃ xk' H', (∀ j28 : K.Fn 2, l__run_Run_clone JN GO cK j28 (.ptr P 0) x31 dx (.int .i64 (ts.length : Nat)) (.int .i64 (i : Nat)) H = j28 (.ptr P 0) x31 H') ∧ RD H' dx xk' ts ∧ (∀ x ∈ xk', ∀ j ∈ rid x, B ≤ j ∧ j ∉ rid dx) ∧ Out (rid dx) H H'
  | [], i, H, xk, hi, h, hR, hO, hP, hPl, hB, hPd, hd, hb => by
    obtain rfl := drop_nil hi h
    refine ⟨xk, H, fun j28 => ?_, hR, fun x hx j hj => ⟨?_, hd x hx j hj⟩, Out.refl _ _⟩
    · rw [ql__run_Run_clone]
      simp only [bl__run_Run_clone, lt_f, k_s, k_x, Int.reduceBEq, Int.reduceBNe, Int.reduceLT, Int.reduceLE, Int.reduceGT, Int.reduceGE, Int.reduceNeg]
    · obtain ⟨m, hm⟩ := List.getElem?_of_mem hx
      have := (List.getElem?_eq_some_iff.1 hm).1
      rw [hR.len] at this
      exact hb m x this hm j hj
  | t :: r, i, H, xk, hi, h, hR, hO, hP, hPl, hB, hPd, hd, hb => by
    obtain ⟨h1, h2, h3⟩ := hd_drop h
    have ht := List.mem_of_getElem? h2
    obtain ⟨x, b, o, q0, q1, q2, q3, q4, q5, q6⟩ := hR.at h2
    have es := wrap_s h1 (by omega)
    have o1 := al_out H (tkC t x) 43 0
    have hst := st_tk t x q1 H
    obtain ⟨e0, e1, e2, e3, e4, e5⟩ := fd_tk t x
    obtain ⟨y, H2, y1, y2, y3, y4, y5⟩ := cloneInt_c (q2.out0 o1) (fun v hv => by obtain ⟨z, _, rfl⟩ := List.mem_map.1 hv; rfl) (by rw [ints_len]; have := hal t ht; omega)
    have o2 := o1.trans y3
    have hn2 := o2.nx
    have hdl := hR.row.1.lt
    have hO2 := hO.out o2 (by simp)
    have hzi : (List.zipWith tkC ts xk)[i]? = some (tkC t x) := by rw [List.getElem?_zipWith, h2, q0]
    obtain ⟨H3, w1, w2, w3, w4⟩ := hO2.st1 (k := 1) hzi q3 y2.oneX (by decide)
    rw [zip_set h2 q0] at w2
    have hP1 : cellAt (al H (tkC t x) 43 0) P 0 = some dx := by rw [cellAt_al_ne hPl]; exact hP
    have hP2 : cellAt H2 P 0 = some dx := by rw [o2.cellAt hPl (by simp)]; exact hP
    have hP3 : cellAt H3 P 0 = some dx := by rw [w3.cellAt (by omega) hPd]; exact hP2
    have hxil := (List.getElem?_eq_some_iff.1 q0).1
    have hyd : ∀ j ∈ rid y, j ∉ rid dx := fun j hj z => by have := y4 j hj; rw [al_nx] at this; have := hdl j z; omega
    have hyb : ∀ j ∈ rid y, B ≤ j := fun j hj => by have := y4 j hj; rw [al_nx] at this; omega
    have hR3 : RD H3 dx (xk.set i y) ts := by
      refine ⟨by rw [List.length_set]; exact hR.len, w2.rl, fun m z u hz hu => ?_⟩
      rw [List.getElem?_set] at hz
      split at hz
      · rename_i e
        subst e
        cases hz
        rw [h2] at hu; cases hu
        exact y2.rw.out w3 hyd
      · exact ((hR.aft m z u hz hu).out0 o2).out w3 (hd z (List.mem_of_getElem? hz))
    obtain ⟨xk', H', i1, i2, i3, i4⟩ := clone_loop (x31 := x31) (P := P) (B := B) hn hal r (i + 1) H3 (xk.set i y) h1 h3 hR3 w2 hP3 (by omega) (by omega) hPd (fun z hz => by
      rcases List.mem_or_eq_of_mem_set hz with hz | rfl
      · exact hd z hz
      · exact hyd) (fun m z hm hz => by
      rw [List.getElem?_set] at hz
      split at hz
      · cases hz
        exact hyb
      · exact hb m z (by omega) hz)
    refine ⟨xk', H', fun j28 => ?_, i2, i3, ((o2.mono fun j hj => by cases hj).trans w3).trans i4⟩
    rw [ql__run_Run_clone]
    simp (disch := (first | assumption | omega | (simp only [k_d, k_c, Nat.reduceAdd, Nat.reduceLeDiff, Nat.reduceLT] <;> fail) | (simp only [k_c]; omega) | (simp only [k_d, k_c, Nat.reduceAdd, Nat.reduceLeDiff, Nat.reduceLT, *] <;> fail) | fail)) only [bl__run_Run_clone, lt_t h1, q3, q5, hst, hP1, e1, y1, w1, hP2, SM_t (same_rw hR.row.1), es, i1, k_a, k_b, Nat.reduceAdd, k_s, k_x, Int.reduceBEq, Int.reduceBNe, Int.reduceLT, Int.reduceLE, Int.reduceGT, Int.reduceGE, Int.reduceNeg]
/-- a run of one's own -/
structure RO (H : Hp) (dx : AV) (xs : List AV) (tx sx : AV) (R : Rn) : Prop where
  v : RV H dx xs tx sx R
  t : OL H 51 4 tx (rts R.rs)
  s : Ow H 9 1 sx (strs R.sg)
  dt : ∀ j ∈ rid tx, j ∉ fpD dx xs ∧ j ∉ rid sx
  ds : ∀ j ∈ rid sx, j ∉ fpD dx xs
/-- a run is not too great -/
structure Sm (R : Rn) : Prop where
  n : R.ts.length ≤ 1000
  a : ∀ t ∈ R.ts, t.after.length ≤ 1000
  r : R.rs.length ≤ 1000
  s : R.sg.length ≤ 1000
theorem clone_c {H : Hp} {dx tx sx : AV} {xs : List AV} {R : Rn} (h : RV H dx xs tx sx R) (hs : Sm R) :
    ∃ dx' xs' tx' sx' H', cK (.func (.func 44) [] []) [.agg (rv dx R.st tx sx)] H = some (.agg (rv dx' R.st tx' sx'), H') ∧ RO H' dx' xs' tx' sx' R ∧ Out [] H H' ∧ ∀ j ∈ fpR dx' xs' tx' sx', H.next ≤ j := by
  have hbx : bx 47 (.agg (rv dx R.st tx sx)) H = some (H.next, al H (rv dx R.st tx sx) 47 0) := bx_alA (by simp)
  have o1 := al_out H (rv dx R.st tx sx) 47 0
  have c1 := al_cs H (rv dx R.st tx sx) 47 0
  have n1 : (al H (rv dx R.st tx sx) 47 0).next = H.next + 1 := rfl
  generalize al H (rv dx R.st tx sx) 47 0 = H1 at *
  have hnc : newCells H1 [.slice0, (.int .i64 0), .slice0, .slice0] 47 0 = some (H.next + 1, al H1 [.slice0, (.int .i64 0), .slice0, .slice0] 47 0) := by rw [← n1]; exact newCells_al (by simp)
  have o2 := al_out H1 [.slice0, (.int .i64 0), .slice0, .slice0] 47 0
  have c2 := al_cs H1 [.slice0, (.int .i64 0), .slice0, .slice0] 47 0
  have n2 : (al H1 [.slice0, (.int .i64 0), .slice0, .slice0] 47 0).next = H.next + 2 := by rw [al_nx, n1]
  rw [n1] at c2
  generalize hA2 : al H1 [.slice0, (.int .i64 0), .slice0, .slice0] 47 0 = H2 at *
  have o12 := o1.trans o2
  have cP2 := c1.out o2 (by simp)
  have hv2 := h.out0 o12
  have k1 : cellAt H2 H.next 0 = some dx := cP2.cellAt rfl
  have hR2 := hv2.d
  have hfl : (List.zipWith tkC R.ts xs).flatten.length ≤ 6000 := by
    rw [flatten_len zip_six, List.length_zipWith]
    have := hs.n
    have : min R.ts.length xs.length ≤ 1000 := Nat.le_trans (Nat.min_le_left _ _) hs.n
    omega
  obtain ⟨dx', H3, a1, a2, a3, a4, a5⟩ := cloneTask_c hR2.row.1 hR2.ones (by omega)
  have cP3 := cP2.out a3 (by simp)
  have hd1 : oneC dx' = true := a2.oneX
  obtain ⟨H4, b1, b2, b3, b4⟩ := st1 cP3 (by decide) (o := 0) (by simp) (v := dx') hd1
  have hs1 : (rv dx R.st tx sx).set 0 dx' = rv dx' R.st tx sx := rfl
  rw [hs1] at b2
  have n3 := a3.nx
  have hPd : H.next ∉ rid dx' := fun z => by have := a4 _ z; omega
  have hP4 : cellAt H4 H.next 0 = some dx' := b2.cellAt rfl
  have hR3 := hR2.out0 a3
  have hlt2 := hR2.lt
  have hlt0 := h.d.lt
  have hR4 : RD H4 dx' xs R.ts := ⟨hR3.len, (show OL H3 43 6 dx' (List.zipWith tkC R.ts xs) from ⟨a2, zip_six⟩).rl.out b3 (fun j hj => by rw [List.mem_singleton]; intro e; subst e; exact hPd hj), fun m z u hz hu => (hR3.aft m z u hz hu).out b3 fun j hj => by
    rw [List.mem_singleton]
    have := (h.d.aft m z u hz hu).lt j hj
    omega⟩
  have hO4 : OL H4 43 6 dx' (List.zipWith tkC R.ts xs) := (show OL H3 43 6 dx' (List.zipWith tkC R.ts xs) from ⟨a2, zip_six⟩).out b3 (fun j hj => by rw [List.mem_singleton]; intro e; subst e; exact hPd hj)
  have hdl := hR4.lenx
  obtain ⟨xs', H5, l1, l2, l3, l4⟩ := clone_loop (x31 := .ptr (H.next + 1) 0) (P := H.next) (B := H.next + 2) hs.n hs.a R.ts 0 H4 xs (Nat.zero_le _) List.drop_zero hR4 hO4 hP4 b2.1 (by omega) hPd (fun x hx j hj z => by
    obtain ⟨m, hm⟩ := List.getElem?_of_mem hx
    have hml := (List.getElem?_eq_some_iff.1 hm).1
    rw [h.d.len] at hml
    have := (h.d.aft m x _ hm (List.getElem?_eq_getElem hml)).lt j hj
    have := a4 j z
    omega) (fun m x hm => by omega)
  rw [show (((0 : Nat) : Int)) = 0 from rfl] at l1
  have cP5 := b2.out l4 hPd
  have n5 := l4.nx
  have lowT : ∀ {S : List Nat} {A B : Hp}, Out S A B → True := fun _ => trivial
  have o25 : Out (H.next :: rid dx') H2 H5 := ((a3.mono (S' := H.next :: rid dx') fun j hj => by cases hj).trans (b3.mono fun j hj => by rw [List.mem_singleton] at hj; subst hj; exact .head _)).trans (l4.mono fun j hj => .tail _ hj)
  have hnotin : ∀ j, j < H.next → j ∉ H.next :: rid dx' := fun j hj z => by
    rcases List.mem_cons.1 z with e | z
    · omega
    · have := a4 j z; omega
  have ht5 : RL H5 4 tx (rts R.rs) := hv2.t.out o25 fun j hj => hnotin j (h.t.1.lt j hj)
  have hs5 : Rw H5 1 sx (strs R.sg) := hv2.s.out o25 fun j hj => hnotin j (h.s.lt j hj)
  have k2 : cellAt H5 H.next 2 = some tx := cP5.cellAt rfl
  obtain ⟨tx', H6, t1, t2, t3, t4, t5⟩ := cloneRTask_c ht5.1 (rts_ones R.rs) (by rw [flatten_len (rts_four _), rts_len]; have := hs.r; omega)
  have cP6 := cP5.out t3 (by simp)
  obtain ⟨H7, u1, u2, u3, u4⟩ := st1 cP6 (by decide) (o := 2) (by simp) (v := tx') t2.oneX
  have hs2 : (rv dx' R.st tx sx).set 2 tx' = rv dx' R.st tx' sx := rfl
  rw [hs2] at u2
  have n6 := t3.nx
  have k3 : cellAt H7 H.next 3 = some sx := u2.cellAt rfl
  have hP7 : ∀ j, H.next + 2 ≤ j ∨ j < H.next → j ∉ [H.next] := fun j hj => by rw [List.mem_singleton]; omega
  have hs7 : Rw H7 1 sx (strs R.sg) := (hs5.out0 t3).out u3 fun j hj => hP7 j (.inr (h.s.lt j hj))
  obtain ⟨sx', H8, v1, v2, v3, v4, v5⟩ := cloneStr_c hs7 (fun v hv => by obtain ⟨z, _, rfl⟩ := List.mem_map.1 hv; rfl) (by rw [strs_len]; have := hs.s; omega)
  have cP8 := u2.out v3 (by simp)
  obtain ⟨H9, w1, w2, w3, w4⟩ := st1 cP8 (by decide) (o := 3) (by simp) (v := sx') v2.oneX
  have hs3 : (rv dx' R.st tx' sx).set 3 sx' = rv dx' R.st tx' sx' := rfl
  rw [hs3] at w2
  have n8 := v3.nx
  have k4 : cellsAt H9 H.next 0 4 = some (rv dx' R.st tx' sx') := w2.cellsAt 4 0 (by simp)
  -- the result's cell
  have hQd : H.next + 1 ∉ rid dx' := fun z => by have := a4 _ z; omega
  have hQ : ∀ S : List Nat, S = [H.next] → H.next + 1 ∉ S := fun S e => by rw [e, List.mem_singleton]; omega
  have cQ9 := (((((((c2.out a3 (by simp)).out b3 (hQ _ rfl)).out l4 hQd).out t3 (by simp)).out u3 (hQ _ rfl)).out v3 (by simp)).out w3 (hQ _ rfl))
  obtain ⟨H10, z1, z2, z3, z4⟩ := stAll (n := 4) (vs := rv dx' R.st tx' sx') cQ9 rfl rfl (by simp [hd1, t2.oneX, v2.oneX, oneC_i])
  have k5 : cellsAt H10 (H.next + 1) 0 4 = some (rv dx' R.st tx' sx') := z2.cellsAt 4 0 (by simp)
  have hT6 : OL H6 51 4 tx' (rts R.rs) := ⟨t2, rts_four _⟩
  have n7 := u3.nx
  have n9 := w3.nx
  have hi2 : ∀ j, H.next + 2 ≤ j → j ∉ [H.next] ∧ j ∉ [H.next + 1] := fun j hj => by rw [List.mem_singleton, List.mem_singleton]; omega
  have hd' : ∀ j ∈ fpD dx' xs', H.next + 2 ≤ j ∧ j < H5.next := fun j hj => ⟨by
    rcases List.mem_append.1 hj with hj | hj
    · have := a4 j hj; omega
    · obtain ⟨x, hx, hj⟩ := List.mem_flatMap.1 hj
      exact (l3 x hx j hj).1, l2.lt j hj⟩
  have ht' : ∀ j ∈ rid tx', H5.next ≤ j ∧ j < H6.next := fun j hj => ⟨t4 j hj, t2.rw.lt j hj⟩
  have hs' : ∀ j ∈ rid sx', H7.next ≤ j := v4
  have n45 : H.next + 2 ≤ H5.next := by omega
  have hT10 : OL H10 51 4 tx' (rts R.rs) := (((hT6.out u3 fun j hj => (hi2 j (by have := ht' j hj; omega)).1).out v3 (by simp)).out w3 fun j hj => (hi2 j (by have := ht' j hj; omega)).1).out z3 fun j hj => (hi2 j (by have := ht' j hj; omega)).2
  have hS10 : Ow H10 9 1 sx' (strs R.sg) := (v2.out w3 fun j hj => (hi2 j (by have := hs' j hj; omega)).1).out z3 fun j hj => (hi2 j (by have := hs' j hj; omega)).2
  have hD10 : RD H10 dx' xs' R.ts := ((((l2.out0 t3).out u3 fun j hj => (hi2 j (hd' j hj).1).1).out0 v3).out w3 fun j hj => (hi2 j (hd' j hj).1).1).out z3 fun j hj => (hi2 j (hd' j hj).1).2
  have key : ∀ {S : List Nat} {A B : Hp}, Out [] H A → Out S A B → (∀ j ∈ S, H.next ≤ j) → Out [] H B := fun h k hS => h.then k fun j hj => .inr (hS j hj)
  have one : ∀ (m : Nat), H.next ≤ m → ∀ j ∈ [m], H.next ≤ j := fun m hm j hj => by rw [List.mem_singleton] at hj; omega
  have out : Out [] H H10 := key (key (key (key (key (key (key (key o12 a3 (fun j hj => by cases hj)) b3 (one _ (Nat.le_refl _))) l4 fun j hj => by have := a4 j hj; omega) t3 (fun j hj => by cases hj)) u3 (one _ (Nat.le_refl _))) v3 (fun j hj => by cases hj)) w3 (one _ (Nat.le_refl _))) z3 (one _ (Nat.le_succ _))
  refine ⟨dx', xs', tx', sx', H10, c__run_Run_clone ?_, ⟨⟨hD10, hT10.rl, hS10.rw⟩, hT10, hS10, fun j hj => ⟨fun z => ?_, fun z => ?_⟩, fun j hj z => ?_⟩, out, fun j hj => ?_⟩
  · unfold s__run_Run_clone
    simp (disch := (first | assumption | omega | (simp only [k_d, k_c, Nat.reduceAdd, Nat.reduceLeDiff, Nat.reduceLT] <;> fail) | (simp only [k_c]; omega) | (simp only [k_d, k_c, Nat.reduceAdd, Nat.reduceLeDiff, Nat.reduceLT, *] <;> fail) | fail)) only [hbx, hnc, n1, hA2, k1, a1, b1, hP4, hdl, l1, k2, t1, u1, k3, v1, w1, k4, z1, k5, k_a, k_b, Nat.reduceAdd, k_s, k_x, Int.reduceBEq, Int.reduceBNe, Int.reduceLT, Int.reduceLE, Int.reduceGT, Int.reduceGE, Int.reduceNeg]
  · have := ht' j hj; have := hd' j z; omega
  · have := ht' j hj; have := hs' j z; omega
  · have := hs' j hj; have := hd' j z; omega
  · rcases List.mem_append.1 hj with hj | hj
    · have := hd' j hj; omega
    · rcases List.mem_append.1 hj with hj | hj
      · have := ht' j hj; omega
      · have := hs' j hj; omega
end Go.Proofs.YthljbjokonglhaaGreatDoor.DfK
