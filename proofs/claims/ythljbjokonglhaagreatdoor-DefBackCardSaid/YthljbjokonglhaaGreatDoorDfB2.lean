/- DefBack over the symbolic heap: a definition that is read is shown, and is read again as the same. Conditions: the listed variables hold what the row says. -/
import Derived.Test.YthljbjokonglhaaGreatDoorDfB
namespace Go.Proofs.YthljbjokonglhaaGreatDoor.DfK
open Go Am Am.K DfEnv DfM LibP DfG
set_option linter.unusedVariables false
set_option linter.unusedSimpArgs false
set_option maxRecDepth 10000
set_option maxHeartbeats 1000000
/-! the document's own -/
theorem fl_tk (t : Tk) (x : AV) (hx : oneC x = true) : fl [(.str []), .slice0, (.int .i64 0), (.int .i64 0), (.int .i64 0), (.str [])] [(0, 1, .str t.name), (1, 1, x), (2, 1, .int .i64 t.retry), (3, 1, .int .i64 t.wait), (4, 1, .int .i64 t.base), (5, 1, .str t.on)] = some (tkC t x) := by
  rw [fl_cons1 rfl (by simp), fl_cons1 hx (by simp), fl_cons1 rfl (by simp), fl_cons1 rfl (by simp), fl_cons1 rfl (by simp), fl_cons1 rfl (by simp), fl_nil]
  rfl
theorem fl_tk6 (t : Tk) (x : AV) : fl [(.str []), .slice0, (.int .i64 0), (.int .i64 0), (.int .i64 0), (.str [])] [(0, 6, .agg (tkC t x))] = some (tkC t x) := by
  rw [fl_consN (tk_len t x) (by simp), fl_nil]
  rfl
theorem defOf_loop {ts : List Tk} {dx : AV} {xs : List AV} {D : Nat} (hn : ts.length ≤ 16) :
    ∀ (r : List Tk) (i : Nat) (H : Hp) (wx : AV), i ≤ ts.length → ts.drop i = r → cellAt H D 0 = some dx → D < H.next → RD H dx xs ts → OL H 79 6 wx ((List.zipWith tkC ts xs).take i) → (∀ j ∈ rid wx, j ≠ D ∧ j ∉ fpD dx xs) →
    ∃ wx' H', (∀ j3 : K.Fn 1, l_outriderlaw12_defOf JN GO cK j3 (.ptr D 0) wx (.int .i64 (i : Nat)) H = j3 wx' H') ∧ RL H' 6 wx' (List.zipWith tkC ts xs) ∧ Out (rid wx) H H' ∧ ∀ j ∈ rid wx', j ∈ rid wx ∨ H.next ≤ j
  | [], i, H, wx, hi, h, hD, hDl, hR, hO, hd => by
    obtain rfl := drop_nil hi h
    have hdl := hR.lenx
    have hzl : (List.zipWith tkC ts xs).length = ts.length := by rw [List.length_zipWith, hR.len, Nat.min_self]
    refine ⟨wx, H, fun j3 => ?_, by rw [← hzl, List.take_length] at hO; exact hO.rl, Out.refl _ _, fun j hj => .inl hj⟩
    rw [ql_outriderlaw12_defOf]
    simp (disch := (first | assumption | omega | (simp only [k_d, k_c, Nat.reduceAdd, Nat.reduceLeDiff, Nat.reduceLT] <;> fail) | (simp only [k_c]; omega) | (simp only [k_d, k_c, Nat.reduceAdd, Nat.reduceLeDiff, Nat.reduceLT, *] <;> fail) | fail)) only [bl_outriderlaw12_defOf, hD, hdl, lt_f, k_a, k_b, Nat.reduceAdd, k_s, k_x, Int.reduceBEq, Int.reduceBNe, Int.reduceLT, Int.reduceLE, Int.reduceGT, Int.reduceGE, Int.reduceNeg]
  | t :: r, i, H, wx, hi, h, hD, hDl, hR, hO, hd => by
    obtain ⟨h1, h2, h3⟩ := hd_drop h
    have hdl := hR.lenx
    obtain ⟨x, b, o, q0, q1, q2, q3, q4, q5, q6⟩ := hR.at h2
    have es := wrap_s h1 (by omega)
    obtain ⟨e0, e1, e2, e3, e4, e5⟩ := fd_tk t x
    have o1 := al_out H (tkC t x) 43 0
    have hst := st_tk t x q1 H
    have f1 := fl_tk t x q1
    have f2 := fl_tk6 t x
    have hzi : (List.zipWith tkC ts xs)[i]? = some (tkC t x) := by rw [List.getElem?_zipWith, h2, q0]
    have hzt : (List.zipWith tkC ts xs).take (i + 1) = (List.zipWith tkC ts xs).take i ++ [tkC t x] := by rw [List.take_add_one, hzi]; rfl
    obtain ⟨wx1, H2, p1, p2, p3, p4, p5⟩ := (hO.out o1 (by simp)).push (el2 := 79) (z := [(.str []), .slice0, (.int .i64 0), (.int .i64 0), (.int .i64 0), (.str [])]) (vs := tkC t x) (by simp [tkC, oneC_s, oneC_i, q1]) rfl (by decide) (by rw [List.length_take]; omega)
    rw [← hzt] at p2
    have o2 : Out (rid wx) H H2 := (o1.mono fun j hj => by cases hj).trans p3
    have hn2 := p3.nx
    rw [al_nx] at hn2
    have hrl := hR.lt
    have hnc : newCells (al H (tkC t x) 43 0) (tkC t x) 79 0 = some (H.next + 1, al (al H (tkC t x) 43 0) (tkC t x) 79 0) := newCells_al (by rw [tk_len]; omega)
    have p1' := p1 (H.next + 1) rfl
    obtain ⟨wx', H', i1, i2, i3, i4⟩ := defOf_loop hn r (i + 1) H2 wx1 h1 h3 (by rw [o2.cellAt hDl fun z => (hd D z).1 rfl]; exact hD) (by omega) (hR.out o2 fun j hj z => (hd j z).2 hj) p2 fun j hj => (p4 j hj).elim (hd j) fun z => by rw [al_nx] at z; exact ⟨by omega, fun y => by have := hrl j y; omega⟩
    have key : ∀ j ∈ rid wx1, j ∈ rid wx ∨ H.next ≤ j := fun j hj => (p4 j hj).imp id fun z => by rw [al_nx] at z; omega
    refine ⟨wx', H', fun j3 => ?_, i2, o2.then i3 key, fun j hj => (i4 j hj).elim (key j) fun z => .inr (by omega)⟩
    rw [ql_outriderlaw12_defOf]
    simp (disch := (first | assumption | omega | (simp only [k_d, k_c, Nat.reduceAdd, Nat.reduceLeDiff, Nat.reduceLT] <;> fail) | (simp only [k_c]; omega) | (simp only [k_d, k_c, Nat.reduceAdd, Nat.reduceLeDiff, Nat.reduceLT, *] <;> fail) | fail)) only [bl_outriderlaw12_defOf, hD, hdl, lt_t h1, q3, q5, hst, e0, e1, e2, e3, e4, e5, f1, f2, hnc, p1', es, i1, k_a, k_b, Nat.reduceAdd, k_s, k_x, Int.reduceBEq, Int.reduceBNe, Int.reduceLT, Int.reduceLE, Int.reduceGT, Int.reduceGE, Int.reduceNeg]
theorem defOf_c {ts : List Tk} {dx : AV} {xs : List AV} {H : Hp} (hn : ts.length ≤ 16) (hR : RD H dx xs ts) :
    ∃ wx H', cK (.func (.func 13) [] []) [dv dx] H = some (wx, H') ∧ RD H' wx xs ts ∧ Out [] H H' := by
  have hd1 := hR.row.one
  have hrl := hR.lt
  have o1 := al_out H [dx] 25 0
  have hbx : bx 25 (.agg [dx]) H = some (H.next, al H [dx] 25 0) := bx_alA (by simp)
  obtain ⟨wx, H', i1, i2, i3, i4⟩ := defOf_loop (D := H.next) hn ts 0 (al H [dx] 25 0) .slice0 (Nat.zero_le _) List.drop_zero (cellAt_al rfl) (by rw [al_nx]; omega) (hR.out0 o1) (OL.nil _ _ _) fun j hj => by cases hj
  rw [show (((0 : Nat) : Int)) = 0 from rfl] at i1
  have i3' : Out [] (al H [dx] 25 0) H' := i3
  refine ⟨wx, H', c_outriderlaw12_defOf ?_, ⟨hR.len, i2, ((hR.out0 o1).out0 i3').aft⟩, o1.trans i3'⟩
  unfold s_outriderlaw12_defOf
  simp (disch := (first | assumption | omega | (simp only [k_d, k_c, Nat.reduceAdd, Nat.reduceLeDiff, Nat.reduceLT] <;> fail) | (simp only [k_c]; omega) | (simp only [k_d, k_c, Nat.reduceAdd, Nat.reduceLeDiff, Nat.reduceLT, *] <;> fail) | fail)) only [hbx, i1, k_a, k_b, Nat.reduceAdd, k_s, k_x, Int.reduceBEq, Int.reduceBNe, Int.reduceLT, Int.reduceLE, Int.reduceGT, Int.reduceGE, Int.reduceNeg]
theorem same1_loop {l : List Int} {x y a b iv : AV} {p q : Nat} {H : Hp} (hl : l.length ≤ 16) (hp : cellAt H p 1 = some x) (hq : cellAt H q 1 = some y) (hx : Rw H 1 x (ints l)) (hy : Rw H 1 y (ints l)) (j13 : K.Fn 0) (j22 j174 : K.Fn 3) : ∀ (r : List Int) (k : Nat), k ≤ l.length → l.drop k = r →
    l_outriderlaw12_same1 JN GO cK j13 j22 j174 a b iv (.ptr p 0) (.ptr q 0) (.int .i64 (k : Nat)) H = j174 a b iv H
  | [], k, hk, h => by
    obtain rfl := drop_nil hk h
    have hll := hx.len1
    rw [ints_len] at hll
    rw [ql_outriderlaw12_same1]
    simp (disch := (first | assumption | omega | (simp only [k_d, k_c, Nat.reduceAdd, Nat.reduceLeDiff, Nat.reduceLT] <;> fail) | (simp only [k_c]; omega) | (simp only [k_d, k_c, Nat.reduceAdd, Nat.reduceLeDiff, Nat.reduceLT, *] <;> fail) | fail)) only [bl_outriderlaw12_same1, hp, hll, lt_f, k_a, k_b, Nat.reduceAdd, k_s, k_x, Int.reduceBEq, Int.reduceBNe, Int.reduceLT, Int.reduceLE, Int.reduceGT, Int.reduceGE, Int.reduceNeg]
  | z :: r, k, hk, h => by
    obtain ⟨h1, h2, h3⟩ := hd_drop h
    have hll := hx.len1
    rw [ints_len] at hll
    obtain ⟨u, u1, u2⟩ := hx.ia1 (ints_get h2) .i64
    obtain ⟨v, v1, v2⟩ := hy.ia1 (ints_get h2) .i64
    have es := wrap_s h1 (by omega)
    have ih := same1_loop (a := a) (b := b) (iv := iv) hl hp hq hx hy j13 j22 j174 r (k + 1) h1 h3
    rw [ql_outriderlaw12_same1]
    simp (disch := (first | assumption | omega | (simp only [k_d, k_c, Nat.reduceAdd, Nat.reduceLeDiff, Nat.reduceLT] <;> fail) | (simp only [k_c]; omega) | (simp only [k_d, k_c, Nat.reduceAdd, Nat.reduceLeDiff, Nat.reduceLT, *] <;> fail) | fail)) only [bl_outriderlaw12_same1, hp, hq, hll, lt_t h1, u1, u2, v1, v2, es, ih, k_a, k_b, Nat.reduceAdd, k_s, k_x, Int.reduceBEq, Int.reduceBNe, Int.reduceLT, Int.reduceLE, Int.reduceGT, Int.reduceGE, Int.reduceNeg]
theorem same_loop {ts : List Tk} {a b : AV} {xs ys : List AV} (hn : ts.length ≤ 16) (hal : ∀ t ∈ ts, t.after.length ≤ 16) : ∀ (r : List Tk) (i : Nat) (H : Hp), i ≤ ts.length → ts.drop i = r → RD H a xs ts → RD H b ys ts →
    ∃ H', (∀ j13 : K.Fn 0, l_outriderlaw12_same JN GO cK j13 a b (.int .i64 (i : Nat)) H = j13 H') ∧ Out [] H H'
  | [], i, H, hi, h, hA, hB => by
    obtain rfl := drop_nil hi h
    have hl := hA.lenx
    refine ⟨H, fun j13 => ?_, Out.refl _ _⟩
    rw [ql_outriderlaw12_same]
    simp (disch := (first | assumption | omega | (simp only [k_d, k_c, Nat.reduceAdd, Nat.reduceLeDiff, Nat.reduceLT] <;> fail) | (simp only [k_c]; omega) | (simp only [k_d, k_c, Nat.reduceAdd, Nat.reduceLeDiff, Nat.reduceLT, *] <;> fail) | fail)) only [bl_outriderlaw12_same, hl, lt_f, k_a, k_b, Nat.reduceAdd, k_s, k_x, Int.reduceBEq, Int.reduceBNe, Int.reduceLT, Int.reduceLE, Int.reduceGT, Int.reduceGE, Int.reduceNeg]
  | t :: r, i, H, hi, h, hA, hB => by
    obtain ⟨h1, h2, h3⟩ := hd_drop h
    have hl := hA.lenx
    have es := wrap_s h1 (by omega)
    have ht := hal t (List.mem_of_getElem? h2)
    obtain ⟨x, c, o, q0, q1, q2, q3, q4, q5, q6⟩ := hA.at h2
    obtain ⟨y, d, o', w0, w1, w2, w3, w4, w5, w6⟩ := hB.at h2
    have a1 := al_out H [(.str []), .slice0, (.int .i64 0), (.int .i64 0), (.int .i64 0), (.str [])] 79 0
    have c1 := al_cs H [(.str []), .slice0, (.int .i64 0), (.int .i64 0), (.int .i64 0), (.str [])] 79 0
    generalize hA1 : al H [(.str []), .slice0, (.int .i64 0), (.int .i64 0), (.int .i64 0), (.str [])] 79 0 = H1 at *
    have n1 : H1.next = H.next + 1 := by rw [← hA1]; rfl
    have a2 := al_out H1 [(.str []), .slice0, (.int .i64 0), (.int .i64 0), (.int .i64 0), (.str [])] 79 0
    have c2 := al_cs H1 [(.str []), .slice0, (.int .i64 0), (.int .i64 0), (.int .i64 0), (.str [])] 79 0
    generalize hA2 : al H1 [(.str []), .slice0, (.int .i64 0), (.int .i64 0), (.int .i64 0), (.str [])] 79 0 = H2 at *
    have n2 : H2.next = H.next + 2 := by rw [← hA2, al_nx, n1]
    rw [n1] at c2
    obtain ⟨H3, s1, s2, s3, s4⟩ := stAll (n := 6) (vs := tkC t x) (c1.out a2 (by simp)) rfl rfl (by simp [tkC, oneC_s, oneC_i, q1])
    obtain ⟨H4, t1, t2, t3, t4⟩ := stAll (n := 6) (vs := tkC t y) (c2.out s3 (by simp)) rfl rfl (by simp [tkC, oneC_s, oneC_i, w1])
    have s2' := s2.out t3 (by simp)
    have o03 : Out [H.next] H H3 := ((a1.trans a2).mono fun j hj => by cases hj).trans s3
    have hB3 : cellsAt H3 d o' 6 = some (tkC t y) := by rw [o03.cellsAt w4 (by rw [List.mem_singleton]; omega)]; exact w5
    have o04 : Out [] H H4 := ((a1.trans a2).then s3 fun j hj => by rw [List.mem_singleton] at hj; exact .inr (by omega)).then t3 fun j hj => by rw [List.mem_singleton] at hj; exact .inr (by omega)
    obtain ⟨e0, e1, e2, e3, e4, e5⟩ := fd_tk t x
    obtain ⟨g0, g1, g2, g3, g4, g5⟩ := fd_tk t y
    have k0 := s2'.cellAt e0
    have k1 := s2'.cellAt e1
    have k2 := s2'.cellAt e2
    have k3 := s2'.cellAt e3
    have k4 := s2'.cellAt e4
    have k5 := s2'.cellAt e5
    have m0 := t2.cellAt g0
    have m1 := t2.cellAt g1
    have m2 := t2.cellAt g2
    have m3 := t2.cellAt g3
    have m4 := t2.cellAt g4
    have m5 := t2.cellAt g5
    have hx4 := q2.out0 o04
    have hy4 := w2.out0 o04
    have lx := hx4.len1
    have ly := hy4.len1
    rw [ints_len] at lx ly
    have nc1 : newCells H [(.str []), .slice0, (.int .i64 0), (.int .i64 0), (.int .i64 0), (.str [])] 79 0 = some (H.next, H1) := by rw [← hA1]; exact newCells_al (by simp)
    have nc2 : newCells H1 [(.str []), .slice0, (.int .i64 0), (.int .i64 0), (.int .i64 0), (.str [])] 79 0 = some (H.next + 1, H2) := by rw [← hA2, ← n1]; exact newCells_al (by simp)
    have i1 := fun j13 j22 j174 => same1_loop (a := a) (b := b) (iv := .int .i64 (i : Nat)) ht k1 m1 hx4 hy4 j13 j22 j174 t.after 0 (Nat.zero_le _) List.drop_zero
    rw [show (((0 : Nat) : Int)) = 0 from rfl] at i1
    have sm := same_tk (t := t) w2
    obtain ⟨H', r1, r2⟩ := same_loop hn hal r (i + 1) H4 h1 h3 (hA.out0 o04) (hB.out0 o04)
    refine ⟨H', fun j13 => ?_, o04.trans r2⟩
    rw [ql_outriderlaw12_same]
    simp (disch := (first | assumption | omega | (simp only [k_d, k_c, Nat.reduceAdd, Nat.reduceLeDiff, Nat.reduceLT] <;> fail) | (simp only [k_c]; omega) | (simp only [k_d, k_c, Nat.reduceAdd, Nat.reduceLeDiff, Nat.reduceLT, *] <;> fail) | fail)) only [bl_outriderlaw12_same, hl, lt_t h1, q3, q5, w3, w5, nc1, nc2, hA1, hA2, n1, s1, t1, hB3, SM_t sm, k0, k1, k2, k3, k4, k5, m0, m1, m2, m3, m4, m5, lx, ly, i1, es, r1, k_a, k_b, Nat.reduceAdd, k_s, k_x, Int.reduceBEq, Int.reduceBNe, Int.reduceLT, Int.reduceLE, Int.reduceGT, Int.reduceGE, Int.reduceNeg]
theorem same_c {ts : List Tk} {a b : AV} {xs ys : List AV} {H : Hp} (hn : ts.length ≤ 16) (hal : ∀ t ∈ ts, t.after.length ≤ 16) (hA : RD H a xs ts) (hB : RD H b ys ts) :
    ∃ H', cK (.func (.func 12) [] []) [a, b] H = some (.bool true, H') ∧ Out [] H H' := by
  have la := hA.lenx
  have lb := hB.lenx
  obtain ⟨H', i1, i2⟩ := same_loop hn hal ts 0 H (Nat.zero_le _) List.drop_zero hA hB
  rw [show (((0 : Nat) : Int)) = 0 from rfl] at i1
  refine ⟨H', c_outriderlaw12_same ?_, i2⟩
  unfold s_outriderlaw12_same
  simp (disch := (first | assumption | omega | (simp only [k_d, k_c, Nat.reduceAdd, Nat.reduceLeDiff, Nat.reduceLT] <;> fail) | (simp only [k_c]; omega) | (simp only [k_d, k_c, Nat.reduceAdd, Nat.reduceLeDiff, Nat.reduceLT, *] <;> fail) | fail)) only [la, lb, i1, k_a, k_b, Nat.reduceAdd, k_s, k_x, Int.reduceBEq, Int.reduceBNe, Int.reduceLT, Int.reduceLE, Int.reduceGT, Int.reduceGE, Int.reduceNeg]
theorem parseM_none {text : Str} (h : (parseM text).2 ≠ 0) : (parseM text).1 = [] := by
  unfold parseM at h ⊢
  split
  · rfl
  · rename_i hb
    rw [if_neg hb] at h
    cases hts : tsM ((spl 59 text).map hdw) (spl 59 text) with
    | none => rfl
    | some ts =>
      rw [hts] at h
      simp only at h ⊢
      by_cases h0 : goodM ts = 0
      · rw [if_pos h0] at h; exact absurd rfl h
      · rw [if_neg h0]
theorem back_c {text : Str} {H : Hp} (hT : hasT H begin0) (hnx : 11 ≤ H.next) : ∃ H', cK (.func (.func 3) [] []) [.str text] H = some (.bool true, H') := by
  have haw := awake_c an hT hnx
  have hg := Gl.of hT hnx
  by_cases hbig : 1024 < text.length
  · have d : decide ((1024 : Int) < (text.length : Int)) = true := decide_eq_true (by omega)
    refine ⟨H, c_outriderlaw12_DefBack ?_⟩
    unfold s_outriderlaw12_DefBack
    simp (disch := (first | assumption | omega | (simp only [k_d, k_c, Nat.reduceAdd, Nat.reduceLeDiff, Nat.reduceLT] <;> fail) | (simp only [k_c]; omega) | (simp only [k_d, k_c, Nat.reduceAdd, Nat.reduceLeDiff, Nat.reduceLT, *] <;> fail) | fail)) only [haw, d, k_a, k_b, Nat.reduceAdd, k_s, k_x, Int.reduceBEq, Int.reduceBNe, Int.reduceLT, Int.reduceLE, Int.reduceGT, Int.reduceGE, Int.reduceNeg]
  have d : decide ((1024 : Int) < (text.length : Int)) = false := decide_eq_false (by omega)
  obtain ⟨dx, xs, H1, p1, p2, p3, p4⟩ := parse_c (text := text) hg (by omega)
  have hdx1 := p2.row.one
  have o1 := al_out H1 [dx] 25 0
  have cA := al_cs H1 [dx] 25 0
  have hR1 := p2.out0 o1
  have st0 : st 1 (.ptr H1.next 0) (.agg [dx]) (al H1 [.slice0] 25 0) = some (al H1 [dx] 25 0) := st_alN (by simp [hdx1]) rfl rfl (by decide) rfl
  have hgA := hg.out0 (p3.trans o1)
  by_cases he : (parseM text).2 ≠ 0
  · have d2 : ((parseM text).2 != 0) = true := by simp [he]
    have hl := p2.lenx
    rw [parseM_none he] at hl
    have hl' : lenx dx = some (.int .i64 0) := hl
    refine ⟨al H1 [dx] 25 0, c_outriderlaw12_DefBack ?_⟩
    unfold s_outriderlaw12_DefBack
    simp (disch := (first | assumption | omega | (simp only [k_d, k_c, Nat.reduceAdd, Nat.reduceLeDiff, Nat.reduceLT] <;> fail) | (simp only [k_c]; omega) | (simp only [k_d, k_c, Nat.reduceAdd, Nat.reduceLeDiff, Nat.reduceLT, *] <;> fail) | fail)) only [haw, d, p1, st0, d2, hl', k_a, k_b, Nat.reduceAdd, k_s, k_x, Int.reduceBEq, Int.reduceBNe, Int.reduceLT, Int.reduceLE, Int.reduceGT, Int.reduceGE, Int.reduceNeg]
  replace he : (parseM text).2 = 0 := Decidable.not_not.1 he
  have d2 : ((parseM text).2 != 0) = false := by simp [he]
  obtain ⟨g1, g2, g3, g4, g5, g6⟩ := parseM_good he
  obtain ⟨u1, hF, u2, u3, u4, u5, u6⟩ := parse_show he
  generalize (parseM text).1 = ts at *
  have hal := after_le0 g3 g4
  generalize hA : al H1 [dx] 25 0 = A at *
  obtain ⟨H2, s1, s2⟩ := show_c hgA hF u2 u3 g1 hR1
  obtain ⟨ex, ys, H3, v1, v2, v3, v4⟩ := parse_c (text := showM ts) (hgA.out0 s2) (by omega)
  rw [u6] at v1 v2
  have v2' : RD H3 ex ys ts := v2
  have hex1 := v2'.row.one
  have b1 := al_out H3 [ex] 25 0
  have cB := al_cs H3 [ex] 25 0
  have stB : st 1 (.ptr H3.next 0) (.agg [ex]) (al H3 [.slice0] 25 0) = some (al H3 [ex] 25 0) := st_alN (by simp [hex1]) rfl rfl (by decide) rfl
  have hncB := newCells_al (H := H3) (l := [.slice0]) (el := 25) (fl := 0) (by simp)
  generalize hB : al H3 [ex] 25 0 = B at *
  have oB : Out [] A B := (s2.trans v3).trans b1
  have cAB := cA.out oB (by simp)
  obtain ⟨H4, w1, w2⟩ := dgood_c (ts := ts) (by omega) (fun t ht => by have := hal t ht; omega) (hR1.out0 oB)
  rw [g1] at w1
  have cA4 := cAB.out w2 (by simp)
  have cB4 := cB.out w2 (by simp)
  obtain ⟨wx, H5, y1, y2, y3⟩ := defOf_c u3 ((v2'.out0 b1).out0 w2)
  have cA5 := cA4.out y3 (by simp)
  have cB5 := cB4.out y3 (by simp)
  obtain ⟨wy, H6, z1, z2, z3⟩ := defOf_c u3 ((hR1.out0 oB).out0 (w2.trans y3))
  obtain ⟨H7, x1, x2⟩ := same_c u3 hal (y2.out0 z3) z2
  have o47 := (y3.trans z3).trans x2
  have cA7 := cA4.out o47 (by simp)
  have cB7 := cB4.out o47 (by simp)
  have oB7 : Out [] B H7 := w2.trans o47
  obtain ⟨H8, r1, r2⟩ := show_c (hgA.out0 (oB.trans oB7)) hF u2 u3 g1 ((v2'.out0 b1).out0 oB7)
  have cA8 := cA7.out r2 (by simp)
  have hR8 := hR1.out0 ((oB.trans oB7).trans r2)
  obtain ⟨gx, H9, q1, q2, q3, q4⟩ := graph_c g3 hal g4 hR8
  obtain ⟨cy, k, H10, k1, k2, k3, k4⟩ := cycle_c (goodE_of g3 g4) q2
  obtain rfl : k = 0 := k3.2 g5
  have hdl := hR8.lenx
  have mA : cellsAt A H1.next 0 1 = some [dx] := cA.cellsAt 1 0 (by simp)
  have mAB : cellsAt B H1.next 0 1 = some [dx] := cAB.cellsAt 1 0 (by simp)
  have mA4 : cellsAt H4 H1.next 0 1 = some [dx] := cA4.cellsAt 1 0 (by simp)
  have mA5 : cellsAt H5 H1.next 0 1 = some [dx] := cA5.cellsAt 1 0 (by simp)
  have mA8 : cellsAt H8 H1.next 0 1 = some [dx] := cA8.cellsAt 1 0 (by simp)
  have mB4 : cellsAt H4 H3.next 0 1 = some [ex] := cB4.cellsAt 1 0 (by simp)
  have mB7 : cellsAt H7 H3.next 0 1 = some [ex] := cB7.cellsAt 1 0 (by simp)
  have nA8 : cellAt H8 H1.next 0 = some dx := cA8.cellAt rfl
  have sm : SM (.agg [dx]) (.agg [dx]) = fun x => x := by funext x; exact SM_t (same_dv hR1.row.1)
  have e1 : IntKind.wrap .i64 (11 * ((ts.length : Nat) : Int)) = 11 * ((ts.length : Nat) : Int) := wrap_i64 (by omega) (by omega)
  have e2 : IntKind.wrap .i64 ((text.length : Int) + 11 * ((ts.length : Nat) : Int)) = (text.length : Int) + 11 * ((ts.length : Nat) : Int) := wrap_i64 (by omega) (by omega)
  have d3 : decide (((showM ts).length : Int) ≤ (text.length : Int) + 11 * ((ts.length : Nat) : Int)) = true := decide_eq_true (by omega)
  have hncA := newCells_al (H := H1) (l := [.slice0]) (el := 25) (fl := 0) (by simp)
  have k2' : lenx cy = some (.int .i64 0) := k2
  have d0 : ((0 : Int) != 0) = false := rfl
  have d00 : ((0 : Int) == 0) = true := rfl
  refine ⟨H10, c_outriderlaw12_DefBack ?_⟩
  unfold s_outriderlaw12_DefBack
  simp (disch := (first | assumption | omega | (simp only [k_d, k_c, Nat.reduceAdd, Nat.reduceLeDiff, Nat.reduceLT] <;> fail) | (simp only [k_c]; omega) | (simp only [k_d, k_c, Nat.reduceAdd, Nat.reduceLeDiff, Nat.reduceLT, *] <;> fail) | fail)) only [haw, d, p1, hncA, st0, d2, mA, s1, v1, hncB, stB, mAB, w1, d0, d00, mB4, y1, mA5, z1, x1, mB7, r1, mA4, nA8, hdl, e1, e2, d3, mA8, q1, k1, k2', sm, k_a, k_b, Nat.reduceAdd, k_s, k_x, Int.reduceBEq, Int.reduceBNe, Int.reduceLT, Int.reduceLE, Int.reduceGT, Int.reduceGE, Int.reduceNeg]
theorem back_top {H : Hp} {as' : List AV} {ds : List D} (h : ArgsIs H [.str] as' ds) (hT : hasT H begin0) (hn : 11 ≤ H.next) : ∃ H', cK (.func (.func 3) [] []) as' H = some (.bool true, H') := by
  cases h with
  | cons ha hk =>
    cases hk
    obtain ⟨s, rfl, _, _⟩ := isA_str ha
    exact back_c hT hn
end Go.Proofs.YthljbjokonglhaaGreatDoor.DfK
