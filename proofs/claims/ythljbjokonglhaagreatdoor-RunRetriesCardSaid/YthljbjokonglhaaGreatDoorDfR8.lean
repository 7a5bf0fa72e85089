/- What run.Same does at two runs that are the same, as a contract over the symbolic heap. Conditions: as each states them. -/
import Derived.Test.YthljbjokonglhaaGreatDoorDfR7
namespace Go.Proofs.YthljbjokonglhaaGreatDoor.DfK
open Go Am Am.K DfEnv DfM LibP DfG
set_option linter.unusedVariables false
set_option linter.unusedSimpArgs false
set_option maxRecDepth 10000
set_option maxHeartbeats 1000000
theorem eqA_rt (a b c a' b' c' : Int) (s s' : Str) (H : Hp) : eqA P 50 51 (.agg [.int .i64 a, .int .i64 b, .int .i64 c, .str s]) (.agg [.int .i64 a', .int .i64 b', .int .i64 c', .str s']) H = allO (fun z : Bool => some z) [a == a', b == b', c == c', s == s'] := by kernel_rfl
theorem eqG_rt : Program.eqGuardType P P.depth 51 = false := by kernel_rfl
theorem ne_rt (t : RT) (H : Hp) : gA P .neq 51 false (.agg (rtC t)) (.agg (rtC t)) = true ∧ binA P .neq 51 (.agg (rtC t)) (.agg (rtC t)) H = some (.bool false) := by
  constructor
  · show (!(Program.eqGuardType P P.depth 51)) = true
    rw [eqG_rt]; rfl
  · show (eqA P 50 51 (.agg (rtC t)) (.agg (rtC t)) H).map (fun b => AV.bool !b) = _
    have h := eqA_rt t.ph t.tr t.til t.ph t.tr t.til t.dat t.dat H
    have e : rtC t = [.int .i64 t.ph, .int .i64 t.tr, .int .i64 t.til, .str t.dat] := rfl
    rw [e, h]
    simp [allO]
theorem eqrt_loop {x y : AV} {l : List RT} {H : Hp} (hn : l.length ≤ 1000) (hx : RL H 4 x (rts l)) (hy : RL H 4 y (rts l)) (j14 : K.Fn 0) : ∀ (r : List RT) (i : Nat), i ≤ l.length → l.drop i = r →
    l_slices_Equal___run_Task_run_Task_ JN GO cK j14 x y (.int .i64 (l.length : Nat)) (.int .i64 (i : Nat)) H = j14 H
  | [], i, hi, h => by
    obtain rfl := drop_nil hi h
    rw [ql_slices_Equal___run_Task_run_Task_]
    simp only [bl_slices_Equal___run_Task_run_Task_, lt_f, k_s, k_x, Int.reduceBEq, Int.reduceBNe, Int.reduceLT, Int.reduceLE, Int.reduceGT, Int.reduceGE, Int.reduceNeg]
  | t :: r, i, hi, h => by
    obtain ⟨h1, h2, h3⟩ := hd_drop h
    have es := wrap_s h1 (by omega)
    obtain ⟨b, o, q1, q2, q3, q4, q5⟩ := hx.at (by decide) (rts_get h2)
    obtain ⟨b', o', p1, p2, p3, p4, p5⟩ := hy.at (by decide) (rts_get h2)
    obtain ⟨g1, g2⟩ := ne_rt t H
    have ih := eqrt_loop hn hx hy j14 r (i + 1) h1 h3
    rw [ql_slices_Equal___run_Task_run_Task_]
    simp (disch := (first | assumption | omega | (simp only [k_d, k_c, Nat.reduceAdd, Nat.reduceLeDiff, Nat.reduceLT] <;> fail) | (simp only [k_c]; omega) | (simp only [k_d, k_c, Nat.reduceAdd, Nat.reduceLeDiff, Nat.reduceLT, *] <;> fail) | fail)) only [bl_slices_Equal___run_Task_run_Task_, lt_t h1, q1, q4, p1, p4, g1, IFT_t, g2, es, ih, k_a, k_b, Nat.reduceAdd, k_s, k_x, Int.reduceBEq, Int.reduceBNe, Int.reduceLT, Int.reduceLE, Int.reduceGT, Int.reduceGE, Int.reduceNeg]
theorem eqrt_c {x y : AV} {l : List RT} {H : Hp} (hn : l.length ≤ 1000) (hx : RL H 4 x (rts l)) (hy : RL H 4 y (rts l)) : cK (.func (.func 55) [] []) [x, y] H = some (.bool true, H) := by
  have lx := hx.len (by decide)
  have ly := hy.len (by decide)
  rw [rts_len] at lx ly
  have i1 := fun j14 => eqrt_loop hn hx hy j14 l 0 (Nat.zero_le _) List.drop_zero
  rw [show (((0 : Nat) : Int)) = 0 from rfl] at i1
  refine c_slices_Equal___run_Task_run_Task_ ?_
  unfold s_slices_Equal___run_Task_run_Task_
  simp (disch := (first | assumption | omega | (simp only [k_d, k_c, Nat.reduceAdd, Nat.reduceLeDiff, Nat.reduceLT] <;> fail) | (simp only [k_c]; omega) | (simp only [k_d, k_c, Nat.reduceAdd, Nat.reduceLeDiff, Nat.reduceLT, *] <;> fail) | fail)) only [lx, ly, i1, k_a, k_b, Nat.reduceAdd, k_s, k_x, Int.reduceBEq, Int.reduceBNe, Int.reduceLT, Int.reduceLE, Int.reduceGT, Int.reduceGE, Int.reduceNeg]
theorem same1_c {t : Tk} {x y : AV} {H : Hp} (hal : t.after.length ≤ 1000) (hx : Rw H 1 x (ints t.after)) (hy : Rw H 1 y (ints t.after)) :
    ∃ H', cK (.func (.func 53) [] []) [.agg (tkC t x), .agg (tkC t y)] H = some (.bool true, H') ∧ Out [] H H' := by
  have b1 := bx_tk t x H
  have o1 := al_out H (tkC t x) 43 0
  have c1 := al_cs H (tkC t x) 43 0
  have n1 : (al H (tkC t x) 43 0).next = H.next + 1 := rfl
  generalize al H (tkC t x) 43 0 = H1 at *
  have b2 := bx_tk t y H1
  have o2 := al_out H1 (tkC t y) 43 0
  have c2 := al_cs H1 (tkC t y) 43 0
  rw [n1] at b2 c2
  have c1' := c1.out o2 (by simp)
  have o12 := o1.trans o2
  generalize al H1 (tkC t y) 43 0 = H2 at *
  obtain ⟨e0, e1, e2, e3, e4, e5⟩ := fd_tk t x
  obtain ⟨g0, g1, g2, g3, g4, g5⟩ := fd_tk t y
  have k0 := c1'.cellAt e0
  have k1 := c1'.cellAt e1
  have k2 := c1'.cellAt e2
  have k3 := c1'.cellAt e3
  have k4 := c1'.cellAt e4
  have k5 := c1'.cellAt e5
  have m0 := c2.cellAt g0
  have m1 := c2.cellAt g1
  have m2 := c2.cellAt g2
  have m3 := c2.cellAt g3
  have m4 := c2.cellAt g4
  have m5 := c2.cellAt g5
  have he := equalint_c (hx.out0 o12) (hy.out0 o12) (by omega)
  rw [decide_eq_true (rfl : t.after = t.after)] at he
  refine ⟨H2, c_run_Same_1 ?_, o12⟩
  unfold s_run_Same_1
  simp (disch := (first | assumption | omega | (simp only [k_d, k_c, Nat.reduceAdd, Nat.reduceLeDiff, Nat.reduceLT] <;> fail) | (simp only [k_c]; omega) | (simp only [k_d, k_c, Nat.reduceAdd, Nat.reduceLeDiff, Nat.reduceLT, *] <;> fail) | fail)) only [b1, b2, k0, k1, k2, k3, k4, k5, m0, m1, m2, m3, m4, m5, he, k_a, k_b, Nat.reduceAdd, k_s, k_x, Int.reduceBEq, Int.reduceBNe, Int.reduceLT, Int.reduceLE, Int.reduceGT, Int.reduceGE, Int.reduceNeg]
theorem eqfn_loop {ts : List Tk} {dx dy : AV} {xs ys : List AV} (hn : ts.length ≤ 1000) (hal : ∀ t ∈ ts, t.after.length ≤ 1000) : ∀ (r : List Tk) (i : Nat) (H : Hp), i ≤ ts.length → ts.drop i = r → RD H dx xs ts → RD H dy ys ts →
    ∃ H', (∀ j16 : K.Fn 0, l_slices_EqualFunc___def_Task___def_Task_def_Task_def_Task_ JN GO cK j16 dy (.func (.func 53) [] []) dx (.int .i64 (ts.length : Nat)) (.int .i64 (i : Nat)) H = j16 H') ∧ Out [] H H'
  | [], i, H, hi, h, hX, hY => by
    obtain rfl := drop_nil hi h
    refine ⟨H, fun j16 => ?_, Out.refl _ _⟩
    rw [ql_slices_EqualFunc___def_Task___def_Task_def_Task_def_Task_]
    simp only [bl_slices_EqualFunc___def_Task___def_Task_def_Task_def_Task_, lt_f, k_s, k_x, Int.reduceBEq, Int.reduceBNe, Int.reduceLT, Int.reduceLE, Int.reduceGT, Int.reduceGE, Int.reduceNeg]
  | t :: r, i, H, hi, h, hX, hY => by
    obtain ⟨h1, h2, h3⟩ := hd_drop h
    have es := wrap_s h1 (by omega)
    obtain ⟨x, b, o, q0, q1, q2, q3, q4, q5, q6⟩ := hX.at h2
    have s1 := st_tk t x q1 H
    have o1 := al_out H (tkC t x) 43 0
    have c1 := al_cs H (tkC t x) 43 0
    have n1 : (al H (tkC t x) 43 0).next = H.next + 1 := rfl
    generalize hA1 : al H (tkC t x) 43 0 = H1 at *
    obtain ⟨y, b', o', p0, p1, p2, p3, p4, p5, p6⟩ := (hY.out0 o1).at h2
    have s2 := st_tk t y p1 H1
    have o2 := al_out H1 (tkC t y) 43 0
    have c2 := al_cs H1 (tkC t y) 43 0
    rw [n1] at s2 c2
    have o12 := o1.trans o2
    have c1' := c1.out o2 (by simp)
    generalize hA2 : al H1 (tkC t y) 43 0 = H2 at *
    have k1 : cellsAt H2 H.next 0 6 = some (tkC t x) := c1'.cellsAt 6 0 (by rw [tk_len]; omega)
    have k2 : cellsAt H2 (H.next + 1) 0 6 = some (tkC t y) := c2.cellsAt 6 0 (by rw [tk_len]; omega)
    obtain ⟨H3, f1, f2⟩ := same1_c (hal t (List.mem_of_getElem? h2)) (q2.out0 o12) (p2.out0 o2)
    have o3 := o12.trans f2
    obtain ⟨H', i1, i2⟩ := eqfn_loop hn hal r (i + 1) H3 h1 h3 (hX.out0 o3) (hY.out0 o3)
    refine ⟨H', fun j16 => ?_, o3.trans i2⟩
    rw [ql_slices_EqualFunc___def_Task___def_Task_def_Task_def_Task_]
    simp (disch := (first | assumption | omega | (simp only [k_d, k_c, Nat.reduceAdd, Nat.reduceLeDiff, Nat.reduceLT] <;> fail) | (simp only [k_c]; omega) | (simp only [k_d, k_c, Nat.reduceAdd, Nat.reduceLeDiff, Nat.reduceLT, *] <;> fail) | fail)) only [bl_slices_EqualFunc___def_Task___def_Task_def_Task_def_Task_, lt_t h1, q3, q5, s1, p3, p5, n1, s2, k1, k2, f1, es, i1, k_a, k_b, Nat.reduceAdd, k_s, k_x, Int.reduceBEq, Int.reduceBNe, Int.reduceLT, Int.reduceLE, Int.reduceGT, Int.reduceGE, Int.reduceNeg]
theorem eqfn_c {ts : List Tk} {dx dy : AV} {xs ys : List AV} {H : Hp} (hn : ts.length ≤ 1000) (hal : ∀ t ∈ ts, t.after.length ≤ 1000) (hX : RD H dx xs ts) (hY : RD H dy ys ts) :
    ∃ H', cK (.func (.func 57) [] []) [dx, dy, .func (.func 53) [] []] H = some (.bool true, H') ∧ Out [] H H' := by
  have lx := hX.lenx
  have ly := hY.lenx
  obtain ⟨H', i1, i2⟩ := eqfn_loop hn hal ts 0 H (Nat.zero_le _) List.drop_zero hX hY
  rw [show (((0 : Nat) : Int)) = 0 from rfl] at i1
  refine ⟨H', c_slices_EqualFunc___def_Task___def_Task_def_Task_def_Task_ ?_, i2⟩
  unfold s_slices_EqualFunc___def_Task___def_Task_def_Task_def_Task_
  simp (disch := (first | assumption | omega | (simp only [k_d, k_c, Nat.reduceAdd, Nat.reduceLeDiff, Nat.reduceLT] <;> fail) | (simp only [k_c]; omega) | (simp only [k_d, k_c, Nat.reduceAdd, Nat.reduceLeDiff, Nat.reduceLT, *] <;> fail) | fail)) only [lx, ly, i1, k_a, k_b, Nat.reduceAdd, k_s, k_x, Int.reduceBEq, Int.reduceBNe, Int.reduceLT, Int.reduceLE, Int.reduceGT, Int.reduceGE, Int.reduceNeg]
theorem same_rc {H : Hp} {dx tx sx dy ty sy : AV} {xs ys : List AV} {R : Rn} (hs : Sm R) (hX : RV H dx xs tx sx R) (hY : RV H dy ys ty sy R) :
    ∃ H', cK (.func (.func 24) [] []) [.agg (rv dx R.st tx sx), .agg (rv dy R.st ty sy)] H = some (.bool true, H') ∧ Out [] H H' := by
  have b1 : bx 47 (.agg (rv dx R.st tx sx)) H = some (H.next, al H (rv dx R.st tx sx) 47 0) := bx_alA (by simp)
  have o1 := al_out H (rv dx R.st tx sx) 47 0
  have c1 := al_cs H (rv dx R.st tx sx) 47 0
  have n1 : (al H (rv dx R.st tx sx) 47 0).next = H.next + 1 := rfl
  generalize al H (rv dx R.st tx sx) 47 0 = H1 at *
  have b2 : bx 47 (.agg (rv dy R.st ty sy)) H1 = some (H.next + 1, al H1 (rv dy R.st ty sy) 47 0) := by rw [← n1]; exact bx_alA (by simp)
  have o2 := al_out H1 (rv dy R.st ty sy) 47 0
  have c2 := al_cs H1 (rv dy R.st ty sy) 47 0
  rw [n1] at c2
  have c1' := c1.out o2 (by simp)
  have o12 := o1.trans o2
  generalize hA2 : al H1 (rv dy R.st ty sy) 47 0 = H2 at *
  have k0 : cellAt H2 H.next 0 = some dx := c1'.cellAt rfl
  have k1 : cellAt H2 H.next 1 = some (.int .i64 R.st) := c1'.cellAt rfl
  have k2 : cellAt H2 H.next 2 = some tx := c1'.cellAt rfl
  have k3 : cellAt H2 H.next 3 = some sx := c1'.cellAt rfl
  have m0 : cellAt H2 (H.next + 1) 0 = some dy := c2.cellAt rfl
  have m1 : cellAt H2 (H.next + 1) 1 = some (.int .i64 R.st) := c2.cellAt rfl
  have m2 : cellAt H2 (H.next + 1) 2 = some ty := c2.cellAt rfl
  have m3 : cellAt H2 (H.next + 1) 3 = some sy := c2.cellAt rfl
  have e1 := eqrt_c hs.r (hX.t.out0 o12) (hY.t.out0 o12)
  have e2 := equalstring_c (hX.s.out0 o12) (hY.s.out0 o12) (by have := hs.s; omega)
  rw [decide_eq_true (rfl : R.sg = R.sg)] at e2
  obtain ⟨H3, e3, o3⟩ := eqfn_c hs.n hs.a (hX.d.out0 o12) (hY.d.out0 o12)
  refine ⟨H3, c_run_Same ?_, o12.trans o3⟩
  unfold s_run_Same
  simp (disch := (first | assumption | omega | (simp only [k_d, k_c, Nat.reduceAdd, Nat.reduceLeDiff, Nat.reduceLT] <;> fail) | (simp only [k_c]; omega) | (simp only [k_d, k_c, Nat.reduceAdd, Nat.reduceLeDiff, Nat.reduceLT, *] <;> fail) | fail)) only [b1, n1, hA2, k0, k1, k2, k3, m0, m1, m2, m3, e1, e2, e3, k_a, k_b, Nat.reduceAdd, k_s, k_x, Int.reduceBEq, Int.reduceBNe, Int.reduceLT, Int.reduceLE, Int.reduceGT, Int.reduceGE, Int.reduceNeg]
end Go.Proofs.YthljbjokonglhaaGreatDoor.DfK
