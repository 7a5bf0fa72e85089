/- What def.Show does, and what layer 12 compares by, as contracts over the symbolic heap. Conditions: as each states them; the listed variables hold what the row says. -/
import Derived.Test.YtkhhnpkmblldbaaGreatDoorDfD4
import Derived.Handed
import Derived.Test.YtkhhnpkmblldbaaGreatDoorProg
namespace Go.Proofs.YtkhhnpkmblldbaaGreatDoor.DfK
open Go Am Am.K DfEnv DfM LibP DfG
set_option linter.unusedVariables false
set_option linter.unusedSimpArgs false
set_option maxRecDepth 10000
set_option maxHeartbeats 1000000
theorem same_iB (k : IntKind) (a : Int) : same (.int k a) (.int k a) = true := by cases k <;> simp [same, sameS]
theorem told_c {key : Str} {n p : Int} (hk : key.length ≤ 100) (h0 : 0 ≤ n) (h1 : n ≤ 1000) {H : Hp} (hg : Gl H) : ∃ H', cK (.func (.func 97) [] []) [.str key, .int .i64 n, .int .i64 p] H = some (.str (toldM key n p), H') ∧ Out [] H H' := by
 by_cases he : n = p
 ·have d : (n == p) = true := beq_iff_eq.2 he
  refine ⟨H, c_def_told ?_, Out.refl _ _⟩
  unfold s_def_told toldM
  simp only [d, if_pos he, k_s, k_x, Int.reduceBEq, Int.reduceBNe, Int.reduceLT, Int.reduceLE, Int.reduceGT, Int.reduceGE, Int.reduceNeg]
 ·have d : (n == p) = false := beq_eq_false_iff_ne.2 he
  obtain ⟨H', i1, i2⟩ := itoa_c (n := n) (by omega) (by omega) hg
  have hl := (dec_num h0 h1).2.1
  have hs := scat_s (a := key) (b := dec n) (by omega)
  refine ⟨H', c_def_told ?_, i2⟩
  unfold s_def_told toldM
  simp only [d, if_neg he, i1, hs, k_s, k_x, Int.reduceBEq, Int.reduceBNe, Int.reduceLT, Int.reduceLE, Int.reduceGT, Int.reduceGE, Int.reduceNeg]
theorem toldM_len {key : Str} {n p : Int} (h0 : 0 ≤ n) (h1 : n ≤ 1000) : (toldM key n p).length ≤ key.length + 4 := by
 unfold toldM
 split
 ·simp
 ·have := (dec_num h0 h1).2.1
  rw [List.length_append]; omega
theorem nm_len {ts : List Tk} (hF : Fit ts) {a : Int} (h0 : 0 ≤ a) (h1 : a ≤ (ts.length : Int) - 1) : (nmAt ts a).length ≤ 16 := (hF.nm _ (nmAt_get h0 h1).2).2.1
theorem show1_loop {ts : List Tk} {dx : AV} {xs : List AV} {D : Nat} {l : List Int} {lx x36 x38 x39 x40 x35 : AV} {H : Hp} (hF : Fit ts) (hl : l.length ≤ 16) (ha : ∀ a ∈ l, 0 ≤ a ∧ a ≤ (ts.length : Int) - 1) (hlx : Rw H 1 lx (ints l)) (hD : cellAt H D 0 = some dx) (hR : RD H dx xs ts) (j10 : K.Fn 1) (j20 : K.Fn 5) (j32 : K.Fn 7) :
  ∀ (r : List Int) (k : Nat) (s : Str), k ≤ l.length → l.drop k = r → s.length ≤ 100 + 100 * k →
  l_def_Show1 JN GO cK j10 j20 j32 (.ptr D 0) x35 x36 (.str s) x38 x39 x40 lx (.int .i64 (l.length : Nat)) (.int .i64 (k : Nat)) H = j32 (.ptr D 0) x35 x36 (.str (s ++ sfx ts (k == 0) r)) x38 x39 x40 H
 | [], k, s, hk, h, hs => by
  obtain rfl := drop_nil hk h
  rw [ql_def_Show1]
  simp only [bl_def_Show1, lt_f, sfx, List.append_nil, k_s, k_x, Int.reduceBEq, Int.reduceBNe, Int.reduceLT, Int.reduceLE, Int.reduceGT, Int.reduceGE, Int.reduceNeg]
 | a :: r, k, s, hk, h, hs => by
  obtain ⟨h1, h2, h3⟩ := hd_drop h
  obtain ⟨q, q1, q2⟩ := hlx.ia1 (ints_get h2) .i64
  have es := wrap_s h1 (by omega)
  obtain ⟨a0, a1⟩ := ha a (List.mem_of_getElem? h2)
  have hnl := nm_len hF a0 a1
  obtain ⟨m, rfl⟩ : ∃ m : Nat, a = m := ⟨a.toNat, by omega⟩
  have hm : ts[m]? = some (ts[m]'(by omega)) := List.getElem?_eq_getElem (by omega)
  obtain ⟨x, b, o, g0, g1, g2, g3, g4, g5, g6⟩ := hR.at hm
  have hnm : (ts[m]'(by omega)).name = nmAt ts (m : Int) := by
   have := (nmAt_get a0 a1).1
   unfold names at this
   rw [Int.toNat_natCast, List.getElem?_map, hm] at this
   simpa using this
  rw [hnm] at g6
  cases k with
  | zero =>
   have s1 := scat_s (a := s) (b := [32, 97, 102, 116, 101, 114, 61]) (by simp; omega)
   have s2 := scat_s (a := s ++ [32, 97, 102, 116, 101, 114, 61]) (b := nmAt ts (m : Int)) (by simp; omega)
   have ih := show1_loop (x35 := x35) (x36 := x36) (x38 := x38) (x39 := x39) (x40 := x40) hF hl ha hlx hD hR j10 j20 j32 r 1 (s ++ [32, 97, 102, 116, 101, 114, 61] ++ nmAt ts (m : Int)) (by omega) h3 (by simp; omega)
   have e : s ++ sfx ts ((0 : Nat) == 0) ((m : Int) :: r) = s ++ [32, 97, 102, 116, 101, 114, 61] ++ nmAt ts (m : Int) ++ sfx ts ((1 : Nat) == 0) r := by simp [sfx]
   have d0 : (((0 : Nat) : Int) == 0) = true := rfl
   rw [e, ql_def_Show1]
   simp (disch := (first | assumption | omega | (simp only [k_d, k_c, Nat.reduceAdd, Nat.reduceLeDiff, Nat.reduceLT] <;> fail) | (simp only [k_c]; omega) | (simp only [k_d, k_c, Nat.reduceAdd, Nat.reduceLeDiff, Nat.reduceLT, *] <;> fail) | fail)) only [bl_def_Show1, lt_t h1, q1, q2, d0, s1, hD, g3, g6, s2, es, ih, k_a, k_b, Nat.reduceAdd, k_s, k_x, Int.reduceBEq, Int.reduceBNe, Int.reduceLT, Int.reduceLE, Int.reduceGT, Int.reduceGE, Int.reduceNeg]
  | succ k =>
   have s1 := scat_s (a := s) (b := [44]) (by simp; omega)
   have s2 := scat_s (a := s ++ [44]) (b := nmAt ts (m : Int)) (by simp; omega)
   have ih := show1_loop (x35 := x35) (x36 := x36) (x38 := x38) (x39 := x39) (x40 := x40) hF hl ha hlx hD hR j10 j20 j32 r (k + 1 + 1) (s ++ [44] ++ nmAt ts (m : Int)) (by omega) h3 (by simp; omega)
   have e : s ++ sfx ts ((k + 1) == 0) ((m : Int) :: r) = s ++ [44] ++ nmAt ts (m : Int) ++ sfx ts ((k + 1 + 1) == 0) r := by simp [sfx]
   have d0 : (((k + 1 : Nat) : Int) == 0) = false := beq_false_of_ne (by omega)
   rw [e, ql_def_Show1]
   simp (disch := (first | assumption | omega | (simp only [k_d, k_c, Nat.reduceAdd, Nat.reduceLeDiff, Nat.reduceLT] <;> fail) | (simp only [k_c]; omega) | (simp only [k_d, k_c, Nat.reduceAdd, Nat.reduceLeDiff, Nat.reduceLT, *] <;> fail) | fail)) only [bl_def_Show1, lt_t h1, q1, q2, d0, s1, hD, g3, g6, s2, es, ih, k_a, k_b, Nat.reduceAdd, k_s, k_x, Int.reduceBEq, Int.reduceBNe, Int.reduceLT, Int.reduceLE, Int.reduceGT, Int.reduceGE, Int.reduceNeg]
theorem sfx_le {ts : List Tk} (hF : Fit ts) : ∀ {l : List Int} (f : Bool), (∀ a ∈ l, 0 ≤ a ∧ a ≤ (ts.length : Int) - 1) → (sfx ts f l).length ≤ 23 * l.length
 | [], f, _ => by simp [sfx]
 | a :: r, f, h => by
  obtain ⟨h0, h1⟩ := h a (.head _)
  have := nm_len hF h0 h1
  have ih := sfx_le hF (l := r) false fun b hb => h b (.tail _ hb)
  cases f <;> simp [sfx] <;> omega
theorem showT_len {ts : List Tk} (hF : Fit ts) {t : Tk} (ht : t ∈ ts) : (t.name ++ sfx ts true t.after).length ≤ 400 ∧ (showT ts t).length ≤ 600 := by
 obtain ⟨n1, n2, n3, n4, n5, n6⟩ := hF.num t ht
 obtain ⟨a1, a2⟩ := hF.aft t ht
 have b1 := (hF.nm _ (List.mem_map.2 ⟨t, ht, rfl⟩)).2.1
 have b2 := sfx_le hF true a1
 have c1 := toldM_len (key := [32, 114, 101, 116, 114, 121, 61]) (p := 0) n1 (by omega)
 have c2 := toldM_len (key := [32, 119, 97, 105, 116, 61]) (p := 10) (show 0 ≤ t.wait by omega) n4
 have c3 := toldM_len (key := [32, 98, 97, 115, 101, 61]) (p := 1) (show 0 ≤ t.base by omega) n6
 have c4 : (if t.on = [] then [] else [32, 111, 110, 61] ++ t.on).length ≤ 20 := by
  split
  ·simp
  ·rcases hF.on t ht with q | q
   ·contradiction
   ·simp; omega
 simp only [List.length_cons, List.length_nil] at c1 c2 c3
 refine ⟨by rw [List.length_append]; omega, ?_⟩
 unfold showT
 simp only [List.length_append] at c4 ⊢
 omega
theorem show_loop {ts : List Tk} {dx : AV} {xs : List AV} {D : Nat} (hF : Fit ts) (hn : ts.length ≤ 16) (hD11 : 11 ≤ D) :
  ∀ (r : List Tk) (i : Nat) (H : Hp) (lx : AV), i ≤ ts.length → ts.drop i = r → Gl H → cellAt H D 0 = some dx → D < H.next → RD H dx xs ts → Ow H 9 1 lx (strs ((ts.take i).map (showT ts))) → (∀ j ∈ rid lx, j ≠ D ∧ j ∉ fpD dx xs ∧ 11 ≤ j) →
  ∃ lx' H', (∀ j10 : K.Fn 1, l_def_Show JN GO cK j10 (.ptr D 0) lx dx (.int .i64 (ts.length : Nat)) (.int .i64 (i : Nat)) H = j10 lx' H') ∧ Rw H' 1 lx' (strs (ts.map (showT ts))) ∧ Out (rid lx) H H'
 | [], i, H, lx, hi, h, hg, hD, hDl, hR, hO, hd => by
  obtain rfl := drop_nil hi h
  refine ⟨lx, H, fun j10 => ?_, by rw [List.take_length] at hO; exact hO.rw, Out.refl _ _⟩
  rw [ql_def_Show]
  simp only [bl_def_Show, lt_f, k_s, k_x, Int.reduceBEq, Int.reduceBNe, Int.reduceLT, Int.reduceLE, Int.reduceGT, Int.reduceGE, Int.reduceNeg]
 | t :: r, i, H, lx, hi, h, hg, hD, hDl, hR, hO, hd => by
  obtain ⟨h1, h2, h3⟩ := hd_drop h
  have ht := List.mem_of_getElem? h2
  obtain ⟨x, b, o, q0, q1, q2, q3, q4, q5, q6⟩ := hR.at h2
  have es := wrap_s h1 (by omega)
  obtain ⟨n1, n2, n3, n4, n5, n6⟩ := hF.num t ht
  obtain ⟨a1, a2⟩ := hF.aft t ht
  obtain ⟨e0, e1, e2, e3, e4, e5⟩ := fd_tk t x
  have o1 := al_out H (tkC t x) 107 0
  have cT := al_cs H (tkC t x) 107 0
  have hD1 : cellAt (al H (tkC t x) 107 0) D 0 = some dx := by rw [cellAt_al_ne hDl]; exact hD
  have hR1 := hR.out0 o1
  have hl := q2.len1
  rw [ints_len] at hl
  obtain ⟨l1, l2⟩ := showT_len hF ht
  have hnmL : t.name.length ≤ 16 := (hF.nm _ (List.mem_map.2 ⟨t, ht, rfl⟩)).2.1
  have s1 := fun j10 j20 j32 => show1_loop (x35 := lx) (x36 := .ptr H.next 0) (x38 := dx) (x39 := .int .i64 (ts.length : Nat)) (x40 := .int .i64 (i : Nat)) hF a2 a1 (q2.out0 o1) hD1 hR1 j10 j20 j32 t.after 0 t.name (Nat.zero_le _) List.drop_zero (by omega)
  rw [show (((0 : Nat) : Int)) = 0 from rfl] at s1
  have s1' : ((0 : Nat) == 0) = true := rfl
  rw [s1'] at s1
  have hst := st_tk t x q1 H
  obtain ⟨H2, t1, o2⟩ := told_c (key := [32, 114, 101, 116, 114, 121, 61]) (p := 0) (by decide) n1 (by omega) (hg.out0 o1)
  obtain ⟨H3, t2, o3⟩ := told_c (key := [32, 119, 97, 105, 116, 61]) (p := 10) (by decide) (show 0 ≤ t.wait by omega) n4 (hg.out0 (o1.trans o2))
  obtain ⟨H4, t3, o4⟩ := told_c (key := [32, 98, 97, 115, 101, 61]) (p := 1) (by decide) (show 0 ≤ t.base by omega) n6 (hg.out0 ((o1.trans o2).trans o3))
  have c2 := cT.out o2 (by simp)
  have c3 := c2.out o3 (by simp)
  have c4 := c3.out o4 (by simp)
  have k1 : cellAt (al H (tkC t x) 107 0) H.next 3 = some (.int .i64 t.wait) := cT.cellAt e3
  have k2 : cellAt (al H (tkC t x) 107 0) H.next 4 = some (.int .i64 t.base) := cT.cellAt e4
  have k3 : cellAt H2 H.next 3 = some (.int .i64 t.wait) := c2.cellAt e3
  have k4 : cellAt H2 H.next 4 = some (.int .i64 t.base) := c2.cellAt e4
  have k5 : cellAt H3 H.next 4 = some (.int .i64 t.base) := c3.cellAt e4
  have k6 : cellAt H4 H.next 5 = some (.str t.on) := c4.cellAt e5
  have b1 := toldM_len (key := [32, 114, 101, 116, 114, 121, 61]) (p := 0) n1 (by omega)
  have b2 := toldM_len (key := [32, 119, 97, 105, 116, 61]) (p := 10) (show 0 ≤ t.wait by omega) n4
  have b3 := toldM_len (key := [32, 98, 97, 115, 101, 61]) (p := 1) (show 0 ≤ t.base by omega) n6
  simp only [List.length_cons, List.length_nil] at b1 b2 b3
  have u1 := scat_s (a := toldM [32, 114, 101, 116, 114, 121, 61] t.retry 0) (b := toldM [32, 119, 97, 105, 116, 61] t.wait 10) (by omega)
  have u2 := scat_s (a := toldM [32, 114, 101, 116, 114, 121, 61] t.retry 0 ++ toldM [32, 119, 97, 105, 116, 61] t.wait 10) (b := toldM [32, 98, 97, 115, 101, 61] t.base 1) (by rw [List.length_append]; omega)
  have u3 := scat_s (a := t.name ++ sfx ts true t.after) (b := toldM [32, 114, 101, 116, 114, 121, 61] t.retry 0 ++ toldM [32, 119, 97, 105, 116, 61] t.wait 10 ++ toldM [32, 98, 97, 115, 101, 61] t.base 1) (by simp only [List.length_append] at l1 ⊢; omega)
  have o14 : Out [] H H4 := ((o1.trans o2).trans o3).trans o4
  have hx14 := o14.nx
  have htk : (ts.take (i + 1)).map (showT ts) = (ts.take i).map (showT ts) ++ [showT ts t] := by rw [List.take_add_one, h2]; simp
  obtain ⟨lx1, H5, p1, p2, p3, p4, p5⟩ := push_ok (el2 := 9) (z := [(.str [])]) (vs := [.str (showT ts t)]) (hO.out o14 (by simp)) rfl rfl (by decide) (by simp [strs]; omega)
  have hp2 : strs ((ts.take i).map (showT ts)) ++ [.str (showT ts t)] = strs ((ts.take (i + 1)).map (showT ts)) := by rw [htk]; simp [strs]
  rw [hp2] at p2
  have o5 : Out (rid lx) H H5 := (o14.mono fun j hj => by cases hj).trans p3
  have hn5 := p3.nx
  have hrl := hR.lt
  have hd5 : ∀ j ∈ rid lx1, j ≠ D ∧ j ∉ fpD dx xs ∧ 11 ≤ j := fun j hj => (p4 j hj).elim (hd j) fun z => ⟨by omega, fun y => by have := hrl j y; omega, by omega⟩
  obtain ⟨lx', H', i1, i2, i3⟩ := show_loop hF hn hD11 r (i + 1) H5 lx1 h1 h3 (hg.out o5 fun j hj => (hd j hj).2.2) (by rw [o5.cellAt hDl fun z => (hd D z).1 rfl]; exact hD) (by omega) (hR.out o5 fun j hj z => (hd j z).2.1 hj) p2 hd5
  have p1' := p1 _ rfl
  refine ⟨lx', H', fun j10 => ?_, i2, o5.then i3 fun j hj => (p4 j hj).imp id fun z => by omega⟩
  have hTt : showT ts t = ((t.name ++ sfx ts true t.after) ++ ((toldM [32, 114, 101, 116, 114, 121, 61] t.retry 0 ++ toldM [32, 119, 97, 105, 116, 61] t.wait 10) ++ toldM [32, 98, 97, 115, 101, 61] t.base 1)) ++ (if t.on = [] then [] else [32, 111, 110, 61] ++ t.on) := rfl
  generalize toldM [32, 114, 101, 116, 114, 121, 61] t.retry 0 = T1 at *
  generalize toldM [32, 119, 97, 105, 116, 61] t.wait 10 = T2 at *
  generalize toldM [32, 98, 97, 115, 101, 61] t.base 1 = T3 at *
  generalize t.name ++ sfx ts true t.after = s0 at *
  generalize showT ts t = sT at *
  by_cases hon : t.on = []
  ·have d : (t.on == ([] : Str)) = true := by rw [hon]; rfl
   have hsh : s0 ++ (T1 ++ T2 ++ T3) = sT := by
    rw [hTt, if_pos hon, List.append_nil]
   rw [hsh] at u3
   rw [ql_def_Show]
   simp (disch := (first | assumption | omega | (simp only [k_d, k_c, Nat.reduceAdd, Nat.reduceLeDiff, Nat.reduceLT] <;> fail) | (simp only [k_c]; omega) | (simp only [k_d, k_c, Nat.reduceAdd, Nat.reduceLeDiff, Nat.reduceLT, *] <;> fail) | fail)) only [bl_def_Show, lt_t h1, q3, q5, hst, e0, e1, e2, hl, s1, t1, t2, t3, k1, k2, k3, k4, k5, k6, u1, u2, u3, SM_t (same_iB _ _), d, p1', es, i1, k_a, k_b, Nat.reduceAdd, k_s, k_x, Int.reduceBEq, Int.reduceBNe, Int.reduceLT, Int.reduceLE, Int.reduceGT, Int.reduceGE, Int.reduceNeg]
  ·have d : (t.on == ([] : Str)) = false := by simp [hon]
   have hol : t.on.length ≤ 16 := (hF.on t ht).elim (fun q => absurd q hon) fun q => q.1
   have u4 := scat_s (a := [32, 111, 110, 61]) (b := t.on) (by simp; omega)
   have u5 := scat_s (a := s0 ++ (T1 ++ T2 ++ T3)) (b := [32, 111, 110, 61] ++ t.on) (by simp only [List.length_append, List.length_cons, List.length_nil] at l1 ⊢; omega)
   have hsh : s0 ++ (T1 ++ T2 ++ T3) ++ ([32, 111, 110, 61] ++ t.on) = sT := by
    rw [hTt, if_neg hon]
   rw [hsh] at u5
   rw [ql_def_Show]
   simp (disch := (first | assumption | omega | (simp only [k_d, k_c, Nat.reduceAdd, Nat.reduceLeDiff, Nat.reduceLT] <;> fail) | (simp only [k_c]; omega) | (simp only [k_d, k_c, Nat.reduceAdd, Nat.reduceLeDiff, Nat.reduceLT, *] <;> fail) | fail)) only [bl_def_Show, lt_t h1, q3, q5, hst, e0, e1, e2, hl, s1, t1, t2, t3, k1, k2, k3, k4, k5, k6, u1, u2, u3, u4, u5, SM_t (same_iB _ _), d, p1', es, i1, k_a, k_b, Nat.reduceAdd, k_s, k_x, Int.reduceBEq, Int.reduceBNe, Int.reduceLT, Int.reduceLE, Int.reduceGT, Int.reduceGE, Int.reduceNeg]
theorem show_c {ts : List Tk} {dx : AV} {xs : List AV} {H : Hp} (hg : Gl H) (hF : Fit ts) (h1 : 1 ≤ ts.length) (hn : ts.length ≤ 16) (hgood : goodM ts = 0) (hR : RD H dx xs ts) :
  ∃ H', cK (.func (.func 61) [] []) [dv dx] H = some (.str (showM ts), H') ∧ Out [] H H' := by
 have hd1 := hR.row.one
 have hdl := hR.lenx
 have o1 := al_out H [dx] 59 0
 have hgn := hg.nx
 have hc : cellsAt (al H [dx] 59 0) H.next 0 1 = some [dx] := cellsAt_al rfl (by simp)
 obtain ⟨H2, g1, o2⟩ := dgood_c (ts := ts) (by omega) (fun t ht => by have := (hF.aft t ht).2; omega) (hR.out0 o1)
 rw [hgood] at g1
 have hn2 := o2.nx
 rw [al_nx] at hn2
 have hD2 : cellAt H2 H.next 0 = some dx := by rw [o2.cellAt (by rw [al_nx]; omega) (by simp), cellAt_al rfl]; rfl
 have hR2 := (hR.out0 o1).out0 o2
 have hbx : bx 59 (.agg [dx]) H = some (H.next, al H [dx] 59 0) := bx_alA (by simp)
 obtain ⟨lx, H3, l1, l2, l3⟩ := show_loop (D := H.next) hF hn (by omega) ts 0 H2 .slice0 (Nat.zero_le _) List.drop_zero (hg.out0 (o1.trans o2)) hD2 (by omega) hR2 .nil (fun j hj => by cases hj)
 rw [show (((0 : Nat) : Int)) = 0 from rfl] at l1
 have l3' : Out [] H2 H3 := l3
 have hsum : ∀ us : List Tk, (∀ t ∈ us, t ∈ ts) → sumL (us.map (showT ts)) ≤ 600 * us.length := by
  intro us
  induction us with
  | nil => intro _; simp [sumL]
  | cons u us ih =>
   intro h
   have a := ih fun t ht => h t (.tail _ ht)
   have b := (showT_len hF (h u (.head _))).2
   simp only [sumL, List.map_cons, List.sum_cons, List.length_cons] at a ⊢
   omega
 have hs := hsum ts fun t ht => ht
 obtain ⟨H4, j1, j2⟩ := join_c (sep := [59]) rfl l2 (by rw [List.length_map]; omega) (fun s hs => by
  obtain ⟨t, ht, rfl⟩ := List.mem_map.1 hs
  have := (showT_len hF ht).2; omega) (by omega) (fun s hs b hb => by
  rcases List.mem_cons.1 hs with rfl | hs
  ·rw [List.mem_singleton] at hb; subst hb; decide
  ·obtain ⟨t, ht, rfl⟩ := List.mem_map.1 hs
   exact (showB hF ht b hb).2)
 rw [joiS_c] at j1
 have hsm : showM ts = joi 59 (ts.map (showT ts)) := by unfold showM; rw [if_pos hgood]
 rw [← hsm] at j1
 refine ⟨H4, c_def_Show ?_, ((o1.trans o2).trans l3').trans j2⟩
 have d : ((0 : Int) != 0) = false := rfl
 unfold s_def_Show
 simp (disch := (first | assumption | omega | (simp only [k_d, k_c, Nat.reduceAdd, Nat.reduceLeDiff, Nat.reduceLT] <;> fail) | (simp only [k_c]; omega) | (simp only [k_d, k_c, Nat.reduceAdd, Nat.reduceLeDiff, Nat.reduceLT, *] <;> fail) | fail)) only [hbx, hc, g1, d, hD2, hdl, l1, j1, k_a, k_b, Nat.reduceAdd, k_s, k_x, Int.reduceBEq, Int.reduceBNe, Int.reduceLT, Int.reduceLE, Int.reduceGT, Int.reduceGE, Int.reduceNeg]
theorem parse_c0 {text : Str} {H : Hp} (hg : Gl H) : ∃ dx xs H', cK (.func (.func 59) [] []) [.str text] H = some (.tuple [dv dx, .int .i64 (parseM text).2], H') ∧ RD H' dx xs (parseM text).1 ∧ Out [] H H' ∧ ∀ j ∈ fpD dx xs, H.next ≤ j := by
 by_cases hl : text.length ≤ 4294967296
 ·exact parse_c hg hl
 have o1 := al_out H [.slice0] 59 0
 have d : decide ((1024 : Int) < (text.length : Int)) = true := decide_eq_true (by omega)
 have hst : st 1 (.ptr H.next 0) (.agg [.slice0]) (al H [.slice0] 59 0) = some (al H [.slice0] 59 0) := st_alN rfl rfl rfl (by decide) rfl
 unfold parseM
 rw [if_pos (by omega)]
 refine ⟨.slice0, [], al H [.slice0] 59 0, c_def_Parse ?_, RD.nil _, o1, fun j hj => by cases hj⟩
 unfold s_def_Parse
 simp (disch := (first | assumption | omega | (simp only [k_d, k_c, Nat.reduceAdd, Nat.reduceLeDiff, Nat.reduceLT] <;> fail) | (simp only [k_c]; omega) | (simp only [k_d, k_c, Nat.reduceAdd, Nat.reduceLeDiff, Nat.reduceLT, *] <;> fail) | fail)) only [d, hst, k_a, k_b, Nat.reduceAdd, k_s, k_x, Int.reduceBEq, Int.reduceBNe, Int.reduceLT, Int.reduceLE, Int.reduceGT, Int.reduceGE, Int.reduceNeg]
theorem same_mp (i : Nat) : same (.map i) (.map i) = true := by simp [same, sameS, Nat.beq_refl]
def fm0 : Fm := ⟨0, [], [], [], []⟩
theorem flowNew_c {H : Hp} (hn : 11 ≤ H.next) : ∃ p a H', cK (.func (.func 15) [] []) [] H = some (.ptr p 0, H') ∧ FL H' p a fm0 ∧ Out [] H H' ∧ (∀ j ∈ own p a, H.next ≤ j) ∧ a.ras = [] := by
 obtain ⟨H1, m1, m2, m3, m4⟩ := mk0_ok H
 obtain ⟨kp, km, H2, k1, k2, k3, k4, k5⟩ := keysNew_c H1
 have hkl := k2.lt
 have hf : fl [(.int .i64 0), .slice0, .map0, .slice0, .ptr0] [(2, 1, .map H.next), (4, 1, .ptr kp 0)] = some (fv ⟨H.next, kp, km, .slice0, .slice0, .slice0, []⟩ fm0) := rfl
 have hbx : bx 88 (.agg (fv ⟨H.next, kp, km, .slice0, .slice0, .slice0, []⟩ fm0)) H2 = some (H2.next, al H2 (fv ⟨H.next, kp, km, .slice0, .slice0, .slice0, []⟩ fm0) 88 0) := bx_alA (by simp)
 have o3 := al_out H2 (fv ⟨H.next, kp, km, .slice0, .slice0, .slice0, []⟩ fm0) 88 0
 have c3 := al_cs H2 (fv ⟨H.next, kp, km, .slice0, .slice0, .slice0, []⟩ fm0) 88 0
 have l1 := hkl kp (.head _)
 have l2 := hkl km (.tail _ (.head _))
 have n2 := k3.1
 have hown : ∀ j ∈ own H2.next ⟨H.next, kp, km, .slice0, .slice0, .slice0, []⟩, H.next ≤ j := by
  intro j hj
  simp [own, slots, rid] at hj
  omega
 refine ⟨H2.next, ⟨H.next, kp, km, .slice0, .slice0, .slice0, []⟩, al H2 (fv ⟨H.next, kp, km, .slice0, .slice0, .slice0, []⟩ fm0) 88 0, c_flow_New ?_, ⟨c3, .nil, ⟨[], 0, rfl, (m2.out k3 (by simp)).out o3 (by simp)⟩, by simp [fm0], OL.nil _ _ _, fun i r x hr => by simp at hr, rfl, k2.out0 o3, ?_, fun j hj => ?_, fun j hj => by simp [inn] at hj⟩, (m3.trans k3).trans o3, hown, rfl⟩
 ·unfold s_flow_New
  simp only [m1, k1, hf, hbx, k_s, k_x, Int.reduceBEq, Int.reduceBNe, Int.reduceLT, Int.reduceLE, Int.reduceGT, Int.reduceGE, Int.reduceNeg]
 ·have hkk := k2.d1
  simp [slots, Dj, rid]
  omega
 ·have := hown j hj; omega
theorem FL.rlen {H : Hp} {p : Nat} {a : FA} {f : Fm} (h : FL H p a f) : lenx a.rx = some (.int .i64 (f.rns.length : Nat)) := by
 have := h.r.rl.len (by decide)
 rw [List.length_zipWith, h.len, Nat.min_self] at this
 exact this
theorem len_c {H : Hp} {p : Nat} {a : FA} {f : Fm} (h : FL H p a f) : cK (.func (.func 19) [] []) [.ptr p 0] H = some (.int .i64 (f.rns.length : Nat), H) := by
 have k3 : cellAt H p 3 = some a.rx := h.c.cellAt rfl
 refine c_flow_Flow_Len ?_
 unfold s_flow_Flow_Len
 simp (disch := (first | assumption | omega | (simp only [k_d, k_c, Nat.reduceAdd, Nat.reduceLeDiff, Nat.reduceLT] <;> fail) | (simp only [k_c]; omega) | (simp only [k_d, k_c, Nat.reduceAdd, Nat.reduceLeDiff, Nat.reduceLT, *] <;> fail) | fail)) only [k3, h.rlen, k_a, k_b, Nat.reduceAdd, k_s, k_x, Int.reduceBEq, Int.reduceBNe, Int.reduceLT, Int.reduceLE, Int.reduceGT, Int.reduceGE, Int.reduceNeg]
theorem key_c {H : Hp} {p : Nat} {a : FA} {f : Fm} (h : FL H p a f) (s t : Str) : ∃ H', cK (.func (.func 20) [] []) [.ptr p 0, .str s, .str t] H = some (.tuple [.int .i64 ((getK f.ks (s, t)).getD 0), .bool (getK f.ks (s, t)).isSome], H') ∧ Out [] H H' := by
 have k4 : cellAt H p 4 = some (.ptr a.kp 0) := h.c.cellAt rfl
 have hf : fl [(.str []), (.str [])] [(0, 1, .str s), (1, 1, .str t)] = some (kyC (s, t)) := rfl
 obtain ⟨H', g1, g2⟩ := keysGet_c h.k (s, t)
 refine ⟨H', c_flow_Flow_Key ?_, g2⟩
 unfold s_flow_Flow_Key
 simp (disch := (first | assumption | omega | (simp only [k_d, k_c, Nat.reduceAdd, Nat.reduceLeDiff, Nat.reduceLT] <;> fail) | (simp only [k_c]; omega) | (simp only [k_d, k_c, Nat.reduceAdd, Nat.reduceLeDiff, Nat.reduceLT, *] <;> fail) | fail)) only [k4, hf, g1, k_a, k_b, Nat.reduceAdd, k_s, k_x, Int.reduceBEq, Int.reduceBNe, Int.reduceLT, Int.reduceLE, Int.reduceGT, Int.reduceGE, Int.reduceNeg]
noncomputable def defM (f : Fm) (s : Str) : List Tk := match getT f.txs s with | none => [] | some t => (parseM t).1
theorem RD.z (H : Hp) : RD H .slice0 [] [] := RD.nil H
theorem def_c {H : Hp} {p : Nat} {a : FA} {f : Fm} (h : FL H p a f) (hg : Gl H) (s : Str) :
  ∃ dx xs H', cK (.func (.func 62) [] []) [.ptr p 0, .str s] H = some (.tuple [dv dx, .bool (getT f.txs s).isSome], H') ∧ RD H' dx xs (defM f s) ∧ Out [] H H' ∧ ∀ j ∈ fpD dx xs, H.next ≤ j := by
 have o1 := al_out H [.slice0] 59 0
 have c1 := al_cs H [.slice0] 59 0
 have n1 : (al H [.slice0] 59 0).next = H.next + 1 := rfl
 generalize hA1 : al H [.slice0] 59 0 = H1 at *
 have h1 := h.out0 o1
 have k2 : cellAt H1 p 2 = some (.map a.tm) := h1.c.cellAt rfl
 have lk := getT_lk h1.t h1.tnd s true
 unfold defM
 cases hs : getT f.txs s with
 | none =>
  rw [hs] at lk
  obtain ⟨H2, t1, t2, t3, t4⟩ := stAll (n := 1) (vs := [.slice0]) c1 rfl rfl rfl
  have k3 : cellsAt H2 H.next 0 1 = some [.slice0] := t2.cellsAt 1 0 (by simp)
  refine ⟨.slice0, [], H2, c_flow_Flow_Def ?_, RD.nil _, outNew o1 t3 (one_ge (Nat.le_refl _)), fun j hj => by cases hj⟩
  unfold s_flow_Flow_Def
  simp (disch := (first | assumption | omega | (simp only [k_d, k_c, Nat.reduceAdd, Nat.reduceLeDiff, Nat.reduceLT] <;> fail) | (simp only [k_c]; omega) | (simp only [k_d, k_c, Nat.reduceAdd, Nat.reduceLeDiff, Nat.reduceLT, *] <;> fail) | fail)) only [hA1, k2, lk, Option.getD_none, Option.isSome_none, cond_true, t1, k3, k_a, k_b, Nat.reduceAdd, k_s, k_x, Int.reduceBEq, Int.reduceBNe, Int.reduceLT, Int.reduceLE, Int.reduceGT, Int.reduceGE, Int.reduceNeg]
 | some t =>
  rw [hs] at lk
  obtain ⟨dx, xs, H2, p1, p2, p3, p4⟩ := parse_c0 (text := t) (hg.out0 o1)
  have hd1 := p2.row.one
  have n2 := p3.nx
  have o3 := al_out H2 [dx] 59 0
  have c3 := al_cs H2 [dx] 59 0
  have hst : st 1 (.ptr H2.next 0) (.agg [dx]) (al H2 [.slice0] 59 0) = some (al H2 [dx] 59 0) := st_alN (by simp [hd1]) rfl rfl (by decide) rfl
  generalize hA3 : al H2 [dx] 59 0 = H3 at *
  have k4 : cellsAt H3 H2.next 0 1 = some [dx] := c3.cellsAt 1 0 (by simp)
  have cR := (c1.out p3 (by simp)).out o3 (by simp)
  obtain ⟨H4, t1, t2, t3, t4⟩ := stAll (n := 1) (vs := [dx]) cR rfl rfl (by simp [hd1])
  have k5 : cellsAt H4 H.next 0 1 = some [dx] := t2.cellsAt 1 0 (by simp)
  refine ⟨dx, xs, H4, c_flow_Flow_Def ?_, ((p2.out0 o3).out t3 fun j hj => by rw [List.mem_singleton]; have := p4 j hj; omega), outNew ((o1.trans p3).trans o3) t3 (one_ge (Nat.le_refl _)), fun j hj => by have := p4 j hj; omega⟩
  unfold s_flow_Flow_Def
  simp (disch := (first | assumption | omega | (simp only [k_d, k_c, Nat.reduceAdd, Nat.reduceLeDiff, Nat.reduceLT] <;> fail) | (simp only [k_c]; omega) | (simp only [k_d, k_c, Nat.reduceAdd, Nat.reduceLeDiff, Nat.reduceLT, *] <;> fail) | fail)) only [hA1, k2, lk, Option.getD_some, Option.isSome_some, cond_true, p1, hst, k4, t1, k5, k_a, k_b, Nat.reduceAdd, k_s, k_x, Int.reduceBEq, Int.reduceBNe, Int.reduceLT, Int.reduceLE, Int.reduceGT, Int.reduceGE, Int.reduceNeg]
noncomputable def defineM (f : Fm) (s t : Str) : Fm × Int :=
 if (getT f.txs s).isSome then (f, 5) else if (parseM t).2 ≠ 0 then (f, (parseM t).2) else if f.nms.length = 16 then (f, 6) else
  ({ f with nms := f.nms ++ [s], txs := f.txs ++ [(s, showM (parseM t).1)] }, 0)
theorem FSt.end {H H1 H2 : Hp} {p : Nat} {a b : FA} (h : Out [] H H1) (k : FSt H1 H2 p a b) : FSt H H2 p a b := (FSt.same h p a).trans k
theorem define_c {H : Hp} {p : Nat} {a : FA} {f : Fm} (h : FL H p a f) (hg : Gl H) (hn : f.nms.length ≤ 16) (s t : Str) :
  ∃ a' H', cK (.func (.func 38) [] []) [.ptr p 0, .str s, .str t] H = some (.int .i64 (defineM f s t).2, H') ∧ FL H' p a' (defineM f s t).1 ∧ FSt H H' p a a' := by
 have k2 : cellAt H p 2 = some (.map a.tm) := h.c.cellAt rfl
 have lk := getT_lk h.t h.tnd s true
 unfold defineM
 cases hs : getT f.txs s with
 | some t0 =>
  rw [hs] at lk
  rw [if_pos (show (some t0).isSome = true from rfl)]
  refine ⟨a, H, c_flow_Flow_define ?_, h, FSt.same (Out.refl _ _) p a⟩
  unfold s_flow_Flow_define
  simp (disch := (first | assumption | omega | (simp only [k_d, k_c, Nat.reduceAdd, Nat.reduceLeDiff, Nat.reduceLT] <;> fail) | (simp only [k_c]; omega) | (simp only [k_d, k_c, Nat.reduceAdd, Nat.reduceLeDiff, Nat.reduceLT, *] <;> fail) | fail)) only [k2, lk, Option.getD_some, Option.isSome_some, cond_true, k_a, k_b, Nat.reduceAdd, k_s, k_x, Int.reduceBEq, Int.reduceBNe, Int.reduceLT, Int.reduceLE, Int.reduceGT, Int.reduceGE, Int.reduceNeg]
 | none =>
  rw [hs] at lk
  rw [if_neg (by simp)]
  obtain ⟨dx, xs, H2, p1, p2, p3, p4⟩ := parse_c0 (text := t) hg
  have hd1 := p2.row.one
  have o3 := al_out H2 [dx] 59 0
  have c3 := al_cs H2 [dx] 59 0
  have n3 : (al H2 [dx] 59 0).next = H2.next + 1 := rfl
  have hst : st 1 (.ptr H2.next 0) (.agg [dx]) (al H2 [.slice0] 59 0) = some (al H2 [dx] 59 0) := st_alN (by simp [hd1]) rfl rfl (by decide) rfl
  have hst1 : st 1 (.ptr H2.next 0) (dv dx) (al H2 [.slice0] 59 0) = some (al H2 [dx] 59 0) := hst
  generalize hA3 : al H2 [dx] 59 0 = H3 at *
  have o13 := p3.trans o3
  have h3 := h.out0 o13
  by_cases hp : (parseM t).2 = 0
  ·have dp : ((parseM t).2 != 0) = false := by simp [hp]
   rw [if_neg (by simp [hp])]
   have k1 : cellAt H3 p 1 = some a.nx := h3.c.cellAt rfl
   have hlx := h3.n.rw.len1
   rw [strs_len] at hlx
   by_cases h16 : f.nms.length = 16
   ·have d16 : (((f.nms.length : Nat) : Int) == 16) = true := by simp [h16]
    rw [if_pos h16]
    refine ⟨a, H3, c_flow_Flow_define ?_, h3, FSt.same o13 p a⟩
    unfold s_flow_Flow_define
    simp (disch := (first | assumption | omega | (simp only [k_d, k_c, Nat.reduceAdd, Nat.reduceLeDiff, Nat.reduceLT] <;> fail) | (simp only [k_c]; omega) | (simp only [k_d, k_c, Nat.reduceAdd, Nat.reduceLeDiff, Nat.reduceLT, *] <;> fail) | fail)) only [k2, lk, Option.getD_none, Option.isSome_none, cond_true, p1, hst, hst1, dp, k1, hlx, d16, k_a, k_b, Nat.reduceAdd, k_s, k_x, Int.reduceBEq, Int.reduceBNe, Int.reduceLT, Int.reduceLE, Int.reduceGT, Int.reduceGE, Int.reduceNeg]
   ·have d16 : (((f.nms.length : Nat) : Int) == 16) = false := by rw [beq_eq_false_iff_ne]; omega
    rw [if_neg h16]
    obtain ⟨nx', H4, H5, a1, a2, a3, a4, a5⟩ := h3.pushN s (by omega)
    have a1' := a1 H3.next rfl
    have hf : fl [(.str [])] [(0, 1, .str s)] = some [.str s] := rfl
    have hnc : newCells H3 [.str s] 9 0 = some (H3.next, al H3 [.str s] 9 0) := newCells_al (by simp)
    have hH2o : H2.next ∉ own p a := fun q => by have := h.lt _ q; have := p3.1; omega
    have c5 : Cs H5 H2.next [dx] 59 0 := c3.out a4.o hH2o
    have k5 : cellsAt H5 H2.next 0 1 = some [dx] := c5.cellsAt 1 0 (by simp)
    have hps := parse_show hp
    have hRD5 : RD H5 dx xs (parseM t).1 := (p2.out0 o3).out a4.o fun j hj q => by have := p4 j hj; have := h.lt _ q; omega
    have hg5 : Gl H5 := (hg.out0 o13).out a4.o h.lo
    obtain ⟨H6, s1, s2⟩ := show_c hg5 hps.2.1 hps.2.2.1 hps.2.2.2.1 hps.1 hRD5
    have h6 := a3.out0 s2
    obtain ⟨H7, u1, u2, u3⟩ := h6.putT (s := s) (by simpa using hs) (showM (parseM t).1)
    have k6 : cellAt H5 p 2 = some (.map a.tm) := a3.c.cellAt rfl
    have k7 : cellAt H6 p 2 = some (.map a.tm) := h6.c.cellAt rfl
    refine ⟨{ a with nx := nx' }, H7, c_flow_Flow_define ?_, u2, FSt.end o13 (a4.trans ((FSt.same s2 p _).trans u3))⟩
    unfold s_flow_Flow_define
    simp (disch := (first | assumption | omega | (simp only [k_d, k_c, Nat.reduceAdd, Nat.reduceLeDiff, Nat.reduceLT] <;> fail) | (simp only [k_c]; omega) | (simp only [k_d, k_c, Nat.reduceAdd, Nat.reduceLeDiff, Nat.reduceLT, *] <;> fail) | fail)) only [k2, lk, Option.getD_none, Option.isSome_none, cond_true, p1, hst, hst1, dp, k1, hlx, d16, hf, hnc, a1', a2, k5, k6, k7, s1, u1, SM_t (same_mp _), k_a, k_b, Nat.reduceAdd, k_s, k_x, Int.reduceBEq, Int.reduceBNe, Int.reduceLT, Int.reduceLE, Int.reduceGT, Int.reduceGE, Int.reduceNeg]
  ·have dp : ((parseM t).2 != 0) = true := by simp [hp]
   rw [if_pos hp]
   refine ⟨a, H3, c_flow_Flow_define ?_, h3, FSt.same o13 p a⟩
   unfold s_flow_Flow_define
   simp (disch := (first | assumption | omega | (simp only [k_d, k_c, Nat.reduceAdd, Nat.reduceLeDiff, Nat.reduceLT] <;> fail) | (simp only [k_c]; omega) | (simp only [k_d, k_c, Nat.reduceAdd, Nat.reduceLeDiff, Nat.reduceLT, *] <;> fail) | fail)) only [k2, lk, Option.getD_none, Option.isSome_none, cond_true, p1, hst, hst1, dp, k_a, k_b, Nat.reduceAdd, k_s, k_x, Int.reduceBEq, Int.reduceBNe, Int.reduceLT, Int.reduceLE, Int.reduceGT, Int.reduceGE, Int.reduceNeg]
theorem parse_bad {text : Str} (h : (parseM text).2 ≠ 0) : (parseM text).1 = [] := by
 unfold parseM at h ⊢
 by_cases h1 : 1024 < text.length
 ·rw [if_pos h1]
 ·rw [if_neg h1] at h ⊢
  cases hts : tsM ((spl 59 text).map hdw) (spl 59 text) with
  | none => rfl
  | some ts =>
   rw [hts] at h
   by_cases h2 : goodM ts = 0
   ·simp only [if_pos h2] at h; exact absurd rfl h
   ·simp only [if_neg h2]
theorem parse_bd (text : Str) : (parseM text).1.length ≤ 16 ∧ ∀ t ∈ (parseM text).1, t.after.length ≤ 16 := by
 by_cases h : (parseM text).2 = 0
 ·obtain ⟨g1, g2, g3, g4, g5, g6⟩ := parseM_good h
  exact ⟨g3, after_le0 g3 g4⟩
 ·rw [parse_bad h]
  exact ⟨Nat.zero_le _, fun t ht => by cases ht⟩
noncomputable def startM (f : Fm) (e : Ev) : Fm × Int :=
 match getT f.txs e.nm with
 | none => (f, 4)
 | some t => if e.ky ≠ [] ∧ (getK f.ks (e.nm, e.ky)).isSome = true then (f, 5) else if f.rns.length = 64 then (f, 6) else if e.rn ≠ (f.rns.length : Int) + 1 then (f, 1) else
  if (newM (parseM t).1).2 ≠ 0 then (f, (newM (parseM t).1).2) else
  ({ f with rns := f.rns ++ [((newM (parseM t).1).1, e.nm)], ks := if e.ky = [] then f.ks else f.ks ++ [((e.nm, e.ky), e.rn)] }, 0)
theorem start_c {H : Hp} {p : Nat} {a : FA} {f : Fm} (h : FL H p a f) (hg : Gl H) (hk : f.ks.length < 128) (hr : f.rns.length ≤ 64) (e : Ev) :
  ∃ a' H', cK (.func (.func 39) [] []) [.ptr p 0, .agg (evC e)] H = some (.int .i64 (startM f e).2, H') ∧ FL H' p a' (startM f e).1 ∧ FSt H H' p a a' := by
 have hbx : bx 29 (.agg (evC e)) H = some (H.next, al H (evC e) 29 0) := bx_alA (by rw [ev_len]; omega)
 have o1 := al_out H (evC e) 29 0
 have c1 := al_cs H (evC e) 29 0
 have n1 : (al H (evC e) 29 0).next = H.next + 1 := rfl
 generalize al H (evC e) 29 0 = H1 at *
 have h1 := h.out0 o1
 have E1 : cellAt H1 H.next 1 = some (.int .i64 e.rn) := c1.cellAt rfl
 have E5 : cellAt H1 H.next 5 = some (.str e.nm) := c1.cellAt rfl
 have E6 : cellAt H1 H.next 6 = some (.str e.ky) := c1.cellAt rfl
 obtain ⟨dx, xs, H2, p1, p2, p3, p4⟩ := def_c h1 (hg.out0 o1) e.nm
 have hd1 := p2.row.one
 have o3 := al_out H2 [dx] 59 0
 have c3 := al_cs H2 [dx] 59 0
 have n3 : (al H2 [dx] 59 0).next = H2.next + 1 := rfl
 have hst : st 1 (.ptr H2.next 0) (dv dx) (al H2 [.slice0] 59 0) = some (al H2 [dx] 59 0) := st_alN (by simp [hd1]) rfl rfl (by decide) rfl
 generalize hA3 : al H2 [dx] 59 0 = H3 at *
 have h3 := (h1.out0 p3).out0 o3
 have o13 := (o1.trans p3).trans o3
 have cE3 := (c1.out p3 (by simp)).out o3 (by simp)
 obtain ⟨H4, q1, q2⟩ := key_c h3 e.nm e.ky
 have h4 := h3.out0 q2
 have o14 := o13.trans q2
 have cE4 := cE3.out q2 (by simp)
 have F5 : cellAt H3 H.next 5 = some (.str e.nm) := cE3.cellAt rfl
 have F6 : cellAt H3 H.next 6 = some (.str e.ky) := cE3.cellAt rfl
 have G1 : cellAt H4 H.next 1 = some (.int .i64 e.rn) := cE4.cellAt rfl
 have G6 : cellAt H4 H.next 6 = some (.str e.ky) := cE4.cellAt rfl
 have k3 : cellAt H4 p 3 = some a.rx := h4.c.cellAt rfl
 have hrl := h4.rlen
 unfold startM
 unfold defM at p2
 cases hs : getT f.txs e.nm with
 | none =>
  rw [hs] at p1
  refine ⟨a, H4, c_flow_Flow_start ?_, h4, FSt.same o14 p a⟩
  unfold s_flow_Flow_start
  simp (disch := (first | assumption | omega | (simp only [k_d, k_c, Nat.reduceAdd, Nat.reduceLeDiff, Nat.reduceLT] <;> fail) | (simp only [k_c]; omega) | (simp only [k_d, k_c, Nat.reduceAdd, Nat.reduceLeDiff, Nat.reduceLT, *] <;> fail) | fail)) only [hbx, E5, p1, hst, F5, F6, q1, Option.isSome_none, k_a, k_b, Nat.reduceAdd, k_s, k_x, Int.reduceBEq, Int.reduceBNe, Int.reduceLT, Int.reduceLE, Int.reduceGT, Int.reduceGE, Int.reduceNeg]
 | some t =>
  rw [hs] at p1 p2
  simp only at p2 ⊢
  by_cases hky : e.ky = []
  ·have b1 : (!(e.ky == [])) = false := by simp [hky]
   rw [if_neg (by simp [hky])]
   by_cases h64 : f.rns.length = 64
   ·have b2 : (((f.rns.length : Nat) : Int) == 64) = true := by simp [h64]
    rw [if_pos h64]
    refine ⟨a, H4, c_flow_Flow_start ?_, h4, FSt.same o14 p a⟩
    unfold s_flow_Flow_start
    simp (disch := (first | assumption | omega | (simp only [k_d, k_c, Nat.reduceAdd, Nat.reduceLeDiff, Nat.reduceLT] <;> fail) | (simp only [k_c]; omega) | (simp only [k_d, k_c, Nat.reduceAdd, Nat.reduceLeDiff, Nat.reduceLT, *] <;> fail) | fail)) only [hbx, E5, p1, hst, F5, F6, q1, Option.isSome_some, G6, b1, k3, hrl, b2, k_a, k_b, Nat.reduceAdd, k_s, k_x, Int.reduceBEq, Int.reduceBNe, Int.reduceLT, Int.reduceLE, Int.reduceGT, Int.reduceGE, Int.reduceNeg]
   ·have b2 : (((f.rns.length : Nat) : Int) == 64) = false := by rw [beq_eq_false_iff_ne]; omega
    rw [if_neg h64]
    have hw : IntKind.wrap .i64 (((f.rns.length : Nat) : Int) + 1) = ((f.rns.length : Nat) : Int) + 1 := wrap_i64 (by omega) (by omega)
    by_cases hrn : e.rn = (f.rns.length : Int) + 1
    ·have b3 : (e.rn != ((f.rns.length : Nat) : Int) + 1) = false := by simp [hrn]
     rw [if_neg (by simp [hrn])]
     have hb := parse_bd t
     have k5 : cellsAt H4 H2.next 0 1 = some [dx] := (c3.out q2 (by simp)).cellsAt 1 0 (by simp)
     obtain ⟨dx', xs', tx', sx', H5, r1, r2, r3, r4⟩ := new_c ((p2.out0 o3).out0 q2) (by have := hb.1; omega) (fun u hu => by have := hb.2 u hu; omega)
     have o6 := al_out H5 (rv dx' (newM (parseM t).1).1.st tx' sx') 62 0
     have c6 := al_cs H5 (rv dx' (newM (parseM t).1).1.st tx' sx') 62 0
     have n6 : (al H5 (rv dx' (newM (parseM t).1).1.st tx' sx') 62 0).next = H5.next + 1 := rfl
     have hst4 : st 4 (.ptr H5.next 0) (.agg (rv dx' (newM (parseM t).1).1.st tx' sx')) (al H5 [.slice0, (.int .i64 0), .slice0, .slice0] 62 0) = some (al H5 (rv dx' (newM (parseM t).1).1.st tx' sx') 62 0) := st_alN (by simp [r2.v.d.row.one, r2.t.rl.one, r2.s.oneX, oneC_i]) rfl rfl (by decide) rfl
     generalize hA6 : al H5 (rv dx' (newM (parseM t).1).1.st tx' sx') 62 0 = H6 at *
     have h6 := (h4.out0 r3).out0 o6
     have o16 := (o14.trans r3).trans o6
     by_cases he : (newM (parseM t).1).2 = 0
     ·have b4 : ((newM (parseM t).1).2 != 0) = false := by simp [he]
      rw [if_neg (by simp [he]), if_pos hky]
      have m3 : cellAt H6 p 3 = some a.rx := h6.c.cellAt rfl
      have m4 : cellsAt H6 H5.next 0 4 = some (rv dx' (newM (parseM t).1).1.st tx' sx') := c6.cellsAt 4 0 (by simp)
      have cE6 := (cE4.out r3 (by simp)).out o6 (by simp)
      have m5 : cellAt H6 H.next 5 = some (.str e.nm) := cE6.cellAt rfl
      have hRV : RV H6 dx' xs' tx' sx' (newM (parseM t).1).1 := r2.v.out0 o6
      have hfp : ∀ j ∈ (RA.mk dx' xs' tx' sx').fp, j ∉ own p a := fun j hj q => by have := r4 j hj; have := h4.lt j q; omega
      obtain ⟨rx', H7, H8, a1, a2, a3, a4, a5, a6, a7⟩ := h6.pushRun (r' := ⟨dx', xs', tx', sx'⟩) (x := ((newM (parseM t).1).1, e.nm)) hRV hfp (by omega)
      have a1' := a1 H6.next rfl
      have f1 : fl [.slice0, (.int .i64 0), .slice0, .slice0, (.str [])] [(0, 4, .agg (rv dx' (newM (parseM t).1).1.st tx' sx')), (4, 1, .str e.nm)] = some (rowC ⟨dx', xs', tx', sx'⟩ ((newM (parseM t).1).1, e.nm)) := by
       rw [fl_consN (l := rv dx' (newM (parseM t).1).1.st tx' sx') (n := 4) rfl (by simp), fl_cons1 rfl (by simp), fl_nil]; rfl
      have f2 : fl [.slice0, (.int .i64 0), .slice0, .slice0, (.str [])] [(0, 5, .agg (rowC ⟨dx', xs', tx', sx'⟩ ((newM (parseM t).1).1, e.nm)))] = some (rowC ⟨dx', xs', tx', sx'⟩ ((newM (parseM t).1).1, e.nm)) := by
       rw [fl_consN (l := rowC ⟨dx', xs', tx', sx'⟩ ((newM (parseM t).1).1, e.nm)) (n := 5) rfl (by simp), fl_nil]; rfl
      have hnc : newCells H6 (rowC ⟨dx', xs', tx', sx'⟩ ((newM (parseM t).1).1, e.nm)) 95 0 = some (H6.next, al H6 (rowC ⟨dx', xs', tx', sx'⟩ ((newM (parseM t).1).1, e.nm)) 95 0) := newCells_al (by simp [rowC])
      have m6 : cellAt (al H6 (rowC ⟨dx', xs', tx', sx'⟩ ((newM (parseM t).1).1, e.nm)) 95 0) p 3 = some a.rx := by rw [cellAt_al_ne h6.c.1]; exact m3
      have hsm := same_rw h6.r.1.rw
      have hEo : H.next ∉ own p a := fun q => by have := h.lt _ q; omega
      have m8 : cellAt H8 H.next 6 = some (.str e.ky) := (cE6.out a4 hEo).cellAt rfl
      have hFS : FSt H H8 p a { a with rx := rx', ras := a.ras ++ [⟨dx', xs', tx', sx'⟩] } := by
       have := o14.1; have := o16.1
       exact ⟨(o16.mono fun j hj => by cases hj).trans a4, fun j hj => (a5 j hj).imp (fun q => q) fun q => by omega, fun j hj => (a6 j hj).imp (fun q => q) fun q => by have := r4 j q; omega⟩
      refine ⟨_, H8, c_flow_Flow_start ?_, a3, hFS⟩
      unfold s_flow_Flow_start
      simp (disch := (first | assumption | omega | (simp only [k_d, k_c, Nat.reduceAdd, Nat.reduceLeDiff, Nat.reduceLT] <;> fail) | (simp only [k_c]; omega) | (simp only [k_d, k_c, Nat.reduceAdd, Nat.reduceLeDiff, Nat.reduceLT, *] <;> fail) | fail)) only [hbx, E5, p1, hst, F5, F6, q1, Option.isSome_some, G6, b1, k3, hrl, b2, G1, hw, b3, k5, r1, hst4, b4, m3, m4, m5, f1, f2, hnc, a1', a2, m6, SM_t hsm, m8, k_a, k_b, Nat.reduceAdd, k_s, k_x, Int.reduceBEq, Int.reduceBNe, Int.reduceLT, Int.reduceLE, Int.reduceGT, Int.reduceGE, Int.reduceNeg]
     ·have b4 : ((newM (parseM t).1).2 != 0) = true := by simp [he]
      rw [if_pos he]
      refine ⟨a, H6, c_flow_Flow_start ?_, h6, FSt.same o16 p a⟩
      unfold s_flow_Flow_start
      simp (disch := (first | assumption | omega | (simp only [k_d, k_c, Nat.reduceAdd, Nat.reduceLeDiff, Nat.reduceLT] <;> fail) | (simp only [k_c]; omega) | (simp only [k_d, k_c, Nat.reduceAdd, Nat.reduceLeDiff, Nat.reduceLT, *] <;> fail) | fail)) only [hbx, E5, p1, hst, F5, F6, q1, Option.isSome_some, G6, b1, k3, hrl, b2, G1, hw, b3, k5, r1, hst4, b4, k_a, k_b, Nat.reduceAdd, k_s, k_x, Int.reduceBEq, Int.reduceBNe, Int.reduceLT, Int.reduceLE, Int.reduceGT, Int.reduceGE, Int.reduceNeg]
    ·have b3 : (e.rn != ((f.rns.length : Nat) : Int) + 1) = true := by simp [hrn]
     rw [if_pos hrn]
     refine ⟨a, H4, c_flow_Flow_start ?_, h4, FSt.same o14 p a⟩
     unfold s_flow_Flow_start
     simp (disch := (first | assumption | omega | (simp only [k_d, k_c, Nat.reduceAdd, Nat.reduceLeDiff, Nat.reduceLT] <;> fail) | (simp only [k_c]; omega) | (simp only [k_d, k_c, Nat.reduceAdd, Nat.reduceLeDiff, Nat.reduceLT, *] <;> fail) | fail)) only [hbx, E5, p1, hst, F5, F6, q1, Option.isSome_some, G6, b1, k3, hrl, b2, G1, hw, b3, k_a, k_b, Nat.reduceAdd, k_s, k_x, Int.reduceBEq, Int.reduceBNe, Int.reduceLT, Int.reduceLE, Int.reduceGT, Int.reduceGE, Int.reduceNeg]
  ·have b1 : (!(e.ky == [])) = true := by simp [hky]
   cases hgk : getK f.ks (e.nm, e.ky) with
   | some had =>
    rw [if_pos ⟨hky, rfl⟩]
    rw [hgk] at q1
    refine ⟨a, H4, c_flow_Flow_start ?_, h4, FSt.same o14 p a⟩
    unfold s_flow_Flow_start
    simp (disch := (first | assumption | omega | (simp only [k_d, k_c, Nat.reduceAdd, Nat.reduceLeDiff, Nat.reduceLT] <;> fail) | (simp only [k_c]; omega) | (simp only [k_d, k_c, Nat.reduceAdd, Nat.reduceLeDiff, Nat.reduceLT, *] <;> fail) | fail)) only [hbx, E5, p1, hst, F5, F6, q1, Option.isSome_some, Option.getD_some, G6, b1, k_a, k_b, Nat.reduceAdd, k_s, k_x, Int.reduceBEq, Int.reduceBNe, Int.reduceLT, Int.reduceLE, Int.reduceGT, Int.reduceGE, Int.reduceNeg]
   | none =>
   rw [if_neg (by simp)]
   rw [hgk] at q1
   by_cases h64 : f.rns.length = 64
   ·have b2 : (((f.rns.length : Nat) : Int) == 64) = true := by simp [h64]
    rw [if_pos h64]
    refine ⟨a, H4, c_flow_Flow_start ?_, h4, FSt.same o14 p a⟩
    unfold s_flow_Flow_start
    simp (disch := (first | assumption | omega | (simp only [k_d, k_c, Nat.reduceAdd, Nat.reduceLeDiff, Nat.reduceLT] <;> fail) | (simp only [k_c]; omega) | (simp only [k_d, k_c, Nat.reduceAdd, Nat.reduceLeDiff, Nat.reduceLT, *] <;> fail) | fail)) only [hbx, E5, p1, hst, F5, F6, q1, Option.isSome_some, Option.isSome_none, G6, b1, k3, hrl, b2, k_a, k_b, Nat.reduceAdd, k_s, k_x, Int.reduceBEq, Int.reduceBNe, Int.reduceLT, Int.reduceLE, Int.reduceGT, Int.reduceGE, Int.reduceNeg]
   ·have b2 : (((f.rns.length : Nat) : Int) == 64) = false := by rw [beq_eq_false_iff_ne]; omega
    rw [if_neg h64]
    have hw : IntKind.wrap .i64 (((f.rns.length : Nat) : Int) + 1) = ((f.rns.length : Nat) : Int) + 1 := wrap_i64 (by omega) (by omega)
    by_cases hrn : e.rn = (f.rns.length : Int) + 1
    ·have b3 : (e.rn != ((f.rns.length : Nat) : Int) + 1) = false := by simp [hrn]
     rw [if_neg (by simp [hrn])]
     have hb := parse_bd t
     have k5 : cellsAt H4 H2.next 0 1 = some [dx] := (c3.out q2 (by simp)).cellsAt 1 0 (by simp)
     obtain ⟨dx', xs', tx', sx', H5, r1, r2, r3, r4⟩ := new_c ((p2.out0 o3).out0 q2) (by have := hb.1; omega) (fun u hu => by have := hb.2 u hu; omega)
     have o6 := al_out H5 (rv dx' (newM (parseM t).1).1.st tx' sx') 62 0
     have c6 := al_cs H5 (rv dx' (newM (parseM t).1).1.st tx' sx') 62 0
     have n6 : (al H5 (rv dx' (newM (parseM t).1).1.st tx' sx') 62 0).next = H5.next + 1 := rfl
     have hst4 : st 4 (.ptr H5.next 0) (.agg (rv dx' (newM (parseM t).1).1.st tx' sx')) (al H5 [.slice0, (.int .i64 0), .slice0, .slice0] 62 0) = some (al H5 (rv dx' (newM (parseM t).1).1.st tx' sx') 62 0) := st_alN (by simp [r2.v.d.row.one, r2.t.rl.one, r2.s.oneX, oneC_i]) rfl rfl (by decide) rfl
     generalize hA6 : al H5 (rv dx' (newM (parseM t).1).1.st tx' sx') 62 0 = H6 at *
     have h6 := (h4.out0 r3).out0 o6
     have o16 := (o14.trans r3).trans o6
     by_cases he : (newM (parseM t).1).2 = 0
     ·have b4 : ((newM (parseM t).1).2 != 0) = false := by simp [he]
      rw [if_neg (by simp [he]), if_neg hky]
      have m3 : cellAt H6 p 3 = some a.rx := h6.c.cellAt rfl
      have m4 : cellsAt H6 H5.next 0 4 = some (rv dx' (newM (parseM t).1).1.st tx' sx') := c6.cellsAt 4 0 (by simp)
      have cE6 := (cE4.out r3 (by simp)).out o6 (by simp)
      have m5 : cellAt H6 H.next 5 = some (.str e.nm) := cE6.cellAt rfl
      have hRV : RV H6 dx' xs' tx' sx' (newM (parseM t).1).1 := r2.v.out0 o6
      have hfp : ∀ j ∈ (RA.mk dx' xs' tx' sx').fp, j ∉ own p a := fun j hj q => by have := r4 j hj; have := h4.lt j q; omega
      obtain ⟨rx', H7, H8, a1, a2, a3, a4, a5, a6, a7⟩ := h6.pushRun (r' := ⟨dx', xs', tx', sx'⟩) (x := ((newM (parseM t).1).1, e.nm)) hRV hfp (by omega)
      have a1' := a1 H6.next rfl
      have f1 : fl [.slice0, (.int .i64 0), .slice0, .slice0, (.str [])] [(0, 4, .agg (rv dx' (newM (parseM t).1).1.st tx' sx')), (4, 1, .str e.nm)] = some (rowC ⟨dx', xs', tx', sx'⟩ ((newM (parseM t).1).1, e.nm)) := by
       rw [fl_consN (l := rv dx' (newM (parseM t).1).1.st tx' sx') (n := 4) rfl (by simp), fl_cons1 rfl (by simp), fl_nil]; rfl
      have f2 : fl [.slice0, (.int .i64 0), .slice0, .slice0, (.str [])] [(0, 5, .agg (rowC ⟨dx', xs', tx', sx'⟩ ((newM (parseM t).1).1, e.nm)))] = some (rowC ⟨dx', xs', tx', sx'⟩ ((newM (parseM t).1).1, e.nm)) := by
       rw [fl_consN (l := rowC ⟨dx', xs', tx', sx'⟩ ((newM (parseM t).1).1, e.nm)) (n := 5) rfl (by simp), fl_nil]; rfl
      have hnc : newCells H6 (rowC ⟨dx', xs', tx', sx'⟩ ((newM (parseM t).1).1, e.nm)) 95 0 = some (H6.next, al H6 (rowC ⟨dx', xs', tx', sx'⟩ ((newM (parseM t).1).1, e.nm)) 95 0) := newCells_al (by simp [rowC])
      have m6 : cellAt (al H6 (rowC ⟨dx', xs', tx', sx'⟩ ((newM (parseM t).1).1, e.nm)) 95 0) p 3 = some a.rx := by rw [cellAt_al_ne h6.c.1]; exact m3
      have hsm := same_rw h6.r.1.rw
      have hEo : H.next ∉ own p a := fun q => by have := h.lt _ q; omega
      have m8 : cellAt H8 H.next 6 = some (.str e.ky) := (cE6.out a4 hEo).cellAt rfl
      have hFS : FSt H H8 p a { a with rx := rx', ras := a.ras ++ [⟨dx', xs', tx', sx'⟩] } := by
       have := o14.1; have := o16.1
       exact ⟨(o16.mono fun j hj => by cases hj).trans a4, fun j hj => (a5 j hj).imp (fun q => q) fun q => by omega, fun j hj => (a6 j hj).imp (fun q => q) fun q => by have := r4 j q; omega⟩
      have m1 : cellAt H8 H.next 1 = some (.int .i64 e.rn) := (cE6.out a4 hEo).cellAt rfl
      have m9 : cellAt H8 H.next 5 = some (.str e.nm) := (cE6.out a4 hEo).cellAt rfl
      have m0 : cellAt H8 p 4 = some (.ptr a.kp 0) := a3.c.cellAt rfl
      have f3 : fl [(.str []), (.str [])] [(0, 1, .str e.nm), (1, 1, .str e.ky)] = some (kyC (e.nm, e.ky)) := rfl
      obtain ⟨kl', H9, y1, y2, y3⟩ := a3.putK hk hgk e.rn
      have y1' : cK (.func (.func 46) [] []) [.ptr a.kp 0, .agg (kyC (e.nm, e.ky)), .int .i64 e.rn] H8 = some (.tuple [.int .i64 e.rn, .bool true], H9) := y1
      refine ⟨_, H9, c_flow_Flow_start ?_, y2, hFS.trans y3⟩
      unfold s_flow_Flow_start
      simp (disch := (first | assumption | omega | (simp only [k_d, k_c, Nat.reduceAdd, Nat.reduceLeDiff, Nat.reduceLT] <;> fail) | (simp only [k_c]; omega) | (simp only [k_d, k_c, Nat.reduceAdd, Nat.reduceLeDiff, Nat.reduceLT, *] <;> fail) | fail)) only [hbx, E5, p1, hst, F5, F6, q1, Option.isSome_some, Option.isSome_none, G6, b1, k3, hrl, b2, G1, hw, b3, k5, r1, hst4, b4, m3, m4, m5, f1, f2, hnc, a1', a2, m6, SM_t hsm, m8, m1, m9, m0, f3, y1', k_a, k_b, Nat.reduceAdd, k_s, k_x, Int.reduceBEq, Int.reduceBNe, Int.reduceLT, Int.reduceLE, Int.reduceGT, Int.reduceGE, Int.reduceNeg]
     ·have b4 : ((newM (parseM t).1).2 != 0) = true := by simp [he]
      rw [if_pos he]
      refine ⟨a, H6, c_flow_Flow_start ?_, h6, FSt.same o16 p a⟩
      unfold s_flow_Flow_start
      simp (disch := (first | assumption | omega | (simp only [k_d, k_c, Nat.reduceAdd, Nat.reduceLeDiff, Nat.reduceLT] <;> fail) | (simp only [k_c]; omega) | (simp only [k_d, k_c, Nat.reduceAdd, Nat.reduceLeDiff, Nat.reduceLT, *] <;> fail) | fail)) only [hbx, E5, p1, hst, F5, F6, q1, Option.isSome_some, Option.isSome_none, G6, b1, k3, hrl, b2, G1, hw, b3, k5, r1, hst4, b4, k_a, k_b, Nat.reduceAdd, k_s, k_x, Int.reduceBEq, Int.reduceBNe, Int.reduceLT, Int.reduceLE, Int.reduceGT, Int.reduceGE, Int.reduceNeg]
    ·have b3 : (e.rn != ((f.rns.length : Nat) : Int) + 1) = true := by simp [hrn]
     rw [if_pos hrn]
     refine ⟨a, H4, c_flow_Flow_start ?_, h4, FSt.same o14 p a⟩
     unfold s_flow_Flow_start
     simp (disch := (first | assumption | omega | (simp only [k_d, k_c, Nat.reduceAdd, Nat.reduceLeDiff, Nat.reduceLT] <;> fail) | (simp only [k_c]; omega) | (simp only [k_d, k_c, Nat.reduceAdd, Nat.reduceLeDiff, Nat.reduceLT, *] <;> fail) | fail)) only [hbx, E5, p1, hst, F5, F6, q1, Option.isSome_some, Option.isSome_none, G6, b1, k3, hrl, b2, G1, hw, b3, k_a, k_b, Nat.reduceAdd, k_s, k_x, Int.reduceBEq, Int.reduceBNe, Int.reduceLT, Int.reduceLE, Int.reduceGT, Int.reduceGE, Int.reduceNeg]
theorem pickL {α : Type} (Q : Nat → α → Prop) : ∀ n, (∀ j, j < n → ∃ a, Q j a) → ∃ l : List α, l.length = n ∧ ∀ (j : Nat) (a : α), l[j]? = some a → Q j a
 | 0, _ => ⟨[], rfl, fun j a h => by simp at h⟩
 | n + 1, h => by
  obtain ⟨l, hl, hq⟩ := pickL Q n fun j hj => h j (by omega)
  obtain ⟨a, ha⟩ := h n (by omega)
  refine ⟨l ++ [a], by simp [hl], fun j b hb => ?_⟩
  by_cases hj : j < l.length
  ·rw [List.getElem?_append_left hj] at hb; exact hq j b hb
  ·rw [List.getElem?_append_right (by omega)] at hb
   have : j - l.length = 0 := by
    have := (List.getElem?_eq_some_iff.1 hb).1
    simp at this; omega
   rw [this] at hb
   cases hb
   rw [show j = n by omega]; exact ha
theorem is_b {H : Hp} {l : List AV} {d : D} (h : Is H .bool l d) : ∃ b, l = [.bool b] := by
 cases h with
 | bool b => exact ⟨b, rfl⟩
theorem flat_of {es : Nat} : ∀ {cs : List AV} {L : List (List AV)}, cs.length = L.length * es → (∀ (i : Nat) (c : List AV), L[i]? = some c → (cs.drop (i * es)).take es = c ∧ c.length = es) → cs = L.flatten
 | cs, [], h, _ => by
  simp at h; simp [h]
 | cs, a :: L, h, hq => by
  obtain ⟨h1, h2⟩ := hq 0 a rfl
  rw [Nat.zero_mul, List.drop_zero] at h1
  simp only [List.length_cons, Nat.add_mul, Nat.one_mul] at h
  have ih := flat_of (es := es) (cs := cs.drop es) (L := L) (by rw [List.length_drop]; omega) fun i c hc => by
   obtain ⟨g1, g2⟩ := hq (i + 1) c hc
   refine ⟨?_, g2⟩
   rw [List.drop_drop, show es + i * es = (i + 1) * es by rw [Nat.add_mul, Nat.one_mul]; omega]
   exact g1
  rw [List.flatten_cons, ← ih, ← h1, List.take_append_drop]
theorem row_of {α : Type} {H : Hp} {es : Nat} {ty : Ty} {x : AV} {d : D} (C : α → List AV) (hC : ∀ a, (C a).length = es) (Q : α → Prop) (h1 : ∀ (l : List AV) (d : D), l.length = es → Is H ty l d → ∃ a, l = C a ∧ Q a) (hes : 0 < es) (h : Is H (.slice es ty) [x] d) :
  ∃ l : List α, RL H es x (l.map C) ∧ ∀ a ∈ l, Q a := by
 cases h with
 | @slice _ _ _ cs ds hr hl hd =>
  obtain ⟨l, g1, g2⟩ := pickL (fun j (a : α) => (cs.drop (j * es)).take es = C a ∧ Q a) ds.length (fun j hj => by
   have hs := hd j _ (List.getElem?_eq_getElem hj)
   have hle : (j + 1) * es ≤ ds.length * es := Nat.mul_le_mul_right _ hj
   rw [Nat.add_mul, Nat.one_mul] at hle
   exact h1 _ _ (by rw [List.length_take, List.length_drop]; omega) hs)
  refine ⟨l, ⟨?_, fun c hc => ?_⟩, fun a ha => ?_⟩
  ·have : cs = (l.map C).flatten := flat_of (by rw [List.length_map, g1]; exact hl) fun i c hc => by
    rw [List.getElem?_map, Option.map_eq_some_iff] at hc
    obtain ⟨a, ha, rfl⟩ := hc
    exact ⟨(g2 i a ha).1, hC a⟩
   rw [← this]; exact hr
  ·obtain ⟨a, _, rfl⟩ := List.mem_map.1 hc
   exact hC a
  ·obtain ⟨j, hj⟩ := List.getElem?_of_mem ha
   exact (g2 j a hj).2
theorem flat1 {α : Type} (c : α → AV) : ∀ l : List α, (l.map fun a => [c a]).flatten = l.map c
 | [] => rfl
 | a :: l => by rw [List.map_cons, List.flatten_cons, flat1 c l]; rfl
def bools (l : List Bool) : List AV := l.map .bool
theorem bools_of {H : Hp} {x : AV} {d : D} (h : Is H (.slice 1 .bool) [x] d) : ∃ l : List Bool, Rw H 1 x (bools l) := by
 obtain ⟨l, h1, _⟩ := row_of (fun b : Bool => [AV.bool b]) (fun _ => rfl) (fun _ => True) (fun l d _ hi => by
  obtain ⟨b, h1⟩ := is_b hi
  exact ⟨b, h1, trivial⟩) (by decide) h
 refine ⟨l, ?_⟩
 have := h1.1
 rw [flat1 (fun b : Bool => AV.bool b)] at this
 exact this
theorem applyD_c {H : Hp} {p : Nat} {a : FA} {f : Fm} (h : FL H p a f) (hg : Gl H) (hn : f.nms.length ≤ 16) (s t : Str) (hge : goodE ⟨1, 0, 0, 0, 0, s, [], t⟩ = true) :
  ∃ a' H', cK (.func (.func 16) [] []) [.ptr p 0, .agg (evC ⟨1, 0, 0, 0, 0, s, [], t⟩)] H = some (.int .i64 (defineM f s t).2, H') ∧ FL H' p a' (defineM f s t).1 ∧ FSt H H' p a a' := by
 generalize he : (⟨1, 0, 0, 0, 0, s, [], t⟩ : Ev) = e at *
 have e1 : e.kd = 1 := by rw [← he]
 have e5 : e.nm = s := by rw [← he]
 have e7 : e.dt = t := by rw [← he]
 have hbx : bx 29 (.agg (evC e)) H = some (H.next, al H (evC e) 29 0) := bx_alA (by rw [ev_len]; omega)
 have o1 := al_out H (evC e) 29 0
 have c1 := al_cs H (evC e) 29 0
 generalize al H (evC e) 29 0 = H1 at *
 have k8 : cellsAt H1 H.next 0 8 = some (evC e) := c1.cellsAt 8 0 (by rw [ev_len]; omega)
 obtain ⟨H2, g1, g2⟩ := egood_c e H1
 have o2 := o1.trans g2
 have c2 := c1.out g2 (by simp)
 have E0 : cellAt H2 H.next 0 = some (.int .i64 e.kd) := c2.cellAt rfl
 have E5 : cellAt H2 H.next 5 = some (.str e.nm) := c2.cellAt rfl
 have E7 : cellAt H2 H.next 7 = some (.str e.dt) := c2.cellAt rfl
 rw [hge] at g1
 rw [e1] at E0
 rw [e5] at E5
 rw [e7] at E7
 obtain ⟨a', H3, d1, d2, d3⟩ := define_c (h.out0 o2) (hg.out0 o2) hn s t
 refine ⟨a', H3, c_flow_Flow_Apply ?_, d2, FSt.end o2 d3⟩
 have q1 : ((1 : Int) == 1) = true := rfl
 unfold s_flow_Flow_Apply
 simp (disch := (first | assumption | omega | (simp only [k_d, k_c, Nat.reduceAdd, Nat.reduceLeDiff, Nat.reduceLT] <;> fail) | (simp only [k_c]; omega) | (simp only [k_d, k_c, Nat.reduceAdd, Nat.reduceLeDiff, Nat.reduceLT, *] <;> fail) | fail)) only [hbx, k8, g1, E0, E5, E7, q1, d1, k_a, k_b, Nat.reduceAdd, k_s, k_x, Int.reduceBEq, Int.reduceBNe, Int.reduceLT, Int.reduceLE, Int.reduceGT, Int.reduceGE, Int.reduceNeg]
theorem applyS_c {H : Hp} {p : Nat} {a : FA} {f : Fm} (h : FL H p a f) (hg : Gl H) (hk : f.ks.length < 128) (hr : f.rns.length ≤ 64) {e : Ev} (hge : goodE e = true) (e1 : e.kd = 2) :
  ∃ a' H', cK (.func (.func 16) [] []) [.ptr p 0, .agg (evC e)] H = some (.int .i64 (startM f e).2, H') ∧ FL H' p a' (startM f e).1 ∧ FSt H H' p a a' := by
 have hbx : bx 29 (.agg (evC e)) H = some (H.next, al H (evC e) 29 0) := bx_alA (by rw [ev_len]; omega)
 have o1 := al_out H (evC e) 29 0
 have c1 := al_cs H (evC e) 29 0
 generalize al H (evC e) 29 0 = H1 at *
 have k8 : cellsAt H1 H.next 0 8 = some (evC e) := c1.cellsAt 8 0 (by rw [ev_len]; omega)
 obtain ⟨H2, g1, g2⟩ := egood_c e H1
 have o2 := o1.trans g2
 have c2 := c1.out g2 (by simp)
 have E0 : cellAt H2 H.next 0 = some (.int .i64 e.kd) := c2.cellAt rfl
 have k82 : cellsAt H2 H.next 0 8 = some (evC e) := c2.cellsAt 8 0 (by rw [ev_len]; omega)
 rw [hge] at g1
 rw [e1] at E0
 obtain ⟨a', H3, d1, d2, d3⟩ := start_c (h.out0 o2) (hg.out0 o2) hk hr e
 refine ⟨a', H3, c_flow_Flow_Apply ?_, d2, FSt.end o2 d3⟩
 have q1 : ((2 : Int) == 1) = false := rfl
 have q2 : ((2 : Int) == 2) = true := rfl
 unfold s_flow_Flow_Apply
 simp (disch := (first | assumption | omega | (simp only [k_d, k_c, Nat.reduceAdd, Nat.reduceLeDiff, Nat.reduceLT] <;> fail) | (simp only [k_c]; omega) | (simp only [k_d, k_c, Nat.reduceAdd, Nat.reduceLeDiff, Nat.reduceLT, *] <;> fail) | fail)) only [hbx, k8, g1, E0, k82, q1, q2, d1, k_a, k_b, Nat.reduceAdd, k_s, k_x, Int.reduceBEq, Int.reduceBNe, Int.reduceLT, Int.reduceLE, Int.reduceGT, Int.reduceGE, Int.reduceNeg]
theorem allD_c {H : Hp} {i : Nat} {s t : Str} (hg : Gl H) (c : Cs H i (evC ⟨1, 0, 0, 0, 0, s, [], t⟩) 29 0) (hge : goodE ⟨1, 0, 0, 0, 0, s, [], t⟩ = true) :
  ∃ p a H', cK (.func (.func 18) [] []) [.slice i 0 1 1 true 8] H = some (.ptr p 0, H') ∧ FL H' p a (defineM fm0 s t).1 ∧ Out [] H H' ∧ (∀ j ∈ own p a, H.next ≤ j) := by
 obtain ⟨p, a, H1, n1, n2, n3, n4, n5⟩ := flowNew_c hg.nx
 have c1 := c.out n3 (by simp)
 have k8 : cellsAt H1 i 0 8 = some (evC ⟨1, 0, 0, 0, 0, s, [], t⟩) := c1.cellsAt 8 0 (by rw [ev_len]; omega)
 have hz : st 8 (.ptr H1.next 0) (.agg (evC ⟨1, 0, 0, 0, 0, s, [], t⟩)) (al H1 zE 29 0) = some (al H1 (evC ⟨1, 0, 0, 0, 0, s, [], t⟩) 29 0) := st_alN rfl rfl rfl (by decide) rfl
 have o2 := al_out H1 (evC ⟨1, 0, 0, 0, 0, s, [], t⟩) 29 0
 have c2 := al_cs H1 (evC ⟨1, 0, 0, 0, 0, s, [], t⟩) 29 0
 generalize al H1 (evC ⟨1, 0, 0, 0, 0, s, [], t⟩) 29 0 = H2 at *
 have k9 : cellsAt H2 H1.next 0 8 = some (evC ⟨1, 0, 0, 0, 0, s, [], t⟩) := c2.cellsAt 8 0 (by rw [ev_len]; omega)
 have o12 := n3.trans o2
 obtain ⟨a', H3, d1, d2, d3⟩ := applyD_c (n2.out0 o2) (hg.out0 o12) (Nat.zero_le _) s t hge
 have hl : lenx (.slice i 0 1 1 true 8) = some (.int .i64 1) := rfl
 have hia : ia 8 (.slice i 0 1 1 true 8) (.int .i64 0) = some (.ptr i 0) := rfl
 have e1 : decide ((0 : Int) < 1) = true := rfl
 have e2 : decide ((1 : Int) < 1) = false := rfl
 have e3 : IntKind.wrap .i64 ((0 : Int) + 1) = 1 := rfl
 have i1 : ∀ j4 : K.Fn 1, l_flow_All JN GO cK j4 (.ptr p 0) (.slice i 0 1 1 true 8) (.int .i64 1) (.int .i64 1) H3 = j4 (.ptr p 0) H3 := fun j4 => by
  rw [ql_flow_All]
  simp only [bl_flow_All, e2, k_s, k_x, Int.reduceBEq, Int.reduceBNe, Int.reduceLT, Int.reduceLE, Int.reduceGT, Int.reduceGE, Int.reduceNeg]
 have i0 : ∀ j4 : K.Fn 1, l_flow_All JN GO cK j4 (.ptr p 0) (.slice i 0 1 1 true 8) (.int .i64 1) (.int .i64 0) H1 = j4 (.ptr p 0) H3 := fun j4 => by
  rw [ql_flow_All]
  simp (disch := (first | assumption | omega | (simp only [k_d, k_c, Nat.reduceAdd, Nat.reduceLeDiff, Nat.reduceLT] <;> fail) | (simp only [k_c]; omega) | (simp only [k_d, k_c, Nat.reduceAdd, Nat.reduceLeDiff, Nat.reduceLT, *] <;> fail) | fail)) only [bl_flow_All, e1, hia, k8, hz, k9, d1, e3, i1, k_a, k_b, Nat.reduceAdd, k_s, k_x, Int.reduceBEq, Int.reduceBNe, Int.reduceLT, Int.reduceLE, Int.reduceGT, Int.reduceGE, Int.reduceNeg]
 have hO : Out [] H H3 := by
  refine ⟨Nat.le_trans o12.1 d3.o.1, fun j hj hn => ?_⟩
  rw [d3.o.2 j (Nat.lt_of_lt_of_le hj o12.1) fun q => by have := n4 j q; omega]
  exact o12.2 j hj hn
 have hn3 := n3.1
 have ho2 := o2.1
 refine ⟨p, a', H3, c_flow_All ?_, d2, hO, fun j hj => (d3.w j hj).elim (n4 j) fun q => by omega⟩
 unfold s_flow_All
 simp (disch := (first | assumption | omega | (simp only [k_d, k_c, Nat.reduceAdd, Nat.reduceLeDiff, Nat.reduceLT] <;> fail) | (simp only [k_c]; omega) | (simp only [k_d, k_c, Nat.reduceAdd, Nat.reduceLeDiff, Nat.reduceLT, *] <;> fail) | fail)) only [n1, hl, i0, k_a, k_b, Nat.reduceAdd, k_s, k_x, Int.reduceBEq, Int.reduceBNe, Int.reduceLT, Int.reduceLE, Int.reduceGT, Int.reduceGE, Int.reduceNeg]
abbrev kD : Str := [100]
abbrev kA : Str := [97]
abbrev kK : Str := [107, 101, 121]
theorem good_d : goodE ⟨1, 0, 0, 0, 0, kD, [], kA⟩ = true := by kernel_rfl
theorem okN_d : okN kD = true := by kernel_rfl
abbrev evS (n : Int) (k : Str) : Ev := ⟨2, n, 0, 0, 0, kD, k, []⟩
theorem good_s {n : Int} {k : Str} (h1 : 1 ≤ n) (h2 : n ≤ 64) (hk : k.length ≤ 16) : goodE (evS n k) = true := by
 unfold goodE
 have e1 : fieldsM (evS n k).kd = [82, 77, 75] := rfl
 rw [e1]
 have e2 : onlyM (evS n k) [82, 77, 75] = evS n k := rfl
 rw [e2]
 have e3 : eqE' (evS n k) (evS n k) = true := by simp [eqE']
 rw [e3]
 have q1 : goodF (evS n k) 82 = inI n 1 64 := rfl
 have q2 : goodF (evS n k) 77 = okN kD := rfl
 have q3 : goodF (evS n k) 75 = decide (k.length ≤ 16) := rfl
 simp only [List.all_cons, List.all_nil, Bool.and_true, Bool.true_and, q1, q2, q3, okN_d]
 unfold inI
 simp [h1, h2, hk]
theorem parse_a : (newM (parseM kA).1).2 = 0 := by kernel_rfl
theorem show_a : showM (parseM kA).1 = kA := by kernel_rfl
theorem def_a : defineM fm0 kD kA = (⟨0, [kD], [(kD, kA)], [], []⟩, 0) := by
 have h1 : (parseM kA).2 = 0 := by kernel_rfl
 unfold defineM
 rw [if_neg (by simp [fm0, getT]), if_neg (by simp [h1]), if_neg (by simp [fm0]), show_a]
 rfl
structure KI (f : Fm) (m : Nat) (w : Int) : Prop where
 t : getT f.txs kD = some kA
 n : f.rns.length = m
 k : f.ks = if w = 0 then [] else [((kD, kK), w)]
 w : 0 ≤ w
theorem KI.ks {f : Fm} {m : Nat} {w : Int} (h : KI f m w) : f.ks.length < 128 := by
 rw [h.k]; split <;> simp
theorem KI.get {f : Fm} {m : Nat} {w : Int} (h : KI f m w) : getK f.ks (kD, kK) = if w = 0 then none else some w := by
 rw [h.k]; split
 ·rfl
 ·rfl
theorem KI.no {f : Fm} {m : Nat} {w : Int} (h : KI f m w) (hm : m ≤ 30) : (startM f (evS ((m + 1 : Nat) : Int) [])).2 = 0 ∧ KI (startM f (evS ((m + 1 : Nat) : Int) [])).1 (m + 1) w := by
 unfold startM
 rw [h.t]
 simp only
 rw [if_neg (by simp), if_neg (by rw [h.n]; omega), if_neg (by rw [h.n]; simp), if_neg (by rw [parse_a]; simp)]
 refine ⟨rfl, h.t, ?_, h.k, h.w⟩
 show (f.rns ++ [_]).length = m + 1
 rw [List.length_append, h.n]; rfl
theorem KI.yes {f : Fm} {m : Nat} {w : Int} (h : KI f m w) (hm : m ≤ 30) (h0 : w = 0) : (startM f (evS ((m + 1 : Nat) : Int) kK)).2 = 0 ∧ KI (startM f (evS ((m + 1 : Nat) : Int) kK)).1 (m + 1) ((m + 1 : Nat) : Int) := by
 have hk := h.k
 rw [if_pos h0] at hk
 have hg := h.get
 rw [if_pos h0] at hg
 unfold startM
 rw [h.t]
 simp only
 rw [if_neg (by rw [show ((evS ((m + 1 : Nat) : Int) kK).nm, (evS ((m + 1 : Nat) : Int) kK).ky) = (kD, kK) from rfl, hg]; simp), if_neg (by rw [h.n]; omega), if_neg (by rw [h.n]; simp), if_neg (by rw [parse_a]; simp)]
 refine ⟨rfl, h.t, ?_, ?_, by omega⟩
 ·show (f.rns ++ [_]).length = m + 1
  rw [List.length_append, h.n]; rfl
 ·rw [if_neg (show ¬((m + 1 : Nat) : Int) = 0 by omega)]
  show (if kK = [] then f.ks else f.ks ++ [((kD, kK), ((m + 1 : Nat) : Int))]) = _
  rw [if_neg (by decide), hk]; rfl
theorem KI.twice {f : Fm} {m : Nat} {w : Int} (h : KI f m w) (h0 : w ≠ 0) (n : Int) : startM f (evS n kK) = (f, 5) := by
 have hg := h.get
 rw [if_neg h0] at hg
 unfold startM
 rw [h.t]
 simp only
 rw [if_pos (by rw [show ((evS n kK).nm, (evS n kK).ky) = (kD, kK) from rfl, hg]; simp)]
theorem bools_at {H : Hp} {x : AV} {l : List Bool} (h : Rw H 1 x (bools l)) {i : Nat} {z : Bool} (hz : l[i]? = some z) (k : IntKind) : ∃ q, ia 1 x (.int k i) = some q ∧ ld q H = some (.bool z) := h.ia1 (by unfold bools; rw [List.getElem?_map, hz]; rfl) k
theorem bools_len (l : List Bool) : (bools l).length = l.length := List.length_map _
theorem keys_loop {p N : Nat} {lx : AV} {l : List Bool} (hl : l.length ≤ 30) (hlx : ∀ j ∈ rid lx, j < N) : ∀ (r : List Bool) (i : Nat) (H : Hp) (a : FA) (f : Fm) (m : Nat) (w : Int), i ≤ l.length → l.drop i = r → m ≤ i → Rw H 1 lx (bools l) → FL H p a f → KI f m w → Gl H → (∀ j ∈ own p a, N ≤ j) → N ≤ H.next →
  ∃ a' f' m' w' H', (∀ j13 : K.Fn 2, l_outriderlaw18_FlowKeys JN GO cK j13 lx (.ptr p 0) (.int .i64 w) (.int .i64 (i : Nat)) H = j13 (.ptr p 0) (.int .i64 w') H') ∧ FL H' p a' f' ∧ KI f' m' w'
 | [], i, H, a, f, m, w, hi, h, hm, hR, hF, hI, hg, ho, hN => by
  obtain rfl := drop_nil hi h
  have hlen := hR.len1
  rw [bools_len] at hlen
  refine ⟨a, f, m, w, H, fun j13 => ?_, hF, hI⟩
  rw [ql_outriderlaw18_FlowKeys]
  simp only [bl_outriderlaw18_FlowKeys, hlen, lt_f, k_s, k_x, Int.reduceBEq, Int.reduceBNe, Int.reduceLT, Int.reduceLE, Int.reduceGT, Int.reduceGE, Int.reduceNeg]
 | z :: r, i, H, a, f, m, w, hi, h, hm, hR, hF, hI, hg, ho, hN => by
  obtain ⟨g1, g2, g3⟩ := hd_drop h
  have es := wrap_s g1 (by omega)
  have em : IntKind.wrap .i64 ((m : Int) + 1) = ((m + 1 : Nat) : Int) := by rw [wrap_i64 (by omega) (by omega)]; rfl
  have hlen := hR.len1
  rw [bools_len] at hlen
  obtain ⟨q, q1, q2⟩ := bools_at hR g2 .i64
  have hln := len_c hF
  rw [hI.n] at hln
  have step : ∀ (k : Str), k.length ≤ 16 → ∃ a' H1, cK (.func (.func 16) [] []) [.ptr p 0, .agg [.int .i64 2, .int .i64 ((m + 1 : Nat) : Int), .int .i64 0, .int .i64 0, .int .i64 0, .str [100], .str k, .str []]] H = some (.int .i64 (startM f (evS ((m + 1 : Nat) : Int) k)).2, H1) ∧ FL H1 p a' (startM f (evS ((m + 1 : Nat) : Int) k)).1 ∧
    Rw H1 1 lx (bools l) ∧ Gl H1 ∧ (∀ j ∈ own p a', N ≤ j) ∧ N ≤ H1.next ∧ ld q H1 = some (.bool z) := by
   intro k hk
   obtain ⟨a', H1, c1, c2, c3⟩ := applyS_c hF hg hI.ks (by rw [hI.n]; omega) (e := evS ((m + 1 : Nat) : Int) k) (good_s (by omega) (by omega) hk) rfl
   have hR1 : Rw H1 1 lx (bools l) := hR.out c3.o fun j hj z => by have := hlx j hj; have := ho j z; omega
   obtain ⟨q', q3, q4⟩ := bools_at hR1 g2 .i64
   have hq : q' = q := by rw [q3] at q1; exact Option.some.inj q1
   subst hq
   exact ⟨a', H1, c1, c2, hR1, hg.out c3.o hF.lo, fun j hj => (c3.w j hj).elim (ho j) fun q => by omega, Nat.le_trans hN c3.o.1, q4⟩
  have hm1 : m ≤ 30 := by omega
  have bbe : ∀ b : Bool, (!(b == b)) = false := fun b => by cases b <;> rfl
  cases z with
  | false =>
   obtain ⟨a', H1, c1, c2, c3, c4, c5, c6, c7⟩ := step [] (Nat.zero_le _)
   obtain ⟨s1, s2⟩ := hI.no hm1
   obtain ⟨a'', f', m', w', H', k1, k2, k3⟩ := keys_loop hl hlx r (i + 1) H1 a' _ (m + 1) w g1 g3 (by omega) c3 c2 s2 c4 c5 c6
   refine ⟨a'', f', m', w', H', fun j13 => ?_, k2, k3⟩
   rw [ql_outriderlaw18_FlowKeys]
   simp (disch := (first | assumption | omega | (simp only [k_d, k_c, Nat.reduceAdd, Nat.reduceLeDiff, Nat.reduceLT] <;> fail) | (simp only [k_c]; omega) | (simp only [k_d, k_c, Nat.reduceAdd, Nat.reduceLeDiff, Nat.reduceLT, *] <;> fail) | fail)) only [bl_outriderlaw18_FlowKeys, hlen, lt_t g1, q1, q2, hln, em, c1, c7, bbe, s1, es, k1, k_a, k_b, Nat.reduceAdd, k_s, k_x, Int.reduceBEq, Int.reduceBNe, Int.reduceLT, Int.reduceLE, Int.reduceGT, Int.reduceGE, Int.reduceNeg]
  | true =>
   obtain ⟨a', H1, c1, c2, c3, c4, c5, c6, c7⟩ := step kK (by decide)
   by_cases h0 : w = 0
   ·obtain ⟨s1, s2⟩ := hI.yes hm1 h0
    have hln1 := len_c c2
    rw [s2.n] at hln1
    obtain ⟨a'', f', m', w', H', k1, k2, k3⟩ := keys_loop hl hlx r (i + 1) H1 a' _ (m + 1) _ g1 g3 (by omega) c3 c2 s2 c4 c5 c6
    subst h0
    refine ⟨a'', f', m', w', H', fun j13 => ?_, k2, k3⟩
    rw [ql_outriderlaw18_FlowKeys]
    simp (disch := (first | assumption | omega | (simp only [k_d, k_c, Nat.reduceAdd, Nat.reduceLeDiff, Nat.reduceLT] <;> fail) | (simp only [k_c]; omega) | (simp only [k_d, k_c, Nat.reduceAdd, Nat.reduceLeDiff, Nat.reduceLT, *] <;> fail) | fail)) only [bl_outriderlaw18_FlowKeys, hlen, lt_t g1, q1, q2, hln, em, c1, c7, bbe, s1, hln1, es, k1, k_a, k_b, Nat.reduceAdd, k_s, k_x, Int.reduceBEq, Int.reduceBNe, Int.reduceLT, Int.reduceLE, Int.reduceGT, Int.reduceGE, Int.reduceNeg]
   ·have s1 := hI.twice h0 ((m + 1 : Nat) : Int)
    rw [s1] at c1 c2
    have d0 : (w == 0) = false := by simp [h0]
    obtain ⟨a'', f', m', w', H', k1, k2, k3⟩ := keys_loop hl hlx r (i + 1) H1 a' f m w g1 g3 (by omega) c3 c2 hI c4 c5 c6
    refine ⟨a'', f', m', w', H', fun j13 => ?_, k2, k3⟩
    rw [ql_outriderlaw18_FlowKeys]
    simp (disch := (first | assumption | omega | (simp only [k_d, k_c, Nat.reduceAdd, Nat.reduceLeDiff, Nat.reduceLT] <;> fail) | (simp only [k_c]; omega) | (simp only [k_d, k_c, Nat.reduceAdd, Nat.reduceLeDiff, Nat.reduceLT, *] <;> fail) | fail)) only [bl_outriderlaw18_FlowKeys, hlen, lt_t g1, q1, q2, hln, em, c1, c7, bbe, d0, es, k1, k_a, k_b, Nat.reduceAdd, k_s, k_x, Int.reduceBEq, Int.reduceBNe, Int.reduceLT, Int.reduceLE, Int.reduceGT, Int.reduceGE, Int.reduceNeg]
theorem flowKeys_c {nx lx : AV} {l : List Bool} {H : Hp} (hR : Rw H 1 lx (bools l)) (hT : hasT H begin0) (hnx : 11 ≤ H.next) : ∃ H', cK (.func (.func 4) [] []) [nx, lx] H = some (.bool true, H') := by
 have hg := Gl.of hT hnx
 have haw := awake_c an hT hnx
 have hlen := hR.len1
 rw [bools_len] at hlen
 by_cases hl : l.length ≤ 30
 ·have d1 : decide ((30 : Int) < (l.length : Int)) = false := decide_eq_false (by omega)
  have o1 := al_out H (evC ⟨1, 0, 0, 0, 0, kD, [], kA⟩) 29 0
  have c1 := al_cs H (evC ⟨1, 0, 0, 0, 0, kD, [], kA⟩) 29 0
  obtain ⟨p, a, H2, n1, n2, n3, n4⟩ := allD_c (hg.out0 o1) c1 good_d
  rw [def_a] at n2
  have n1' : cK (.func (.func 18) [] []) [.slice H.next 0 1 1 true 8] (al H [.int .i64 1, .int .i64 0, .int .i64 0, .int .i64 0, .int .i64 0, .str [100], .str [], .str [97]] 29 0) = some (.ptr p 0, H2) := n1
  have hR2 := (hR.out0 o1).out0 n3
  have hno := o1.1
  obtain ⟨a', f', m', w', H', k1, k2, k3⟩ := keys_loop hl hR.lt l 0 H2 a _ 0 0 (Nat.zero_le _) List.drop_zero (Nat.le_refl _) hR2 n2 ⟨rfl, rfl, rfl, Int.le_refl _⟩ ((hg.out0 o1).out0 n3) (fun j hj => by have := n4 j hj; omega) (by have := n3.1; omega)
  rw [show (((0 : Nat) : Int)) = 0 from rfl] at k1
  obtain ⟨H3, y1, y2⟩ := key_c k2 kD kK
  rw [k3.get] at y1
  have y1' : cK (.func (.func 20) [] []) [.ptr p 0, .str [100], .str [107, 101, 121]] H' = some (.tuple [.int .i64 w', .bool (decide (0 < w'))], H3) := by
   refine y1.trans ?_
   by_cases h0 : w' = 0
   ·rw [if_pos h0, h0]; rfl
   ·rw [if_neg h0, decide_eq_true (by have := k3.w; omega : 0 < w')]; rfl
  have bbe : ∀ b : Bool, (b == b) = true := fun b => by cases b <;> rfl
  refine ⟨H3, c_outriderlaw18_FlowKeys ?_⟩
  unfold s_outriderlaw18_FlowKeys
  simp (disch := (first | assumption | omega | (simp only [k_d, k_c, Nat.reduceAdd, Nat.reduceLeDiff, Nat.reduceLT] <;> fail) | (simp only [k_c]; omega) | (simp only [k_d, k_c, Nat.reduceAdd, Nat.reduceLeDiff, Nat.reduceLT, *] <;> fail) | fail)) only [haw, hlen, d1, n1', k1, y1', bbe, k_a, k_b, Nat.reduceAdd, k_s, k_x, Int.reduceBEq, Int.reduceBNe, Int.reduceLT, Int.reduceLE, Int.reduceGT, Int.reduceGE, Int.reduceNeg]
 ·have d1 : decide ((30 : Int) < (l.length : Int)) = true := decide_eq_true (by omega)
  refine ⟨H, c_outriderlaw18_FlowKeys ?_⟩
  unfold s_outriderlaw18_FlowKeys
  simp (disch := (first | assumption | omega | (simp only [k_d, k_c, Nat.reduceAdd, Nat.reduceLeDiff, Nat.reduceLT] <;> fail) | (simp only [k_c]; omega) | (simp only [k_d, k_c, Nat.reduceAdd, Nat.reduceLeDiff, Nat.reduceLT, *] <;> fail) | fail)) only [haw, hlen, d1, k_a, k_b, Nat.reduceAdd, k_s, k_x, Int.reduceBEq, Int.reduceBNe, Int.reduceLT, Int.reduceLE, Int.reduceGT, Int.reduceGE, Int.reduceNeg]
theorem keys_top {H : Hp} {as' : List AV} {ds : List D} (h : ArgsIs H [.int .i64, .slice 1 .bool] as' ds) (hT : hasT H begin0) (hn : 11 ≤ H.next) : ∃ H', cK (.func (.func 4) [] []) as' H = some (.bool true, H') := by
 cases h with
 | cons h0 h =>
 cases h with
 | cons h1 h =>
 cases h
 obtain ⟨l, hl⟩ := bools_of (isA_row h1)
 exact flowKeys_c hl hT hn
end Go.Proofs.YtkhhnpkmblldbaaGreatDoor.DfK
namespace Go.Proofs.YtkhhnpkmblldbaaGreatDoor.Hand
open Go
set_option linter.unusedVariables false
theorem size_open {P : Program} {w : World} (h : w.ShapedOpen P) {g : Nat} (hg : g + 1 = P.globals.size) (hr : (((begin P (fun _ _ => 0) default).world.heap[g]?).bind Obj.row?).isSome = true) : P.globals.size ≤ w.heap.size := by
 obtain ⟨⟨zero, t⟩, hr⟩ := Option.isSome_iff_exists.1 hr
 obtain ⟨cs, hc, _⟩ := h.1 g zero t (by omega) hr
 have := (Array.getElem?_eq_some_iff.1 hc).1
 omega
variable {H : Type} {enc : TypeId × Value → H}
theorem handed {a : Assume} {C : Checked} {os : Os} {f : FuncId} {fn : Func} {s : ChangeSpec} {conds : List PathCond} {apart fresh handsOn again : Bool} {X : World → Array Value → Prop} {g : Nat}
  (hg : g + 1 = C.prog.globals.size) (hr : (((begin C.prog (fun _ _ => 0) default).world.heap[g]?).bind Obj.row?).isSome = true)
  (hX : ∀ (w w' : World) (args : Array Value), w.heap = w'.heap → X w args → X w' args)
  (own : ownKnob C.prog.godebug = none) (started : os.Started) (noInit : C.prog.inits.idxOf? f = none) (hfn : C.prog.funcs[f]? = some fn)
  (witness : ∃ (w : World) (tape : Tape) (i : Input), w.os = os ∧ (w.forCall tape i).Shaped C.prog ∧ i.vars = [] ∧ Input.okWide C.prog (w.forCall tape i) .any w.heap.size f i ∧
   ((s.pre enc C.prog fn conds apart (w.forCall tape i).memory i.args ∧ X (w.forCall tape i).memory i.args) ∧ sizedMet enc C.prog fn (OpenSpec.ofChange s) apart (w.forCall tape i).memory i.args) ∧ a.holds C.prog (lone (Frame.enter C.prog f i.args .normal) [] (w.forCall tape i)))
  (contract : ∀ (W : World) (base : Nat) (args : Array Value) (ds gs : List (DataW H)) (before : List MemPlace), C.prog.globals.size ≤ W.heap.size →
   (∀ (j : Nat) t v, fn.params[j]? = some t → args[j]? = some v → Value.okWide C.prog W .any base t v) →
   DataW.Whole enc C.prog fn.params.toList s.vars apart W args.toList ds gs before →
   conds.all (PathCond.test C.prog ⟨fn.params.toList, ds, s.plain.varTypes C.prog, gs⟩) = true →
   (DataW.weightsEach C.prog (fn.params.toList ++ s.plain.varTypes C.prog) (ds ++ gs)).all (· ≤ reachBytes) = true → X W args →
   a.holds C.prog (lone (Frame.enter C.prog f args .normal) [] W) →
   Calls C.prog f args W fun e W' => ∃ v, e = .returned v ∧ s.post enc C.prog fn apart fresh handsOn again W args v W') :
  ReturnsInHanded a C os f .any (fun w args => (s.pre enc C.prog fn conds apart w args ∧ X w args) ∧ sizedMet enc C.prog fn (OpenSpec.ofChange s) apart w args) (s.post enc C.prog fn apart fresh handsOn again) :=
 returnsInHanded_of_calls own started noInit witness fun w tape i _ hsh _ hok hpre hholds => by
  obtain ⟨_, _, _, fn', hfn', _, _, _, _, hval⟩ := hok
  obtain rfl : fn' = fn := Option.some.inj (hfn'.symm.trans hfn)
  obtain ⟨⟨⟨ds, gs, before, hw, hc⟩, hx⟩, hz⟩ := hpre
  refine (contract (w.forCall tape i) w.heap.size i.args ds gs before (size_open hsh hg hr) hval (DataW.Whole.of_heap (w' := w.forCall tape i) (by rfl) hw) hc (hz.weights hw) (hX _ _ _ (by rfl) hx) hholds).mono fun e W' hp => ?_
  obtain ⟨v, rfl, hp⟩ := hp
  exact ChangeSpec.post_blind hp
end Go.Proofs.YtkhhnpkmblldbaaGreatDoor.Hand
