/- What def.Show does, and what layer 12 compares by, as contracts over the symbolic heap. Conditions: as each states them; the listed variables hold what the row says. -/
import Derived.Test.YthljbjokonglhaaGreatDoorDfP
namespace Go.Proofs.YthljbjokonglhaaGreatDoor.DfK
open Go Am Am.K DfEnv DfM LibP DfG
set_option linter.unusedVariables false
set_option linter.unusedSimpArgs false
set_option maxRecDepth 10000
set_option maxHeartbeats 1000000
theorem sameS_i (k : IntKind) (a : Int) : sameS (.int k a) (.int k a) = true := by cases k <;> simp [sameS]
theorem sameS_s (s : Str) : sameS (.str s) (.str s) = true := by simp [sameS]
theorem sameS_rw {H : Hp} {es : Nat} {x : AV} {l : List AV} (h : Rw H es x l) : sameS x x = true := by
  cases h <;> simp [sameS]
theorem sameL_all : ∀ {l : List AV}, (∀ v ∈ l, sameS v v = true) → sameL l l = true
  | [], _ => rfl
  | a :: l, h => by
    unfold sameL
    rw [h a (.head _), sameL_all fun v hv => h v (.tail _ hv)]; rfl
theorem same_i (k : IntKind) (a : Int) : same (.int k a) (.int k a) = true := by cases k <;> simp [same, sameS]
theorem same_tk {H : Hp} {es : Nat} {t : Tk} {x : AV} {l : List AV} (h : Rw H es x l) : same (.agg (tkC t x)) (.agg (tkC t x)) = true := by
  show sameL _ _ = true
  refine sameL_all fun v hv => ?_
  simp only [tkC, List.mem_cons, List.not_mem_nil, or_false] at hv
  rcases hv with rfl | rfl | rfl | rfl | rfl | rfl
  · exact sameS_s _
  · exact sameS_rw h
  · exact sameS_i _ _
  · exact sameS_i _ _
  · exact sameS_i _ _
  · exact sameS_s _
theorem same_dv {H : Hp} {es : Nat} {x : AV} {l : List AV} (h : Rw H es x l) : same (.agg [x]) (.agg [x]) = true := by
  show sameL _ _ = true
  refine sameL_all fun v hv => ?_
  rw [List.mem_singleton] at hv; subst hv
  exact sameS_rw h
/-! def.told -/
theorem told_c {key : Str} {n p : Int} (hk : key.length ≤ 100) (h0 : 0 ≤ n) (h1 : n ≤ 1000) {H : Hp} (hg : Gl H) : ∃ H', cK (.func (.func 30) [] []) [.str key, .int .i64 n, .int .i64 p] H = some (.str (toldM key n p), H') ∧ Out [] H H' := by
  by_cases he : n = p
  · have d : (n == p) = true := beq_iff_eq.2 he
    refine ⟨H, c_def_told ?_, Out.refl _ _⟩
    unfold s_def_told toldM
    simp only [d, if_pos he, k_s, k_x, Int.reduceBEq, Int.reduceBNe, Int.reduceLT, Int.reduceLE, Int.reduceGT, Int.reduceGE, Int.reduceNeg]
  · have d : (n == p) = false := beq_eq_false_iff_ne.2 he
    obtain ⟨H', i1, i2⟩ := itoa_c (n := n) (by omega) (by omega) hg
    have hl := (dec_num h0 h1).2.1
    have hs := scat_s (a := key) (b := dec n) (by omega)
    refine ⟨H', c_def_told ?_, i2⟩
    unfold s_def_told toldM
    simp only [d, if_neg he, i1, hs, k_s, k_x, Int.reduceBEq, Int.reduceBNe, Int.reduceLT, Int.reduceLE, Int.reduceGT, Int.reduceGE, Int.reduceNeg]
theorem toldM_len {key : Str} {n p : Int} (h0 : 0 ≤ n) (h1 : n ≤ 1000) : (toldM key n p).length ≤ key.length + 4 := by
  unfold toldM
  split
  · simp
  · have := (dec_num h0 h1).2.1
    rw [List.length_append]; omega
/-! def.Show -/
theorem nm_len {ts : List Tk} (hF : Fit ts) {a : Int} (h0 : 0 ≤ a) (h1 : a ≤ (ts.length : Int) - 1) : (nmAt ts a).length ≤ 16 := (hF.nm _ (nmAt_get h0 h1).2).2.1
theorem show1_loop {ts : List Tk} {dx : AV} {xs : List AV} {D : Nat} {l : List Int} {lx x36 x38 x39 x40 x35 : AV} {H : Hp} (hF : Fit ts) (hl : l.length ≤ 16) (ha : ∀ a ∈ l, 0 ≤ a ∧ a ≤ (ts.length : Int) - 1) (hlx : Rw H 1 lx (ints l)) (hD : cellAt H D 0 = some dx) (hR : RD H dx xs ts) (j10 : K.Fn 1) (j20 : K.Fn 5) (j32 : K.Fn 7) :
    ∀ (r : List Int) (k : Nat) (s : Str), k ≤ l.length → l.drop k = r → s.length ≤ 100 + 100 * k →
    l_def_Show1 JN GO cK j10 j20 j32 (.ptr D 0) x35 x36 (.str s) x38 x39 x40 lx (.int .i64 (l.length : Nat)) (.int .i64 (k : Nat)) H = j32 (.ptr D 0) x35 x36 (.str (s ++ sfx ts (k == 0) r)) x38 x39 x40 H
  | [], k, s, hk, h, hs => by
    obtain rfl := drop_nil hk h
    rw [ql_def_Show1]
    simp only [bl_def_Show1, lt_f, sfx, List.append_nil, k_s, k_x, Int.reduceBEq, Int.reduceBNe, Int.reduceLT, Int.reduceLE, Int.reduceGT, Int.reduceGE, Int.reduceNeg]
  | a :: r, k, s, hk, h, hs => by
    obtain ⟨h1, h2, h3⟩ := hd_drop h
    obtain ⟨q, q1, q2⟩ := hlx.ia1 (ints_get h2) .i64
    have es := wrap_s h1 (by omega)
    obtain ⟨a0, a1⟩ := ha a (List.mem_of_getElem? h2)
    have hnl := nm_len hF a0 a1
    obtain ⟨m, rfl⟩ : ∃ m : Nat, a = m := ⟨a.toNat, by omega⟩
    have hm : ts[m]? = some (ts[m]'(by omega)) := List.getElem?_eq_getElem (by omega)
    obtain ⟨x, b, o, g0, g1, g2, g3, g4, g5, g6⟩ := hR.at hm
    have hnm : (ts[m]'(by omega)).name = nmAt ts (m : Int) := by
      have := (nmAt_get a0 a1).1
      unfold names at this
      rw [Int.toNat_natCast, List.getElem?_map, hm] at this
      simpa using this
    rw [hnm] at g6
    cases k with
    | zero =>
      have s1 := scat_s (a := s) (b := [32, 97, 102, 116, 101, 114, 61]) (by simp; omega)
      have s2 := scat_s (a := s ++ [32, 97, 102, 116, 101, 114, 61]) (b := nmAt ts (m : Int)) (by simp; omega)
      have ih := show1_loop (x35 := x35) (x36 := x36) (x38 := x38) (x39 := x39) (x40 := x40) hF hl ha hlx hD hR j10 j20 j32 r 1 (s ++ [32, 97, 102, 116, 101, 114, 61] ++ nmAt ts (m : Int)) (by omega) h3 (by simp; omega)
      have e : s ++ sfx ts ((0 : Nat) == 0) ((m : Int) :: r) = s ++ [32, 97, 102, 116, 101, 114, 61] ++ nmAt ts (m : Int) ++ sfx ts ((1 : Nat) == 0) r := by simp [sfx]
      have d0 : (((0 : Nat) : Int) == 0) = true := rfl
      rw [e, ql_def_Show1]
      simp (disch := (first | assumption | omega | (simp only [k_d, k_c, Nat.reduceAdd, Nat.reduceLeDiff, Nat.reduceLT] <;> fail) | (simp only [k_c]; omega) | (simp only [k_d, k_c, Nat.reduceAdd, Nat.reduceLeDiff, Nat.reduceLT, *] <;> fail) | fail)) only [bl_def_Show1, lt_t h1, q1, q2, d0, s1, hD, g3, g6, s2, es, ih, k_a, k_b, Nat.reduceAdd, k_s, k_x, Int.reduceBEq, Int.reduceBNe, Int.reduceLT, Int.reduceLE, Int.reduceGT, Int.reduceGE, Int.reduceNeg]
    | succ k =>
      have s1 := scat_s (a := s) (b := [44]) (by simp; omega)
      have s2 := scat_s (a := s ++ [44]) (b := nmAt ts (m : Int)) (by simp; omega)
      have ih := show1_loop (x35 := x35) (x36 := x36) (x38 := x38) (x39 := x39) (x40 := x40) hF hl ha hlx hD hR j10 j20 j32 r (k + 1 + 1) (s ++ [44] ++ nmAt ts (m : Int)) (by omega) h3 (by simp; omega)
      have e : s ++ sfx ts ((k + 1) == 0) ((m : Int) :: r) = s ++ [44] ++ nmAt ts (m : Int) ++ sfx ts ((k + 1 + 1) == 0) r := by simp [sfx]
      have d0 : (((k + 1 : Nat) : Int) == 0) = false := beq_false_of_ne (by omega)
      rw [e, ql_def_Show1]
      simp (disch := (first | assumption | omega | (simp only [k_d, k_c, Nat.reduceAdd, Nat.reduceLeDiff, Nat.reduceLT] <;> fail) | (simp only [k_c]; omega) | (simp only [k_d, k_c, Nat.reduceAdd, Nat.reduceLeDiff, Nat.reduceLT, *] <;> fail) | fail)) only [bl_def_Show1, lt_t h1, q1, q2, d0, s1, hD, g3, g6, s2, es, ih, k_a, k_b, Nat.reduceAdd, k_s, k_x, Int.reduceBEq, Int.reduceBNe, Int.reduceLT, Int.reduceLE, Int.reduceGT, Int.reduceGE, Int.reduceNeg]
theorem sfx_le {ts : List Tk} (hF : Fit ts) : ∀ {l : List Int} (f : Bool), (∀ a ∈ l, 0 ≤ a ∧ a ≤ (ts.length : Int) - 1) → (sfx ts f l).length ≤ 23 * l.length
  | [], f, _ => by simp [sfx]
  | a :: r, f, h => by
    obtain ⟨h0, h1⟩ := h a (.head _)
    have := nm_len hF h0 h1
    have ih := sfx_le hF (l := r) false fun b hb => h b (.tail _ hb)
    cases f <;> simp [sfx] <;> omega
theorem showT_len {ts : List Tk} (hF : Fit ts) {t : Tk} (ht : t ∈ ts) : (t.name ++ sfx ts true t.after).length ≤ 400 ∧ (showT ts t).length ≤ 600 := by
  obtain ⟨n1, n2, n3, n4, n5, n6⟩ := hF.num t ht
  obtain ⟨a1, a2⟩ := hF.aft t ht
  have b1 := (hF.nm _ (List.mem_map.2 ⟨t, ht, rfl⟩)).2.1
  have b2 := sfx_le hF true a1
  have c1 := toldM_len (key := [32, 114, 101, 116, 114, 121, 61]) (p := 0) n1 (by omega)
  have c2 := toldM_len (key := [32, 119, 97, 105, 116, 61]) (p := 10) (show 0 ≤ t.wait by omega) n4
  have c3 := toldM_len (key := [32, 98, 97, 115, 101, 61]) (p := 1) (show 0 ≤ t.base by omega) n6
  have c4 : (if t.on = [] then [] else [32, 111, 110, 61] ++ t.on).length ≤ 20 := by
    split
    · simp
    · rcases hF.on t ht with q | q
      · contradiction
      · simp; omega
  simp only [List.length_cons, List.length_nil] at c1 c2 c3
  refine ⟨by rw [List.length_append]; omega, ?_⟩
  unfold showT
  simp only [List.length_append] at c4 ⊢
  omega
theorem show_loop {ts : List Tk} {dx : AV} {xs : List AV} {D : Nat} (hF : Fit ts) (hn : ts.length ≤ 16) (hD11 : 11 ≤ D) :
    ∀ (r : List Tk) (i : Nat) (H : Hp) (lx : AV), i ≤ ts.length → ts.drop i = r → Gl H → cellAt H D 0 = some dx → D < H.next → RD H dx xs ts → Ow H 9 1 lx (strs ((ts.take i).map (showT ts))) → (∀ j ∈ rid lx, j ≠ D ∧ j ∉ fpD dx xs ∧ 11 ≤ j) →
    ∃ lx' H', (∀ j10 : K.Fn 1, l_def_Show JN GO cK j10 (.ptr D 0) lx dx (.int .i64 (ts.length : Nat)) (.int .i64 (i : Nat)) H = j10 lx' H') ∧ Rw H' 1 lx' (strs (ts.map (showT ts))) ∧ Out (rid lx) H H'
  | [], i, H, lx, hi, h, hg, hD, hDl, hR, hO, hd => by
    obtain rfl := drop_nil hi h
    refine ⟨lx, H, fun j10 => ?_, by rw [List.take_length] at hO; exact hO.rw, Out.refl _ _⟩
    rw [ql_def_Show]
    simp only [bl_def_Show, lt_f, k_s, k_x, Int.reduceBEq, Int.reduceBNe, Int.reduceLT, Int.reduceLE, Int.reduceGT, Int.reduceGE, Int.reduceNeg]
  | t :: r, i, H, lx, hi, h, hg, hD, hDl, hR, hO, hd => by
    obtain ⟨h1, h2, h3⟩ := hd_drop h
    have ht := List.mem_of_getElem? h2
    obtain ⟨x, b, o, q0, q1, q2, q3, q4, q5, q6⟩ := hR.at h2
    have es := wrap_s h1 (by omega)
    obtain ⟨n1, n2, n3, n4, n5, n6⟩ := hF.num t ht
    obtain ⟨a1, a2⟩ := hF.aft t ht
    obtain ⟨e0, e1, e2, e3, e4, e5⟩ := fd_tk t x
    have o1 := al_out H (tkC t x) 43 0
    have cT := al_cs H (tkC t x) 43 0
    have hD1 : cellAt (al H (tkC t x) 43 0) D 0 = some dx := by rw [cellAt_al_ne hDl]; exact hD
    have hR1 := hR.out0 o1
    have hl := q2.len1
    rw [ints_len] at hl
    obtain ⟨l1, l2⟩ := showT_len hF ht
    have hnmL : t.name.length ≤ 16 := (hF.nm _ (List.mem_map.2 ⟨t, ht, rfl⟩)).2.1
    have s1 := fun j10 j20 j32 => show1_loop (x35 := lx) (x36 := .ptr H.next 0) (x38 := dx) (x39 := .int .i64 (ts.length : Nat)) (x40 := .int .i64 (i : Nat)) hF a2 a1 (q2.out0 o1) hD1 hR1 j10 j20 j32 t.after 0 t.name (Nat.zero_le _) List.drop_zero (by omega)
    rw [show (((0 : Nat) : Int)) = 0 from rfl] at s1
    have s1' : ((0 : Nat) == 0) = true := rfl
    rw [s1'] at s1
    have hst := st_tk t x q1 H
    obtain ⟨H2, t1, o2⟩ := told_c (key := [32, 114, 101, 116, 114, 121, 61]) (p := 0) (by decide) n1 (by omega) (hg.out0 o1)
    obtain ⟨H3, t2, o3⟩ := told_c (key := [32, 119, 97, 105, 116, 61]) (p := 10) (by decide) (show 0 ≤ t.wait by omega) n4 (hg.out0 (o1.trans o2))
    obtain ⟨H4, t3, o4⟩ := told_c (key := [32, 98, 97, 115, 101, 61]) (p := 1) (by decide) (show 0 ≤ t.base by omega) n6 (hg.out0 ((o1.trans o2).trans o3))
    have c2 := cT.out o2 (by simp)
    have c3 := c2.out o3 (by simp)
    have c4 := c3.out o4 (by simp)
    have k1 : cellAt (al H (tkC t x) 43 0) H.next 3 = some (.int .i64 t.wait) := cT.cellAt e3
    have k2 : cellAt (al H (tkC t x) 43 0) H.next 4 = some (.int .i64 t.base) := cT.cellAt e4
    have k3 : cellAt H2 H.next 3 = some (.int .i64 t.wait) := c2.cellAt e3
    have k4 : cellAt H2 H.next 4 = some (.int .i64 t.base) := c2.cellAt e4
    have k5 : cellAt H3 H.next 4 = some (.int .i64 t.base) := c3.cellAt e4
    have k6 : cellAt H4 H.next 5 = some (.str t.on) := c4.cellAt e5
    have b1 := toldM_len (key := [32, 114, 101, 116, 114, 121, 61]) (p := 0) n1 (by omega)
    have b2 := toldM_len (key := [32, 119, 97, 105, 116, 61]) (p := 10) (show 0 ≤ t.wait by omega) n4
    have b3 := toldM_len (key := [32, 98, 97, 115, 101, 61]) (p := 1) (show 0 ≤ t.base by omega) n6
    simp only [List.length_cons, List.length_nil] at b1 b2 b3
    have u1 := scat_s (a := toldM [32, 114, 101, 116, 114, 121, 61] t.retry 0) (b := toldM [32, 119, 97, 105, 116, 61] t.wait 10) (by omega)
    have u2 := scat_s (a := toldM [32, 114, 101, 116, 114, 121, 61] t.retry 0 ++ toldM [32, 119, 97, 105, 116, 61] t.wait 10) (b := toldM [32, 98, 97, 115, 101, 61] t.base 1) (by rw [List.length_append]; omega)
    have u3 := scat_s (a := t.name ++ sfx ts true t.after) (b := toldM [32, 114, 101, 116, 114, 121, 61] t.retry 0 ++ toldM [32, 119, 97, 105, 116, 61] t.wait 10 ++ toldM [32, 98, 97, 115, 101, 61] t.base 1) (by simp only [List.length_append] at l1 ⊢; omega)
    have o14 : Out [] H H4 := ((o1.trans o2).trans o3).trans o4
    have hx14 := o14.nx
    have htk : (ts.take (i + 1)).map (showT ts) = (ts.take i).map (showT ts) ++ [showT ts t] := by rw [List.take_add_one, h2]; simp
    obtain ⟨lx1, H5, p1, p2, p3, p4, p5⟩ := push_ok (el2 := 9) (z := [(.str [])]) (vs := [.str (showT ts t)]) (hO.out o14 (by simp)) rfl rfl (by decide) (by simp [strs]; omega)
    have hp2 : strs ((ts.take i).map (showT ts)) ++ [.str (showT ts t)] = strs ((ts.take (i + 1)).map (showT ts)) := by rw [htk]; simp [strs]
    rw [hp2] at p2
    have o5 : Out (rid lx) H H5 := (o14.mono fun j hj => by cases hj).trans p3
    have hn5 := p3.nx
    have hrl := hR.lt
    have hd5 : ∀ j ∈ rid lx1, j ≠ D ∧ j ∉ fpD dx xs ∧ 11 ≤ j := fun j hj => (p4 j hj).elim (hd j) fun z => ⟨by omega, fun y => by have := hrl j y; omega, by omega⟩
    obtain ⟨lx', H', i1, i2, i3⟩ := show_loop hF hn hD11 r (i + 1) H5 lx1 h1 h3 (hg.out o5 fun j hj => (hd j hj).2.2) (by rw [o5.cellAt hDl fun z => (hd D z).1 rfl]; exact hD) (by omega) (hR.out o5 fun j hj z => (hd j z).2.1 hj) p2 hd5
    have p1' := p1 _ rfl
    refine ⟨lx', H', fun j10 => ?_, i2, o5.then i3 fun j hj => (p4 j hj).imp id fun z => by omega⟩
    have hTt : showT ts t = ((t.name ++ sfx ts true t.after) ++ ((toldM [32, 114, 101, 116, 114, 121, 61] t.retry 0 ++ toldM [32, 119, 97, 105, 116, 61] t.wait 10) ++ toldM [32, 98, 97, 115, 101, 61] t.base 1)) ++ (if t.on = [] then [] else [32, 111, 110, 61] ++ t.on) := rfl
    generalize toldM [32, 114, 101, 116, 114, 121, 61] t.retry 0 = T1 at *
    generalize toldM [32, 119, 97, 105, 116, 61] t.wait 10 = T2 at *
    generalize toldM [32, 98, 97, 115, 101, 61] t.base 1 = T3 at *
    generalize t.name ++ sfx ts true t.after = s0 at *
    generalize showT ts t = sT at *
    by_cases hon : t.on = []
    · have d : (t.on == ([] : Str)) = true := by rw [hon]; rfl
      have hsh : s0 ++ (T1 ++ T2 ++ T3) = sT := by
        rw [hTt, if_pos hon, List.append_nil]
      rw [hsh] at u3
      rw [ql_def_Show]
      simp (disch := (first | assumption | omega | (simp only [k_d, k_c, Nat.reduceAdd, Nat.reduceLeDiff, Nat.reduceLT] <;> fail) | (simp only [k_c]; omega) | (simp only [k_d, k_c, Nat.reduceAdd, Nat.reduceLeDiff, Nat.reduceLT, *] <;> fail) | fail)) only [bl_def_Show, lt_t h1, q3, q5, hst, e0, e1, e2, hl, s1, t1, t2, t3, k1, k2, k3, k4, k5, k6, u1, u2, u3, SM_t (same_i _ _), d, p1', es, i1, k_a, k_b, Nat.reduceAdd, k_s, k_x, Int.reduceBEq, Int.reduceBNe, Int.reduceLT, Int.reduceLE, Int.reduceGT, Int.reduceGE, Int.reduceNeg]
    · have d : (t.on == ([] : Str)) = false := by simp [hon]
      have hol : t.on.length ≤ 16 := (hF.on t ht).elim (fun q => absurd q hon) fun q => q.1
      have u4 := scat_s (a := [32, 111, 110, 61]) (b := t.on) (by simp; omega)
      have u5 := scat_s (a := s0 ++ (T1 ++ T2 ++ T3)) (b := [32, 111, 110, 61] ++ t.on) (by simp only [List.length_append, List.length_cons, List.length_nil] at l1 ⊢; omega)
      have hsh : s0 ++ (T1 ++ T2 ++ T3) ++ ([32, 111, 110, 61] ++ t.on) = sT := by
        rw [hTt, if_neg hon]
      rw [hsh] at u5
      rw [ql_def_Show]
      simp (disch := (first | assumption | omega | (simp only [k_d, k_c, Nat.reduceAdd, Nat.reduceLeDiff, Nat.reduceLT] <;> fail) | (simp only [k_c]; omega) | (simp only [k_d, k_c, Nat.reduceAdd, Nat.reduceLeDiff, Nat.reduceLT, *] <;> fail) | fail)) only [bl_def_Show, lt_t h1, q3, q5, hst, e0, e1, e2, hl, s1, t1, t2, t3, k1, k2, k3, k4, k5, k6, u1, u2, u3, u4, u5, SM_t (same_i _ _), d, p1', es, i1, k_a, k_b, Nat.reduceAdd, k_s, k_x, Int.reduceBEq, Int.reduceBNe, Int.reduceLT, Int.reduceLE, Int.reduceGT, Int.reduceGE, Int.reduceNeg]
theorem show_c {ts : List Tk} {dx : AV} {xs : List AV} {H : Hp} (hg : Gl H) (hF : Fit ts) (h1 : 1 ≤ ts.length) (hn : ts.length ≤ 16) (hgood : goodM ts = 0) (hR : RD H dx xs ts) :
    ∃ H', cK (.func (.func 10) [] []) [dv dx] H = some (.str (showM ts), H') ∧ Out [] H H' := by
  have hd1 := hR.row.one
  have hdl := hR.lenx
  have o1 := al_out H [dx] 25 0
  have hgn := hg.nx
  have hc : cellsAt (al H [dx] 25 0) H.next 0 1 = some [dx] := cellsAt_al rfl (by simp)
  obtain ⟨H2, g1, o2⟩ := dgood_c (ts := ts) (by omega) (fun t ht => by have := (hF.aft t ht).2; omega) (hR.out0 o1)
  rw [hgood] at g1
  have hn2 := o2.nx
  rw [al_nx] at hn2
  have hD2 : cellAt H2 H.next 0 = some dx := by rw [o2.cellAt (by rw [al_nx]; omega) (by simp), cellAt_al rfl]; rfl
  have hR2 := (hR.out0 o1).out0 o2
  have hbx : bx 25 (.agg [dx]) H = some (H.next, al H [dx] 25 0) := bx_alA (by simp)
  obtain ⟨lx, H3, l1, l2, l3⟩ := show_loop (D := H.next) hF hn (by omega) ts 0 H2 .slice0 (Nat.zero_le _) List.drop_zero (hg.out0 (o1.trans o2)) hD2 (by omega) hR2 .nil (fun j hj => by cases hj)
  rw [show (((0 : Nat) : Int)) = 0 from rfl] at l1
  have l3' : Out [] H2 H3 := l3
  have hsum : ∀ us : List Tk, (∀ t ∈ us, t ∈ ts) → sumL (us.map (showT ts)) ≤ 600 * us.length := by
    intro us
    induction us with
    | nil => intro _; simp [sumL]
    | cons u us ih =>
      intro h
      have a := ih fun t ht => h t (.tail _ ht)
      have b := (showT_len hF (h u (.head _))).2
      simp only [sumL, List.map_cons, List.sum_cons, List.length_cons] at a ⊢
      omega
  have hs := hsum ts fun t ht => ht
  obtain ⟨H4, j1, j2⟩ := join_c (sep := [59]) rfl l2 (by rw [List.length_map]; omega) (fun s hs => by
    obtain ⟨t, ht, rfl⟩ := List.mem_map.1 hs
    have := (showT_len hF ht).2; omega) (by omega) (fun s hs b hb => by
    rcases List.mem_cons.1 hs with rfl | hs
    · rw [List.mem_singleton] at hb; subst hb; decide
    · obtain ⟨t, ht, rfl⟩ := List.mem_map.1 hs
      exact (showB hF ht b hb).2)
  rw [joiS_c] at j1
  have hsm : showM ts = joi 59 (ts.map (showT ts)) := by unfold showM; rw [if_pos hgood]
  rw [← hsm] at j1
  refine ⟨H4, c_def_Show ?_, ((o1.trans o2).trans l3').trans j2⟩
  have d : ((0 : Int) != 0) = false := rfl
  unfold s_def_Show
  simp (disch := (first | assumption | omega | (simp only [k_d, k_c, Nat.reduceAdd, Nat.reduceLeDiff, Nat.reduceLT] <;> fail) | (simp only [k_c]; omega) | (simp only [k_d, k_c, Nat.reduceAdd, Nat.reduceLeDiff, Nat.reduceLT, *] <;> fail) | fail)) only [hbx, hc, g1, d, hD2, hdl, l1, j1, k_a, k_b, Nat.reduceAdd, k_s, k_x, Int.reduceBEq, Int.reduceBNe, Int.reduceLT, Int.reduceLE, Int.reduceGT, Int.reduceGE, Int.reduceNeg]
end Go.Proofs.YthljbjokonglhaaGreatDoor.DfK
