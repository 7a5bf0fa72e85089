/- What def.Parse does, as a contract over the symbolic heap. Conditions: the listed variables hold what the row says. -/
import Derived.Test.YthljbjokonglhaaGreatDoorDfD5
namespace Go.Proofs.YthljbjokonglhaaGreatDoor.DfK
open Go Am Am.K DfEnv DfM LibP DfG
set_option linter.unusedVariables false
set_option linter.unusedSimpArgs false
set_option maxRecDepth 10000
theorem spl_sum (c : Nat) : ∀ s : Str, sumL (spl c s) + (spl c s).length = s.length + 1
  | [] => rfl
  | b :: s => by
    have ih := spl_sum c s
    unfold spl
    by_cases h : b = c
    · rw [if_pos h]; simp only [sumL, List.map_cons, List.sum_cons, List.length_nil, List.length_cons] at *; omega
    · rw [if_neg h]
      cases hs : spl c s with
      | nil => exact absurd hs (spl_ne c s)
      | cons x y => rw [hs] at ih; simp only [sumL, List.map_cons, List.sum_cons, List.length_cons] at *; omega
abbrev wds (s : Str) : List Str := spl 32 s
abbrev hdw (s : Str) : Str := (wds s).headD []
/-- rows of words, and the names, as they are built -/
structure PS (H : Hp) (rx nx : AV) (rws : List AV) (ps : List Str) : Prop where
  r : Ow H 45 1 rx rws
  n : Ow H 9 1 nx (strs (ps.map hdw))
  len : rws.length = ps.length
  w : ∀ (i : Nat) (wx : AV) (s : Str), rws[i]? = some wx → ps[i]? = some s → Rw H 1 wx (strs (wds s))
  dw : ∀ wx ∈ rws, ∀ j ∈ rid wx, j ∉ rid rx ∧ j ∉ rid nx
  dn : ∀ j ∈ rid rx, j ∉ rid nx
theorem parse_loop {R : AV} {px : AV} {ps : List Str} {B : Nat} (hpl : ps.length ≤ 5000) (hps : ∀ s ∈ ps, s.length ≤ 5000) : ∀ (r : List Str) (i : Nat) (H : Hp) (rx nx : AV) (rws : List AV), i ≤ ps.length → ps.drop i = r → Rw H 1 px (strs ps) → PS H rx nx rws (ps.take i) → (∀ j ∈ rid px, j ∉ rid rx ∧ j ∉ rid nx) → B ≤ H.next → (∀ j, j ∈ rid rx ∨ j ∈ rid nx → B ≤ j) → (∀ wx ∈ rws, ∀ j ∈ rid wx, B ≤ j) →
    ∃ rx' nx' rws' H' S, (∀ j15 : K.Fn 3, l_def_Parse JN GO cK j15 R rx nx px (.int .i64 (ps.length : Nat)) (.int .i64 (i : Nat)) H = j15 R rx' nx' H') ∧ PS H' rx' nx' rws' ps ∧ Out S H H' ∧ (∀ j ∈ S, B ≤ j) ∧ (∀ j, j ∈ rid rx' ∨ j ∈ rid nx' → B ≤ j) ∧ (∀ wx ∈ rws', ∀ j ∈ rid wx, B ≤ j)
  | [], i, H, rx, nx, rws, hi, h, hpx, hP, hd, hB, hr, hw => by
    obtain rfl := drop_nil hi h
    rw [List.take_of_length_le (Nat.le_refl _)] at hP
    refine ⟨rx, nx, rws, H, [], fun j15 => ?_, hP, Out.refl _ _, (fun j hj => by cases hj), hr, hw⟩
    rw [ql_def_Parse]
    simp only [bl_def_Parse, lt_f, k_s, k_x, Int.reduceBEq, Int.reduceBNe, Int.reduceLT, Int.reduceLE, Int.reduceGT, Int.reduceGE, Int.reduceNeg]
  | s :: r, i, H, rx, nx, rws, hi, h, hpx, hP, hd, hB, hr, hw => by
    obtain ⟨h1, h2, h3⟩ := hd_drop h
    obtain ⟨q, q1, q2⟩ := hpx.ia1 (strs_get h2) .i64
    have es := wrap_s h1 (by omega)
    have hsl := hps s (List.mem_of_getElem? h2)
    have htk : ps.take (i + 1) = ps.take i ++ [s] := by rw [List.take_add_one, h2]; rfl
    have hil : (ps.take i).length = i := by rw [List.length_take]; omega
    obtain ⟨wx, H1, s1, s2, s3, s4⟩ := split_c (c := 32) (by decide) (s := s) (by omega) H
    have hn1 := s3.nx
    have hwl := s2.lt
    have hrl := hP.r.rw.lt
    have hnl := hP.n.rw.lt
    -- the words behind the rows
    obtain ⟨rx1, H2, p1, p2, p3, p4, p5⟩ := push_ok (el2 := 45) (z := [.slice0]) (vs := [wx]) (hP.r.out s3 (by simp)) (by simp [s2.one]) rfl (by decide) (by rw [hP.len, hil]; simp; omega)
    have hn2 := p3.nx
    have hw2 : Rw H2 1 wx (strs (wds s)) := s2.out p3 fun j hj z => by have := s4 j hj; have := hrl j z; omega
    have hN2 : Ow H2 9 1 nx (strs ((ps.take i).map hdw)) := (hP.n.out s3 (by simp)).out p3 fun j hj z => hP.dn j z hj
    -- its first one behind the names
    obtain ⟨w0, w1, hw01⟩ : ∃ a b, wds s = a :: b := by
      cases hs : wds s with
      | nil => exact absurd hs (spl_ne 32 s)
      | cons a b => exact ⟨a, b, rfl⟩
    obtain ⟨y, y1, y2⟩ := hw2.ia1 (i := 0) (v := .str w0) (by rw [hw01]; rfl) .i64
    rw [show (((0 : Nat) : Int)) = 0 from rfl] at y1
    obtain ⟨nx1, H3, n1, n2, n3, n4, n5⟩ := push_ok (el2 := 9) (z := [.str []]) (vs := [.str w0]) hN2 rfl rfl (by decide) (by rw [strs_len, List.length_map, hil]; simp; omega)
    have hn3 := n3.nx
    have hh : hdw s = w0 := by show (wds s).headD [] = w0; rw [hw01]; rfl
    have hn2' : strs ((ps.take i).map hdw) ++ [.str w0] = strs ((ps.take (i + 1)).map hdw) := by rw [htk, List.map_append, strs_app, List.map_cons, List.map_nil, hh]; rfl
    rw [hn2'] at n2
    have p1' := p1 _ rfl
    have n1' := n1 _ rfl
    -- who is where
    have hrx1 : ∀ j ∈ rid rx1, j ∈ rid rx ∨ H1.next ≤ j := p4
    have hnx1 : ∀ j ∈ rid nx1, j ∈ rid nx ∨ H2.next ≤ j := n4
    have hrx1l : ∀ j ∈ rid rx1, j < H2.next := p2.rw.lt
    have hwold : ∀ wy ∈ rws, ∀ j ∈ rid wy, j < H.next := fun wy hwy j hj => by
      obtain ⟨k, hk⟩ := List.getElem?_of_mem hwy
      have hkl := (List.getElem?_eq_some_iff.1 hk).1
      rw [hP.len] at hkl
      exact (hP.w k wy _ hk (List.getElem?_eq_getElem hkl)).lt j hj
    have o2 : Out (rid rx) H H2 := (s3.mono fun j hj => by cases hj).trans p3
    have o3 : Out (rid rx ++ rid nx) H H3 := (o2.mono fun j hj => List.mem_append_left _ hj).trans (n3.mono fun j hj => List.mem_append_right _ hj)
    have hP3 : PS H3 rx1 nx1 (rws ++ [wx]) (ps.take (i + 1)) := by
      refine ⟨p2.out n3 fun j hj z => ?_, n2, by rw [List.length_append, hP.len, htk, List.length_append]; rfl, fun k wy t hk ht => ?_, fun wy hwy j hj => ?_, fun j hj z => ?_⟩
      · rcases hrx1 j hj with y | y
        · exact hP.dn j y z
        · have := hnl j z; omega
      · rw [htk] at ht
        by_cases hki : k < i
        · rw [List.getElem?_append_left (by rw [hP.len, hil]; exact hki)] at hk
          rw [List.getElem?_append_left (by rw [hil]; exact hki)] at ht
          have hm := List.mem_of_getElem? hk
          exact (hP.w k wy t hk ht).out o3 fun j hj z => (List.mem_append.1 z).elim (hP.dw wy hm j hj).1 (hP.dw wy hm j hj).2
        · have hk2 := (List.getElem?_eq_some_iff.1 ht).1
          rw [List.length_append, hil] at hk2
          obtain rfl : k = i := by simp at hk2; omega
          rw [List.getElem?_append_right (by rw [hP.len, hil]; exact Nat.le_refl _), hP.len, hil, Nat.sub_self] at hk
          rw [List.getElem?_append_right (by rw [hil]; exact Nat.le_refl _), hil, Nat.sub_self] at ht
          cases hk; cases ht
          exact hw2.out n3 fun j hj z => by have := s4 j hj; have := hnl j z; omega
      · rcases List.mem_append.1 hwy with hwy | hwy
        · have hjo := hwold wy hwy j hj
          exact ⟨fun z => (hrx1 j z).elim (hP.dw wy hwy j hj).1 fun y => by omega, fun z => (hnx1 j z).elim (hP.dw wy hwy j hj).2 fun y => by omega⟩
        · rw [List.mem_singleton] at hwy
          subst hwy
          have := s4 j hj
          have := hwl j hj
          exact ⟨fun z => (hrx1 j z).elim (fun y => by have := hrl j y; omega) fun y => by omega, fun z => (hnx1 j z).elim (fun y => by have := hnl j y; omega) fun y => by omega⟩
      · rcases hnx1 j z with y | y
        · rcases hrx1 j hj with x | x
          · exact hP.dn j x y
          · have := hnl j y; omega
        · have := hrx1l j hj; omega
    have hpxl := hpx.lt
    obtain ⟨rx', nx', rws', H', S, i1, i2, i3, i4, i5, i6⟩ := parse_loop (R := R) (B := B) hpl hps r (i + 1) H3 rx1 nx1 (rws ++ [wx]) h1 h3 (hpx.out o3 fun j hj z => (List.mem_append.1 z).elim (hd j hj).1 (hd j hj).2) hP3 (fun j hj => ⟨fun z => (hrx1 j z).elim (hd j hj).1 fun y => by have := hpxl j hj; omega, fun z => (hnx1 j z).elim (hd j hj).2 fun y => by have := hpxl j hj; omega⟩) (by omega) (fun j hj => by
      rcases hj with hj | hj
      · exact (hrx1 j hj).elim (fun z => hr j (.inl z)) fun z => by omega
      · exact (hnx1 j hj).elim (fun z => hr j (.inr z)) fun z => by omega) (fun wy hwy j hj => by
      rcases List.mem_append.1 hwy with hwy | hwy
      · exact hw wy hwy j hj
      · rw [List.mem_singleton] at hwy; subst hwy; have := s4 j hj; omega)
    refine ⟨rx', nx', rws', H', (rid rx ++ rid nx) ++ S, fun j15 => ?_, i2, (o3.mono fun j hj => List.mem_append_left _ hj).trans (i3.mono fun j hj => List.mem_append_right _ hj), fun j hj => ?_, i5, i6⟩
    · have hwx1 := s2.one
      rw [ql_def_Parse]
      simp (disch := (first | assumption | omega | (simp only [k_d, k_c, Nat.reduceAdd, Nat.reduceLeDiff, Nat.reduceLT] <;> fail) | (simp only [k_c]; omega) | (simp only [k_d, k_c, Nat.reduceAdd, Nat.reduceLeDiff, Nat.reduceLT, *] <;> fail) | fail)) only [bl_def_Parse, lt_t h1, q1, q2, s1, p1', y1, y2, n1', es, i1, k_a, k_b, Nat.reduceAdd, k_s, k_x, Int.reduceBEq, Int.reduceBNe, Int.reduceLT, Int.reduceLE, Int.reduceGT, Int.reduceGE, Int.reduceNeg]
    · rcases List.mem_append.1 hj with hj | hj
      · exact hr j (List.mem_append.1 hj)
      · exact i4 j hj
/-- all tasks, by their words -/
noncomputable def tsM (names : List Str) : List Str → Option (List Tk)
  | [] => some []
  | s :: r => match taskM names (wds s) with
    | none => none
    | some t => (tsM names r).map fun l => t :: l
noncomputable def parseM (text : Str) : List Tk × Int :=
  if 1024 < text.length then ([], 14) else match tsM ((spl 59 text).map hdw) (spl 59 text) with
    | none => ([], 2)
    | some ts => if goodM ts = 0 then (ts, 0) else ([], goodM ts)
theorem tkM_len {names : List Str} : ∀ {r : List Str} {t t' : Tk} {ks : List Str}, tkM names r t ks = some t' → t'.after.length ≤ t.after.length + sumL r + r.length
  | [], t, t', ks, h => by cases h; simp [sumL]
  | s :: r, t, t', ks, h => by
    unfold tkM at h
    split at h
    · cases h
    · split at h
      · cases h
      · split at h
        · cases h
        · rename_i t1 h1
          have h2 := setM_len h1
          have h3 := tkM_len h
          have := (cut_len 61 s).2
          have hs : sumL (s :: r) = s.length + sumL r := by simp [sumL]
          rw [hs]; simp only [List.length_cons]; omega
theorem taskM_len {names : List Str} {s : Str} {t : Tk} (h : taskM names (wds s) = some t) : t.after.length ≤ s.length + 1 := by
  unfold taskM at h
  have h1 := tkM_len h
  have h2 : sumL (wds s) + (wds s).length = s.length + 1 := spl_sum 32 s
  have h3 : sumL (wds s).tail + (wds s).tail.length ≤ sumL (wds s) + (wds s).length := by
    cases wds s with
    | nil => simp
    | cons a b => simp [sumL]; omega
  simp only [List.length_nil] at h1
  omega
theorem tsM_len {names : List Str} : ∀ {r : List Str} {ts : List Tk}, tsM names r = some ts → ts.length = r.length ∧ ∀ B, (∀ s ∈ r, s.length ≤ B) → ∀ t ∈ ts, t.after.length ≤ B + 1
  | [], ts, h => by cases h; exact ⟨rfl, fun B _ t ht => by cases ht⟩
  | s :: r, ts, h => by
    unfold tsM at h
    split at h
    · cases h
    · rename_i t ht
      rw [Option.map_eq_some_iff] at h
      obtain ⟨l, h1, rfl⟩ := h
      obtain ⟨i1, i2⟩ := tsM_len h1
      refine ⟨by simp [i1], fun B hB u hu => ?_⟩
      rcases List.mem_cons.1 hu with rfl | hu
      · have := taskM_len ht
        have := hB s (.head _)
        omega
      · exact i2 B (fun s hs => hB s (.tail _ hs)) u hu
theorem RD.nil (H : Hp) : RD H .slice0 [] [] := ⟨rfl, RL.nil H 6, fun i x t h => by simp at h⟩
theorem parse1_loop {nx rx : AV} {rws : List AV} {ps : List Str} {R D : Nat} (hpl : ps.length ≤ 2000) (hps : ∀ s ∈ ps, s.length ≤ 1100) (hRD : R ≠ D) : ∀ (r : List Str) (i : Nat) (H : Hp) (dx : AV) (xs : List AV) (ts : List Tk), i ≤ ps.length → ps.drop i = r → Gl H → 11 ≤ D → (∀ j ∈ rid dx, 11 ≤ j) → PS H rx nx rws ps → Cs H R [.slice0] 25 0 → Cs H D [dx] 25 0 → OL H 43 6 dx (List.zipWith tkC ts xs) → RD H dx xs ts → ts.length = i → (∀ x ∈ xs, ∀ j ∈ rid x, j ∉ rid dx ∧ j ≠ D) → D ∉ rid dx → (∀ j, j ∈ rid rx ∨ j ∈ rid nx ∨ (∃ wx ∈ rws, j ∈ rid wx) ∨ j = R → j ∉ rid dx ∧ j ≠ D) →
    ∃ H' S, Out S H H' ∧ (∀ j ∈ S, j = D ∨ j = R ∨ j ∈ rid dx ∨ H.next ≤ j) ∧ ((∃ dx' xs' l, tsM (ps.map hdw) r = some l ∧ (∀ j71 : K.Fn 2, l_def_Parse1 JN GO cK j71 (.ptr R 0) nx (.ptr D 0) rx (.int .i64 (ps.length : Nat)) (.int .i64 (i : Nat)) H = j71 (.ptr R 0) (.ptr D 0) H') ∧ Cs H' D [dx'] 25 0 ∧ Cs H' R [.slice0] 25 0 ∧ RD H' dx' xs' (ts ++ l) ∧ ∀ j ∈ fpD dx' xs', j ∈ fpD dx xs ∨ H.next ≤ j) ∨
      (tsM (ps.map hdw) r = none ∧ ∀ j71 : K.Fn 2, l_def_Parse1 JN GO cK j71 (.ptr R 0) nx (.ptr D 0) rx (.int .i64 (ps.length : Nat)) (.int .i64 (i : Nat)) H = some (.tuple [.agg [.slice0], .int .i64 2], H')))
  | [], i, H, dx, xs, ts, hi, h, hg, hD11, hdx11, hP, hR, hD, hO, hT, htl, hxd, hDd, hd => by
    obtain rfl := drop_nil hi h
    refine ⟨H, [], Out.refl _ _, (fun j hj => by cases hj), .inl ⟨dx, xs, [], rfl, fun j71 => ?_, hD, hR, by simpa using hT, fun j hj => .inl hj⟩⟩
    rw [ql_def_Parse1]
    simp only [bl_def_Parse1, lt_f, k_s, k_x, Int.reduceBEq, Int.reduceBNe, Int.reduceLT, Int.reduceLE, Int.reduceGT, Int.reduceGE, Int.reduceNeg]
  | s :: r, i, H, dx, xs, ts, hi, h, hg, hD11, hdx11, hP, hR, hD, hO, hT, htl, hxd, hDd, hd => by
    obtain ⟨h1, h2, h3⟩ := hd_drop h
    have es := wrap_s h1 (by omega)
    have hsl := hps s (List.mem_of_getElem? h2)
    have hri : rws[i]? = some (rws[i]'(by rw [hP.len]; exact h1)) := List.getElem?_eq_getElem _
    generalize hwx : rws[i]'(by rw [hP.len]; exact h1) = wx at hri
    have hwm := List.mem_of_getElem? hri
    have hw := hP.w i wx s hri h2
    obtain ⟨q, q1, q2⟩ := hP.r.rw.ia1 hri .i64
    have hsum := spl_sum 32 s
    have hwl : (wds s).length ≤ 5000 := by have : (wds s).length = (spl 32 s).length := rfl; omega
    have hws : ∀ a ∈ wds s, a.length ≤ 80000 := fun a ha => by have := (spl_mem ha).2.2; omega
    obtain ⟨H1, t1, t2⟩ := task_c (names := ps.map hdw) hg (by rw [List.length_map]; omega) (spl_ne 32 s) hwl hws (by show sumL (spl 32 s) + (spl 32 s).length ≤ _; omega) hP.n.rw hw
    have hn1 := t1.nx
    have hgn := hg.nx
    unfold tsM
    rcases t2 with ⟨t, x, u1, u2, u3, u4⟩ | ⟨u1, v, u2, u3, u4⟩
    · rw [u1]
      simp only
      have hx1 := u3.one
      have htlen := taskM_len u1
      have hst0 : st 6 (.ptr H1.next 0) (.agg (tkC t x)) (al H1 [(.str []), .slice0, (.int .i64 0), (.int .i64 0), (.int .i64 0), (.str [])] 43 0) = some (al H1 (tkC t x) 43 0) := st_tk t x hx1 H1
      have o2 := al_out H1 (tkC t x) 43 0
      have o12 : Out [] H (al H1 (tkC t x) 43 0) := t1.trans o2
      have hDlt := hD.1
      have hDc : cellAt (al H1 (tkC t x) 43 0) D 0 = some dx := (hD.out o12 (by simp)).cellAt rfl
      obtain ⟨dx1, H2, p1, p2, p3, p4, p5⟩ := (hO.out o12 (by simp)).push (el2 := 43) (z := [(.str []), .slice0, (.int .i64 0), (.int .i64 0), (.int .i64 0), (.str [])]) (vs := tkC t x) (by simp [tkC, oneC_s, oneC_i, hx1]) rfl (by decide) (by rw [List.length_zipWith, hT.len, Nat.min_self]; omega)
      have hn2 := p3.nx
      rw [al_nx] at hn2
      have hDD := (hD.out o12 (by simp)).out p3 hDd
      obtain ⟨H3, w1, w2, w3, w4⟩ := st1 hDD (by decide) (o := 0) (by simp) (v := dx1) p5
      have hzw : List.zipWith tkC ts xs ++ [tkC t x] = List.zipWith tkC (ts ++ [t]) (xs ++ [x]) := by
        rw [List.zipWith_append (by rw [hT.len])]; rfl
      rw [hzw] at p2
      have hdx1 : ∀ j ∈ rid dx1, j ∈ rid dx ∨ H1.next + 1 ≤ j := fun j hj => (p4 j hj).imp id fun z => by rw [al_nx] at z; exact z
      have hdl := hO.1.rw.lt
      have hDd1 : D ∉ rid dx1 := fun z => (hdx1 D z).elim hDd fun y => by omega
      have o3 : Out (D :: rid dx) H H3 := ((o12.mono fun j hj => by cases hj).trans (p3.mono fun j hj => .tail _ hj)).trans (w3.mono fun j hj => by rw [List.mem_singleton] at hj; subst hj; exact .head _)
      have hn3 := o3.nx
      have hxlt := u3.lt
      have hO3 := p2.out w3 fun j hj => by rw [List.mem_singleton]; intro e; subst e; exact hDd1 hj
      have hxold : ∀ y ∈ xs, ∀ j ∈ rid y, j < H.next := fun y hy j hj => hT.lt j (List.mem_append_right _ (List.mem_flatMap.2 ⟨y, hy, hj⟩))
      have hT3 : RD H3 dx1 (xs ++ [x]) (ts ++ [t]) := by
        refine ⟨by simp [hT.len], hO3.rl, fun k y t' hy ht' => ?_⟩
        by_cases hk : k < xs.length
        · rw [List.getElem?_append_left hk] at hy
          rw [List.getElem?_append_left (by rw [← hT.len]; exact hk)] at ht'
          have hym := List.mem_of_getElem? hy
          exact (hT.aft k y t' hy ht').out o3 fun j hj => by rw [List.mem_cons, not_or]; exact ⟨(hxd y hym j hj).2, (hxd y hym j hj).1⟩
        · have hk2 := (List.getElem?_eq_some_iff.1 hy).1
          rw [List.length_append] at hk2
          obtain rfl : k = xs.length := by simp at hk2; omega
          rw [List.getElem?_append_right (Nat.le_refl _), Nat.sub_self] at hy
          rw [List.getElem?_append_right (by rw [hT.len]; exact Nat.le_refl _), hT.len, Nat.sub_self] at ht'
          cases hy; cases ht'
          refine ((u3.out0 o2).out p3 fun j hj z => ?_).out w3 fun j hj => ?_
          · have := u4 j hj; have := hdl j z; omega
          · rw [List.mem_singleton]; have := u4 j hj; omega
      have hPo : ∀ {A B : Hp} {S : List Nat}, PS A rx nx rws ps → Out S A B → (∀ j, j ∈ rid rx ∨ j ∈ rid nx ∨ (∃ wx ∈ rws, j ∈ rid wx) → j ∉ S) → PS B rx nx rws ps := fun hp ho hs =>
        ⟨hp.r.out ho fun j hj => hs j (.inl hj), hp.n.out ho fun j hj => hs j (.inr (.inl hj)), hp.len, fun k wy s' hk hs' => (hp.w k wy s' hk hs').out ho fun j hj => hs j (.inr (.inr ⟨wy, List.mem_of_getElem? hk, hj⟩)), hp.dw, hp.dn⟩
      have hd3 : ∀ j, j ∈ rid rx ∨ j ∈ rid nx ∨ (∃ wx ∈ rws, j ∈ rid wx) ∨ j = R → j ∉ D :: rid dx := fun j hj => by rw [List.mem_cons, not_or]; exact ⟨(hd j hj).2, (hd j hj).1⟩
      have hlow : ∀ j, j ∈ rid rx ∨ j ∈ rid nx ∨ (∃ wx ∈ rws, j ∈ rid wx) ∨ j = R → j < H.next := fun j hj => by
        rcases hj with hj | hj | ⟨wy, hwy, hj⟩ | rfl
        · exact hP.r.rw.lt j hj
        · exact hP.n.rw.lt j hj
        · obtain ⟨k, hk⟩ := List.getElem?_of_mem hwy
          have hkl := (List.getElem?_eq_some_iff.1 hk).1
          rw [hP.len] at hkl
          exact (hP.w k wy _ hk (List.getElem?_eq_getElem hkl)).lt j hj
        · exact hR.1
      obtain ⟨H', S, i1, i2, i3⟩ := parse1_loop hpl hps hRD r (i + 1) H3 dx1 (xs ++ [x]) (ts ++ [t]) h1 h3 (hg.out o3 fun j hj => by
        rcases List.mem_cons.1 hj with rfl | hj
        · exact hD11
        · exact hdx11 j hj) hD11 (fun j hj => (hdx1 j hj).elim (hdx11 j) fun z => by omega) (hPo hP o3 fun j hj => hd3 j (hj.imp id fun z => z.imp id .inl)) (hR.out o3 (hd3 R (.inr (.inr (.inr rfl))))) w2 hO3 hT3 (by simp [htl]) (fun y hy j hj => by
          rcases List.mem_append.1 hy with hy | hy
          · have := hxold y hy j hj
            exact ⟨fun z => (hdx1 j z).elim (hxd y hy j hj).1 fun w => by omega, (hxd y hy j hj).2⟩
          · rw [List.mem_singleton] at hy
            subst hy
            have := u4 j hj
            have := hxlt j hj
            exact ⟨fun z => (hdx1 j z).elim (fun w => by have := hdl j w; omega) fun w => by omega, by omega⟩) hDd1 (fun j hj => ⟨fun z => (hdx1 j z).elim (hd j hj).1 fun w => by have := hlow j hj; omega, (hd j hj).2⟩)
      refine ⟨H', (D :: rid dx) ++ S, (o3.mono fun j hj => List.mem_append_left _ hj).trans (i1.mono fun j hj => List.mem_append_right _ hj), fun j hj => ?_, ?_⟩
      · rcases List.mem_append.1 hj with hj | hj
        · rcases List.mem_cons.1 hj with rfl | hj
          · exact .inl rfl
          · exact .inr (.inr (.inl hj))
        · rcases i2 j hj with z | z | z | z
          · exact .inl z
          · exact .inr (.inl z)
          · exact .inr (.inr ((hdx1 j z).imp id fun y => by omega))
          · exact .inr (.inr (.inr (by omega)))
      · have hnc6 : newCells (al H1 (tkC t x) 43 0) (tkC t x) 43 0 = some (H1.next + 1, al (al H1 (tkC t x) 43 0) (tkC t x) 43 0) := newCells_al (by rw [tk_len]; omega)
        have hfl6 : fl [(.str []), .slice0, (.int .i64 0), (.int .i64 0), (.int .i64 0), (.str [])] [(0, 6, .agg (tkC t x))] = some (tkC t x) := rfl
        have htk6 := tk_take t x
        have htl6 := tk_len t x
        have p1' := p1 _ rfl
        rw [al_nx] at p1'
        rcases i3 with ⟨dx', xs', l, k1, k2, k3, k4, k5, k6⟩ | ⟨k1, k2⟩
        · refine .inl ⟨dx', xs', t :: l, by rw [k1]; rfl, fun j71 => ?_, k3, k4, by simpa [List.append_assoc] using k5, fun j hj => (k6 j hj).elim (fun z => ?_) fun z => .inr (by omega)⟩
          · rw [ql_def_Parse1]
            simp (disch := (first | assumption | omega | (simp only [k_d, k_c, Nat.reduceAdd, Nat.reduceLeDiff, Nat.reduceLT] <;> fail) | (simp only [k_c]; omega) | (simp only [k_d, k_c, Nat.reduceAdd, Nat.reduceLeDiff, Nat.reduceLT, *] <;> fail) | fail)) only [bl_def_Parse1, lt_t h1, q1, q2, u2, hst0, hDc, htl6, htk6, hfl6, hnc6, p1', w1, es, k2, k_a, k_b, Nat.reduceAdd, k_s, k_x, Int.reduceBEq, Int.reduceBNe, Int.reduceLT, Int.reduceLE, Int.reduceGT, Int.reduceGE, Int.reduceNeg]
          · rcases List.mem_append.1 z with z | z
            · exact (hdx1 j z).imp (fun y => List.mem_append_left _ y) fun y => by omega
            · rw [List.flatMap_append, List.mem_append] at z
              rcases z with z | z
              · exact .inl (List.mem_append_right _ z)
              · have : j ∈ rid x := by simpa using z
                exact .inr (u4 j this)
        · refine .inr ⟨by rw [k1]; rfl, fun j71 => ?_⟩
          rw [ql_def_Parse1]
          simp (disch := (first | assumption | omega | (simp only [k_d, k_c, Nat.reduceAdd, Nat.reduceLeDiff, Nat.reduceLT] <;> fail) | (simp only [k_c]; omega) | (simp only [k_d, k_c, Nat.reduceAdd, Nat.reduceLeDiff, Nat.reduceLT, *] <;> fail) | fail)) only [bl_def_Parse1, lt_t h1, q1, q2, u2, hst0, hDc, htl6, htk6, hfl6, hnc6, p1', w1, es, k2, k_a, k_b, Nat.reduceAdd, k_s, k_x, Int.reduceBEq, Int.reduceBNe, Int.reduceLT, Int.reduceLE, Int.reduceGT, Int.reduceGE, Int.reduceNeg]
    · rw [u1]
      have hst0 : st 6 (.ptr H1.next 0) (.agg v) (al H1 [(.str []), .slice0, (.int .i64 0), (.int .i64 0), (.int .i64 0), (.str [])] 43 0) = some (al H1 v 43 0) := st_alN u4 u3.symm rfl (by decide) u3.symm
      have o2 := al_out H1 v 43 0
      have hR2 := hR.out (t1.trans o2) (by simp)
      obtain ⟨H3, w1, w2, w3, w4⟩ := stAll (n := 1) (vs := [AV.slice0]) hR2 rfl rfl rfl
      have hR3 : cellsAt H3 R 0 1 = some [.slice0] := w2.cellsAt 1 0 (by simp)
      refine ⟨H3, [R], ((t1.trans o2).mono fun j hj => by cases hj).trans w3, fun j hj => by rw [List.mem_singleton] at hj; exact .inr (.inl hj), .inr ⟨rfl, fun j71 => ?_⟩⟩
      rw [ql_def_Parse1]
      simp (disch := (first | assumption | omega | (simp only [k_d, k_c, Nat.reduceAdd, Nat.reduceLeDiff, Nat.reduceLT] <;> fail) | (simp only [k_c]; omega) | (simp only [k_d, k_c, Nat.reduceAdd, Nat.reduceLeDiff, Nat.reduceLT, *] <;> fail) | fail)) only [bl_def_Parse1, lt_t h1, q1, q2, u2, hst0, w1, hR3, k_a, k_b, Nat.reduceAdd, k_s, k_x, Int.reduceBEq, Int.reduceBNe, Int.reduceLT, Int.reduceLE, Int.reduceGT, Int.reduceGE, Int.reduceNeg]
theorem parse_c {text : Str} {H : Hp} (hg : Gl H) (hl : text.length ≤ 4294967296) : ∃ dx xs H', cK (.func (.func 9) [] []) [.str text] H = some (.tuple [dv dx, .int .i64 (parseM text).2], H') ∧ RD H' dx xs (parseM text).1 ∧ Out [] H H' ∧ ∀ j ∈ fpD dx xs, H.next ≤ j := by
  have hgn := hg.nx
  have o1 := al_out H [.slice0] 25 0
  have c1 := al_cs H [.slice0] 25 0
  unfold parseM
  by_cases hbig : 1024 < text.length
  · rw [if_pos hbig]
    have d : decide ((1024 : Int) < (text.length : Int)) = true := decide_eq_true (by omega)
    refine ⟨.slice0, [], al H [.slice0] 25 0, c_def_Parse ?_, RD.nil _, o1, fun j hj => by cases hj⟩
    have hst : st 1 (.ptr H.next 0) (.agg [.slice0]) (al H [.slice0] 25 0) = some (al H [.slice0] 25 0) := st_alN rfl rfl rfl (by decide) rfl
    unfold s_def_Parse
    simp (disch := (first | assumption | omega | (simp only [k_d, k_c, Nat.reduceAdd, Nat.reduceLeDiff, Nat.reduceLT] <;> fail) | (simp only [k_c]; omega) | (simp only [k_d, k_c, Nat.reduceAdd, Nat.reduceLeDiff, Nat.reduceLT, *] <;> fail) | fail)) only [d, hst, k_a, k_b, Nat.reduceAdd, k_s, k_x, Int.reduceBEq, Int.reduceBNe, Int.reduceLT, Int.reduceLE, Int.reduceGT, Int.reduceGE, Int.reduceNeg]
  rw [if_neg hbig]
  have d : decide ((1024 : Int) < (text.length : Int)) = false := decide_eq_false (by omega)
  obtain ⟨px, H1, s1, s2, s3, s4⟩ := split_c (c := 59) (by decide) (s := text) (by omega) (al H [.slice0] 25 0)
  have hn1 := s3.nx
  rw [al_nx] at hn1
  have hsum := spl_sum 59 text
  have hpl := s2.len1
  rw [strs_len] at hpl
  have hps : ∀ s ∈ spl 59 text, s.length ≤ 1100 := fun s hs => by have := (spl_mem hs).2.2; omega
  have c2 := c1.out s3 (by simp)
  obtain ⟨rx, nx, rws, H2, S2, i1, i2, i3, i4, i5, i6⟩ := parse_loop (R := .ptr H.next 0) (B := H1.next) (ps := spl 59 text) (by omega) (fun s hs => by have := hps s hs; omega) (spl 59 text) 0 H1 .slice0 .slice0 [] (Nat.zero_le _) List.drop_zero s2 ⟨.nil, .nil, by rw [List.take_zero]; rfl, fun i wx s h => by simp at h, (fun wx h => by cases h), fun j h => by cases h⟩ (fun j hj => ⟨by simp [rid], by simp [rid]⟩) (Nat.le_refl _) (fun j hj => by rcases hj with hj | hj <;> cases hj) (fun wx h => by cases h)
  rw [show (((0 : Nat) : Int)) = 0 from rfl] at i1
  have hn2 := i3.nx
  have ho2 : Out [] H H2 := (o1.trans s3).then i3 fun j hj => by have := i4 j hj; exact .inr (by omega)
  have c3 := c2.out i3 fun z => by have := i4 _ z; omega
  have o3 := al_out H2 [.slice0] 25 0
  have cD := al_cs H2 [.slice0] 25 0
  have hP3 : PS (al H2 [.slice0] 25 0) rx nx rws (spl 59 text) := ⟨i2.r.out o3 (by simp), i2.n.out o3 (by simp), i2.len, fun k wx s h1 h2 => (i2.w k wx s h1 h2).out0 o3, i2.dw, i2.dn⟩
  have hlow : ∀ j, j ∈ rid rx ∨ j ∈ rid nx ∨ (∃ wx ∈ rws, j ∈ rid wx) → j < H2.next := fun j hj => by
    rcases hj with hj | hj | ⟨wy, hwy, hj⟩
    · exact i2.r.rw.lt j hj
    · exact i2.n.rw.lt j hj
    · obtain ⟨k, hk⟩ := List.getElem?_of_mem hwy
      have hkl := (List.getElem?_eq_some_iff.1 hk).1
      rw [i2.len] at hkl
      exact (i2.w k wy _ hk (List.getElem?_eq_getElem hkl)).lt j hj
  obtain ⟨H3, S3, k1, k2, k3⟩ := parse1_loop (R := H.next) (D := H2.next) (by omega) hps (by omega) (spl 59 text) 0 (al H2 [.slice0] 25 0) .slice0 [] [] (Nat.zero_le _) List.drop_zero (hg.out0 (ho2.trans o3)) (by omega) (fun j hj => by cases hj) hP3 (c3.out o3 (by simp)) cD (OL.nil _ _ _) (RD.nil _) rfl (fun x hx => by cases hx) (by simp [rid]) (fun j hj => ⟨by simp [rid], by
    rcases hj with hj | hj | hj | rfl
    · have := hlow j (.inl hj); omega
    · have := hlow j (.inr (.inl hj)); omega
    · have := hlow j (.inr (.inr hj)); omega
    · omega⟩)
  rw [show (((0 : Nat) : Int)) = 0 from rfl] at k3
  have hS3 : ∀ j ∈ S3, H.next ≤ j := fun j hj => by
    rcases k2 j hj with z | z | z | z
    · omega
    · omega
    · cases z
    · rw [al_nx] at z; omega
  have ho3 : Out [] H H3 := (ho2.trans o3).then k1 fun j hj => .inr (hS3 j hj)
  have hrl := i2.r.rw.len1
  rw [i2.len] at hrl
  have hlx : lenx rx = some (.int .i64 ((spl 59 text).length : Nat)) := hrl
  have hn3 := k1.nx
  rw [al_nx] at hn3
  rcases k3 with ⟨dx, xs, ts, m1, m2, m3, m4, m5, m6⟩ | ⟨m1, m2⟩
  · rw [List.nil_append] at m5
    rw [m1]
    simp only
    obtain ⟨tl1, tl2⟩ := tsM_len m1
    have hfp : ∀ j ∈ fpD dx xs, H2.next + 1 ≤ j := fun j hj => (m6 j hj).elim (fun z => by cases z) fun z => by rw [al_nx] at z; exact z
    obtain ⟨H4, g1, g2⟩ := dgood_c (ts := ts) (by rw [tl1]; omega) (fun t ht => by have := tl2 1100 hps t ht; omega) m5
    have hn4 := g2.nx
    have hDc : cellsAt H3 H2.next 0 1 = some [dx] := m3.cellsAt 1 0 (by simp)
    have hD4 : cellsAt H4 H2.next 0 1 = some [dx] := (m3.out g2 (by simp)).cellsAt 1 0 (by simp)
    have cR := m4.out g2 (by simp)
    have hdx1 := m5.row.one
    by_cases h0 : goodM ts = 0
    · rw [if_pos h0]
      have d0 : ((goodM ts) != 0) = false := by rw [h0]; rfl
      obtain ⟨H5, w1, w2, w3, w4⟩ := stAll (n := 1) (vs := [dx]) cR rfl rfl (by simp [hdx1])
      have hR5 : cellsAt H5 H.next 0 1 = some [dx] := w2.cellsAt 1 0 (by simp)
      refine ⟨dx, xs, H5, c_def_Parse ?_, (m5.out0 g2).out w3 fun j hj => by rw [List.mem_singleton]; have := hfp j hj; omega, (ho3.trans g2).then w3 fun j hj => by rw [List.mem_singleton] at hj; exact .inr (by omega), fun j hj => by have := hfp j hj; omega⟩
      unfold s_def_Parse
      simp (disch := (first | assumption | omega | (simp only [k_d, k_c, Nat.reduceAdd, Nat.reduceLeDiff, Nat.reduceLT] <;> fail) | (simp only [k_c]; omega) | (simp only [k_d, k_c, Nat.reduceAdd, Nat.reduceLeDiff, Nat.reduceLT, *] <;> fail) | fail)) only [d, s1, hpl, i1, hlx, m2, hDc, hD4, g1, d0, w1, hR5, k_a, k_b, Nat.reduceAdd, k_s, k_x, Int.reduceBEq, Int.reduceBNe, Int.reduceLT, Int.reduceLE, Int.reduceGT, Int.reduceGE, Int.reduceNeg]
    · rw [if_neg h0]
      have d0 : ((goodM ts) != 0) = true := by simp [h0]
      obtain ⟨H5, w1, w2, w3, w4⟩ := stAll (n := 1) (vs := [AV.slice0]) cR rfl rfl rfl
      have hR5 : cellsAt H5 H.next 0 1 = some [.slice0] := w2.cellsAt 1 0 (by simp)
      refine ⟨.slice0, [], H5, c_def_Parse ?_, RD.nil _, (ho3.trans g2).then w3 fun j hj => by rw [List.mem_singleton] at hj; exact .inr (by omega), fun j hj => by cases hj⟩
      unfold s_def_Parse
      simp (disch := (first | assumption | omega | (simp only [k_d, k_c, Nat.reduceAdd, Nat.reduceLeDiff, Nat.reduceLT] <;> fail) | (simp only [k_c]; omega) | (simp only [k_d, k_c, Nat.reduceAdd, Nat.reduceLeDiff, Nat.reduceLT, *] <;> fail) | fail)) only [d, s1, hpl, i1, hlx, m2, hDc, hD4, g1, d0, w1, hR5, k_a, k_b, Nat.reduceAdd, k_s, k_x, Int.reduceBEq, Int.reduceBNe, Int.reduceLT, Int.reduceLE, Int.reduceGT, Int.reduceGE, Int.reduceNeg]
  · rw [m1]
    simp only
    refine ⟨.slice0, [], H3, c_def_Parse ?_, RD.nil _, ho3, fun j hj => by cases hj⟩
    unfold s_def_Parse
    simp (disch := (first | assumption | omega | (simp only [k_d, k_c, Nat.reduceAdd, Nat.reduceLeDiff, Nat.reduceLT] <;> fail) | (simp only [k_c]; omega) | (simp only [k_d, k_c, Nat.reduceAdd, Nat.reduceLeDiff, Nat.reduceLT, *] <;> fail) | fail)) only [d, s1, hpl, i1, hlx, m2, k_a, k_b, Nat.reduceAdd, k_s, k_x, Int.reduceBEq, Int.reduceBNe, Int.reduceLT, Int.reduceLE, Int.reduceGT, Int.reduceGE, Int.reduceNeg]
/-- what holds of a definition that is read -/
theorem parseM_good {text : Str} (h : (parseM text).2 = 0) : goodM (parseM text).1 = 0 ∧ 1 ≤ (parseM text).1.length ∧ (parseM text).1.length ≤ 16 ∧ aftAll (parseM text).1 ∧ noCyc (parseM text).1.length (edFrom 0 (parseM text).1) ∧ (∀ t ∈ (parseM text).1, odd1 t = false ∧ odd3 t = false) := by
  have key : ∀ ts : List Tk, goodM ts = 0 → 1 ≤ ts.length ∧ ts.length ≤ 16 ∧ aftAll ts ∧ noCyc ts.length (edFrom 0 ts) ∧ ∀ t ∈ ts, odd1 t = false ∧ odd3 t = false := by
    intro ts h
    unfold goodM at h
    split at h
    · cases h
    · rename_i h1
      split at h
      · cases h
      · rename_i h2
        split at h
        · cases h
        · split at h
          · cases h
          · rename_i h3
            split at h
            · cases h
            · rename_i h4
              split at h
              · rename_i h5
                have h1 := Decidable.not_not.1 h1
                refine ⟨h1.1, h1.2, any_p4 (by simpa using h4), h5, fun t ht => ?_⟩
                obtain ⟨i, hi⟩ := List.getElem?_of_mem ht
                have hil := (List.getElem?_eq_some_iff.1 hi).1
                rw [Bool.not_eq_true, List.any_eq_false] at h2 h3
                have a := h2 i (List.mem_range.2 hil)
                have b := h3 i (List.mem_range.2 hil)
                unfold p1 at a
                unfold p3 at b
                rw [hi] at a b
                exact ⟨by simpa using a, by simpa using b⟩
              · cases h
  have hg : goodM (parseM text).1 = 0 := by
    unfold parseM at h ⊢
    by_cases hb : 1024 < text.length
    · rw [if_pos hb] at h; cases h
    · rw [if_neg hb] at h ⊢
      cases hts : tsM ((spl 59 text).map hdw) (spl 59 text) with
      | none => rw [hts] at h; cases h
      | some ts =>
        rw [hts] at h
        simp only at h ⊢
        by_cases h0 : goodM ts = 0
        · rw [if_pos h0]; exact h0
        · rw [if_neg h0] at h; exact absurd h h0
  exact ⟨hg, key _ hg⟩
end Go.Proofs.YthljbjokonglhaaGreatDoor.DfK
