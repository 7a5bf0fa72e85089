/- An element of a row of our own set in place. Conditions: as each states them. -/
import Derived.Test.YtbdlbhlhnpblpaaGreatDoorAm16
import Derived.Test.YtbdlbhlhnpblpaaGreatDoorWsD
import Derived.Handed
import Derived.Test.YtbdlbhlhnpblpaaGreatDoorProg
namespace Go.Proofs.YtbdlbhlhnpblpaaGreatDoor.Am.K
open Go
set_option linter.unusedVariables false
set_option linter.unusedSimpArgs false
theorem setR_left : ∀ (vs c r : List AV) (k : Nat), k + vs.length ≤ c.length → setR (c ++ r) k vs = setR c k vs ++ r
  | [], c, r, k, h => rfl
  | v :: vs, c, r, k, h => by
    simp only [List.length_cons] at h
    show setR ((c ++ r).set k v) (k + 1) vs = setR (c.set k v) (k + 1) vs ++ r
    rw [List.set_append_left _ _ (by omega)]
    exact setR_left vs _ _ _ (by rw [List.length_set]; omega)
theorem setR_right : ∀ (vs a r : List AV) (k : Nat), setR (a ++ r) (a.length + k) vs = a ++ setR r k vs
  | [], a, r, k => rfl
  | v :: vs, a, r, k => by
    show setR ((a ++ r).set (a.length + k) v) (a.length + k + 1) vs = a ++ setR (r.set k v) (k + 1) vs
    rw [List.set_append_right _ _ (by omega), Nat.add_sub_cancel_left, Nat.add_assoc]
    exact setR_right vs _ _ _
theorem flatten_set {es : Nat} {vs : List AV} {k : Nat} (hk : k + vs.length ≤ es) : ∀ {L : List (List AV)} {i : Nat} {c : List AV}, (∀ c ∈ L, c.length = es) → L[i]? = some c → (L.set i (setR c k vs)).flatten = setR L.flatten (i * es + k) vs
  | [], i, c, _, h => by simp at h
  | a :: L, 0, c, hl, h => by
    simp only [List.getElem?_cons_zero, Option.some.injEq] at h
    subst h
    have := hl a (.head _)
    rw [Nat.zero_mul, Nat.zero_add]
    show setR a k vs ++ L.flatten = setR (a ++ L.flatten) k vs
    rw [setR_left _ _ _ _ (by omega)]
  | a :: L, i + 1, c, hl, h => by
    simp only [List.getElem?_cons_succ] at h
    have ha := hl a (.head _)
    show a ++ (L.set i (setR c k vs)).flatten = setR (a ++ L.flatten) ((i + 1) * es + k) vs
    rw [flatten_set hk (fun d hd => hl d (.tail _ hd)) h, Nat.add_mul, Nat.one_mul, show i * es + es + k = a.length + (i * es + k) by omega, setR_right]
/-- cells of one part set in place -/
theorem OL.stAt {H : Hp} {el es : Nat} {x : AV} {L : List (List AV)} (h : OL H el es x L) {i k b o : Nat} {c vs : List AV} (hi : L[i]? = some c) (hia : ∀ kd, ia es x (.int kd i) = some (.ptr b o)) (hv : ∀ v ∈ vs, oneC v = true) (hk : k + vs.length ≤ es) (hes : 0 < es) :
    ∃ H', setCells H b (o + k) vs = some H' ∧ OL H' el es x (L.set i (setR c k vs)) ∧ Out (rid x) H H' ∧ H'.next = H.next := by
  obtain ⟨ho, hl⟩ := h
  have hil := (List.getElem?_eq_some_iff.1 hi).1
  have hfl := flatten_len hl
  have hfs := flatten_set hk hl hi
  have hc := hl c (List.mem_of_getElem? hi)
  have hpos : i * es + es ≤ L.flatten.length := by
    rw [hfl]
    have := Nat.mul_le_mul_right es (show i + 1 ≤ L.length by omega)
    rw [Nat.add_mul, Nat.one_mul] at this
    exact this
  have hL' : ∀ d ∈ L.set i (setR c k vs), d.length = es := fun d hd => by
    rcases List.mem_or_eq_of_mem_set hd with hd | rfl
    · exact hl d hd
    · rw [setR_len]; exact hc
  generalize hF : L.flatten = F at *
  cases ho with
  | nil => simp at hpos; omega
  | emp => simp at hpos; omega
  | @mk i0 off n cap ex _ ct lo hi0 fl hi' hg hf hlo hhi hcap hn hcc hs h1 he =>
    have hin : i < n := by
      rw [hfl] at hn
      exact Nat.eq_of_mul_eq_mul_right hes hn ▸ hil
    have e := hia .i64
    rw [ia_s hin] at e
    injection e with e
    injection e with eb eo
    subst eb
    subst eo
    have hcn : n * es ≤ cap * es := Nat.mul_le_mul_right _ hcap
    obtain ⟨H', c', q1, q2, q3, q4, q5⟩ := setCells_get vs H i0 (off + i * es + k) ct lo hi0 el fl hg hf (by omega) (by omega) (fun m hm => by
      have := hs (i * es + k + m) (by omega)
      rw [show off + i * es + k + m = off + (i * es + k + m) by omega]
      exact this) hv
    refine ⟨H', q1, ⟨?_, hL'⟩, ⟨by omega, fun j hj hn' => q4 j fun e => hn' (by subst e; rw [rid_s he]; exact .head _)⟩, q2⟩
    rw [hfs]
    refine .mk (by omega) q3 hf hlo hhi hcap (by rw [setR_len]; exact hn) (fun m w hm => ?_) (fun m hm => ?_) (fun w hw => ?_) he
    · rw [q5]
      rw [setR_get _ _ _ _ (by omega)] at hm
      split at hm
      · rw [if_pos (by omega), show off + m - (off + i * es + k) = m - (i * es + k) by omega]; exact hm
      · rw [if_neg (by omega)]; exact hcc m w hm
    · rw [q5]
      split
      · rename_i hb
        rw [List.getElem?_eq_getElem (by omega)]; rfl
      · exact hs m hm
    · obtain ⟨m, hm⟩ := List.getElem?_of_mem hw
      rw [setR_get _ _ _ _ (by omega)] at hm
      split at hm
      · exact hv w (List.mem_of_getElem? hm)
      · exact h1 w (List.mem_of_getElem? hm)
theorem OL.st1 {H : Hp} {el es : Nat} {x : AV} {L : List (List AV)} (h : OL H el es x L) {i k b o : Nat} {c : List AV} {v : AV} (hi : L[i]? = some c) (hia : ∀ kd, ia es x (.int kd i) = some (.ptr b o)) (hv : oneC v = true) (hk : k < es) :
    ∃ H', st 1 (.ptr b (o + k)) v H = some H' ∧ OL H' el es x (L.set i (c.set k v)) ∧ Out (rid x) H H' ∧ H'.next = H.next := by
  obtain ⟨H', h1, h2⟩ := h.stAt (k := k) (vs := [v]) hi hia (fun u hu => by rw [List.mem_singleton] at hu; subst hu; exact hv) (by simp only [List.length_cons, List.length_nil]; omega) (by omega)
  refine ⟨H', ?_, h2⟩
  unfold st
  simp only [cellsV_one hv]
  exact h1
end Go.Proofs.YtbdlbhlhnpblpaaGreatDoor.Am.K
namespace Go.Proofs.YtbdlbhlhnpblpaaGreatDoor.SgK
open Go Am Am.K WlEnv WlK
set_option linter.unusedVariables false
set_option linter.unusedSimpArgs false
theorem Rs.outS {H H' : Hp} {x : AV} {rs : List (Nat × List Nat)} {ys : List AV} {S : List Nat} (h : Rs H x rs ys) (k : Out S H H') (hx : ∀ j ∈ rid x, j ∉ S) (hy : ∀ y ∈ ys, ∀ j ∈ rid y, j ∉ S) : Rs H' x rs ys :=
  ⟨h.own.out k hx, h.len, fun j y r h1 h2 => (h.row j y r h1 h2).out k (hy y (List.mem_of_getElem? h1)), h.sep⟩
theorem Rs.ylt {H : Hp} {x : AV} {rs : List (Nat × List Nat)} {ys : List AV} (h : Rs H x rs ys) : ∀ y ∈ ys, ∀ i ∈ rid y, i < H.next := by
  intro y hy i hi
  obtain ⟨j, hj⟩ := List.mem_iff_getElem?.1 hy
  have hjl := (List.getElem?_eq_some_iff.1 hj).1
  exact (h.row j y _ hj (List.getElem?_eq_getElem (by rw [← h.len]; exact hjl))).lt i hi
/-- one record more -/
theorem Rs.push {H : Hp} {s y : AV} {rs : List (Nat × List Nat)} {ys : List AV} {a : Nat} {b : List Nat} (h : Rs H s rs ys) (hy : Rw H 1 y (bs b)) (hd : ∀ i ∈ rid y, i ∉ rid s) (hl : rs.length ≤ 100000) :
    ∃ H1 s' H2, newCells H [.int .u64 (a : Nat), y] 37 0 = some (H.next, H1) ∧ app' 37 2 [.int .u64 0, .slice0] false s (.slice H.next 0 1 1 true 2) H1 = some (s', H2) ∧
      Rs H2 s' (rs ++ [(a, b)]) (ys ++ [y]) ∧ Out (rid s) H H2 ∧ (∀ j ∈ rid s', j ∈ rid s ∨ H.next ≤ j) := by
  obtain ⟨H4, m1, m2, m3, m4⟩ := newCells_ok H [.int .u64 ((a : Nat) : Int), y] 37 0 (by simp)
  have hrow : Rw H4 2 (.slice H.next 0 1 1 true 2) [.int .u64 ((a : Nat) : Int), y] := .mk m2.ro rfl (Nat.le_refl _) rfl
  have hs4 := h.out m3
  have hsl := h.own.rw.lt
  obtain ⟨s', H5, a1, a2, a3, a4⟩ := append_ok (z := [.int .u64 0, .slice0]) hs4.own hrow (by
    intro v hv
    rcases List.mem_cons.1 hv with rfl | hv
    · rfl
    · rcases List.mem_cons.1 hv with rfl | hv
      · exact one_rw hy
      · cases hv) (by omega) (by rw [rcs_len _ _ h.len]; simp only [List.length_cons, List.length_nil]; omega)
  have yo : Rw H4 1 y (bs b) := hy.out m3 fun j _ q => by cases q
  have hyl := hy.lt
  have a4' : ∀ j ∈ rid s', j ∈ rid s ∨ H.next ≤ j := fun j hj => (a4 j hj).imp id fun q => Nat.le_trans m3.1 q
  refine ⟨H4, s', H5, m1, a1, ⟨by rw [rcs_app _ _ _ _ h.len]; exact a2, by simp [h.len], ?_, ?_⟩, (m3.mono fun j hj => by cases hj).trans a3, a4'⟩
  · intro j z r h3 h4
    by_cases hj : j < ys.length
    · rw [List.getElem?_append_left hj] at h3
      rw [List.getElem?_append_left (by rw [← h.len]; exact hj)] at h4
      exact (hs4.row j z r h3 h4).out a3 (h.sep z (List.mem_of_getElem? h3))
    · rw [List.getElem?_append_right (by omega)] at h3
      rw [List.getElem?_append_right (by rw [← h.len]; omega), ← h.len] at h4
      obtain ⟨e1, rfl⟩ : j - ys.length = 0 ∧ z = y := by
        cases hq : j - ys.length with
        | zero => rw [hq] at h3; simp at h3; exact ⟨rfl, h3.symm⟩
        | succ q => rw [hq] at h3; simp at h3
      rw [e1] at h4
      simp at h4
      subst h4
      exact yo.out a3 hd
  · intro z hz i hi q
    rcases List.mem_append.1 hz with hz | hz
    · rcases a4' i q with q | q
      · exact h.sep z hz i hi q
      · have := h.ylt z hz i hi; omega
    · rw [List.mem_singleton] at hz
      subst hz
      rcases a4' i q with q | q
      · exact hd i hi q
      · have := hyl i hi; omega
end Go.Proofs.YtbdlbhlhnpblpaaGreatDoor.SgK
namespace Go.Proofs.YtbdlbhlhnpblpaaGreatDoor.WlK
open Go Am Am.K WlEnv Sg SegPrim SgN SgK StC
/-- a part's cells -/
def pc (q : Int × Int) : List AV := [.int .i64 q.1, .int .i64 q.2]
/-- what a log owns -/
def lfoot (lp : Nat) (xp xr : AV) (p : Nat) (L : Lay) : List Nat := lp :: (rid xp ++ (rid xr ++ foot p L))
/-- what is told of a log's own -/
structure LM where
  most : Int
  m : SM
  parts : List (Int × Int)
  recs : List (Nat × List Nat)
  first : Int
  sure : Int
/-- where it lies -/
structure LP where
  L : Lay
  xp : AV
  xr : AV
  ys : List AV
abbrev lf (lp p : Nat) (l : LP) : List Nat := lfoot lp l.xp l.xr p l.L
structure Lg (H : Hp) (lp p : Nat) (m : LM) (l : LP) : Prop where
  head : C0 H lp [.ptr p 0, .int .i64 m.most, l.xp, l.xr, .int .i64 m.first, .int .i64 m.sure]
  st : St H p m.m l.L
  parts : OL H 66 2 l.xp (m.parts.map pc)
  recs : Rs H l.xr m.recs l.ys
  nd : (lf lp p l).Nodup
  row : ∀ y ∈ l.ys, ∀ i ∈ rid y, i ∉ lf lp p l
/-- what a call may touch -/
def Lgo (lp p : Nat) (H : Hp) (l : LP) (H' : Hp) (l' : LP) : Prop := Out (lf lp p l) H H' ∧ ∀ j ∈ lf lp p l', j ∈ lf lp p l ∨ H.next ≤ j
theorem Lgo.refl (lp p : Nat) (H : Hp) (l : LP) : Lgo lp p H l H l := ⟨Out.refl _ _, fun _ h => .inl h⟩
theorem Lgo.trans {lp p : Nat} {H H' H'' : Hp} {l l' l'' : LP} (h : Lgo lp p H l H' l') (k : Lgo lp p H' l' H'' l'') : Lgo lp p H l H'' l'' :=
  ⟨h.1.then k.1 h.2, fun j hj => (k.2 j hj).elim (fun q => h.2 j q) (fun q => .inr (Nat.le_trans h.1.1 q))⟩
section
variable {H : Hp} {lp p : Nat} {m : LM} {l : LP}
theorem lf_lp : lp ∈ lf lp p l := .head _
theorem lf_xp {j : Nat} (h : j ∈ rid l.xp) : j ∈ lf lp p l := .tail _ (List.mem_append_left _ h)
theorem lf_xr {j : Nat} (h : j ∈ rid l.xr) : j ∈ lf lp p l := .tail _ (List.mem_append_right _ (List.mem_append_left _ h))
theorem lf_st {j : Nat} (h : j ∈ foot p l.L) : j ∈ lf lp p l := .tail _ (List.mem_append_right _ (List.mem_append_right _ h))
theorem lf_cases {j : Nat} (h : j ∈ lf lp p l) : j = lp ∨ j ∈ rid l.xp ∨ j ∈ rid l.xr ∨ j ∈ foot p l.L := by
  rcases List.mem_cons.1 h with h | h
  · exact .inl h
  rcases List.mem_append.1 h with h | h
  · exact .inr (.inl h)
  rcases List.mem_append.1 h with h | h
  · exact .inr (.inr (.inl h))
  · exact .inr (.inr (.inr h))
theorem Lg.lt (h : Lg H lp p m l) : ∀ j ∈ lf lp p l, j < H.next := by
  intro j hj
  rcases lf_cases hj with rfl | hj | hj | hj
  · exact h.head.lt
  · exact h.parts.1.rw.lt j hj
  · exact h.recs.own.rw.lt j hj
  · exact h.st.lt j hj
theorem Lg.out {H' : Hp} {S : List Nat} (h : Lg H lp p m l) (k : Out S H H') (hs : ∀ j ∈ lf lp p l, j ∉ S) (hy : ∀ y ∈ l.ys, ∀ i ∈ rid y, i ∉ S) : Lg H' lp p m l :=
  ⟨h.head.out k (hs _ lf_lp), h.st.out k fun j hj => hs _ (lf_st hj), h.parts.out k fun j hj => hs _ (lf_xp hj), h.recs.outS k (fun j hj => hs _ (lf_xr hj)) hy, h.nd, h.row⟩
theorem Lg.out0 {H' : Hp} (h : Lg H lp p m l) (k : Out [] H H') : Lg H' lp p m l := h.out k (fun _ _ q => by cases q) (fun _ _ _ _ q => by cases q)
/-- who is apart from whom -/
theorem Lg.apart (h : Lg H lp p m l) : (lp ∉ rid l.xp ∧ lp ∉ rid l.xr ∧ lp ∉ foot p l.L) ∧ (∀ j ∈ rid l.xp, j ∉ rid l.xr ∧ j ∉ foot p l.L) ∧ (∀ j ∈ rid l.xr, j ∉ foot p l.L) := by
  have hn := h.nd
  unfold lf lfoot at hn
  rw [List.nodup_cons, List.nodup_append, List.nodup_append] at hn
  obtain ⟨n1, n2, ⟨n3, n4, n5⟩, n6⟩ := hn
  refine ⟨⟨fun q => n1 (List.mem_append_left _ q), fun q => n1 (List.mem_append_right _ (List.mem_append_left _ q)), fun q => n1 (List.mem_append_right _ (List.mem_append_right _ q))⟩, fun j hj => ⟨fun q => n6 j hj j (List.mem_append_left _ q) rfl, fun q => n6 j hj j (List.mem_append_right _ q) rfl⟩, fun j hj q => n5 j hj j q rfl⟩
theorem nd_mk {xp xr : AV} {L : Lay} (hL : (foot p L).Nodup) (a1 : lp ∉ rid xp) (a2 : lp ∉ rid xr) (a3 : lp ∉ foot p L) (b1 : ∀ j ∈ rid xp, j ∉ rid xr) (b2 : ∀ j ∈ rid xp, j ∉ foot p L) (b3 : ∀ j ∈ rid xr, j ∉ foot p L) : (lfoot lp xp xr p L).Nodup := by
  unfold lfoot
  rw [List.nodup_cons, List.nodup_append, List.nodup_append]
  refine ⟨fun q => ?_, rid_nd _, ⟨rid_nd _, hL, fun a ha b hb e => b3 a ha (e ▸ hb)⟩, fun a ha b hb e => ?_⟩
  · rcases List.mem_append.1 q with q | q
    · exact a1 q
    rcases List.mem_append.1 q with q | q
    · exact a2 q
    · exact a3 q
  · subst e
    rcases List.mem_append.1 hb with q | q
    · exact b1 a ha q
    · exact b2 a ha q
/-- the store turns -/
theorem Lg.toStore {H' : Hp} {m' : SM} {L' : Lay} (h : Lg H lp p m l) (hs : St H' p m' L') (hg : Go' p H l.L H' L') : Lg H' lp p { m with m := m' } { l with L := L' } ∧ Lgo lp p H l H' { l with L := L' } := by
  obtain ⟨⟨a1, a2, a3⟩, b, b3⟩ := h.apart
  have hlt := h.lt
  have new : ∀ j, j < H.next → j ∉ foot p l.L → j ∉ foot p L' := fun j hj hn q => (hg.2 j q).elim hn fun q => by omega
  have hf : ∀ j ∈ lf lp p { l with L := L' }, j ∈ lf lp p l ∨ H.next ≤ j := by
    intro j hj
    rcases lf_cases hj with rfl | hj | hj | hj
    · exact .inl lf_lp
    · exact .inl (lf_xp hj)
    · exact .inl (lf_xr hj)
    · exact (hg.2 j hj).imp lf_st id
  refine ⟨⟨h.head.out hg.1 a3, hs, h.parts.out hg.1 fun j hj => (b j hj).2, h.recs.outS hg.1 b3 fun y hy i hi q => h.row y hy i hi (lf_st q), ?_, fun y hy i hi q => ?_⟩, hg.1.mono fun j hj => lf_st hj, hf⟩
  · exact nd_mk hs.nd a1 a2 (new _ (hlt _ lf_lp) a3) (fun j hj => (b j hj).1) (fun j hj => new j (hlt _ (lf_xp hj)) (b j hj).2) fun j hj => new j (hlt _ (lf_xr hj)) (b3 j hj)
  · rcases hf i q with q | q
    · exact h.row y hy i hi q
    · have := h.recs.ylt y hy i hi; omega
/-- the parts stand elsewhere -/
theorem Lg.toParts {H1 : Hp} {xp : AV} {ps : List (Int × Int)} (h : Lg H lp p m l) (ho : OL H1 66 2 xp (ps.map pc)) (hg : Out (rid l.xp) H H1) (hr : ∀ j ∈ rid xp, j ∈ rid l.xp ∨ H.next ≤ j) :
    ∃ H2, K.st 1 (.ptr lp 2) xp H1 = some H2 ∧ Lg H2 lp p { m with parts := ps } { l with xp := xp } ∧ Lgo lp p H l H2 { l with xp := xp } := by
  obtain ⟨⟨a1, a2, a3⟩, b, b3⟩ := h.apart
  have hlt := h.lt
  obtain ⟨H2, s1, s2, s3, s4⟩ := (h.head.out hg a1).st (o := 2) (v := xp) (by simp) ho.1.rw.one
  have n2 : ∀ j, j ≠ lp → j ∉ [lp] := fun j hj q => hj (List.mem_singleton.1 q)
  have new : ∀ j, j < H.next → j ∉ rid l.xp → j ∉ rid xp := fun j hj hn q => (hr j q).elim hn fun q => by omega
  have hf : ∀ j ∈ lf lp p { l with xp := xp }, j ∈ lf lp p l ∨ H.next ≤ j := by
    intro j hj
    rcases lf_cases hj with rfl | hj | hj | hj
    · exact .inl lf_lp
    · exact (hr j hj).imp lf_xp id
    · exact .inl (lf_xr hj)
    · exact .inl (lf_st hj)
  have hlx : lp ∉ rid xp := new _ (hlt _ lf_lp) a1
  refine ⟨H2, s1, ⟨s2, (h.st.out hg fun j hj q => (b j q).2 hj).out s3 fun j hj => n2 j fun q => a3 (q ▸ hj), ho.out s3 fun j hj => n2 j fun q => hlx (q ▸ hj), (h.recs.outS hg (fun j hj q => (b j q).1 hj) fun y hy i hi q => h.row y hy i hi (lf_xp q)).outS s3 (fun j hj => n2 j fun q => a2 (q ▸ hj)) (fun y hy i hi => n2 i fun q => h.row y hy i hi (q ▸ lf_lp)), ?_, fun y hy i hi q => ?_⟩, (hg.mono fun j hj => lf_xp hj).trans (s3.mono fun j hj => by rw [List.mem_singleton.1 hj]; exact lf_lp), hf⟩
  · exact nd_mk h.st.nd hlx a2 a3 (fun j hj => (hr j hj).elim (fun q => (b j q).1) fun q e => by have := hlt j (lf_xr e); omega) (fun j hj => (hr j hj).elim (fun q => (b j q).2) fun q e => by have := hlt j (lf_st e); omega) b3
  · rcases hf i q with q | q
    · exact h.row y hy i hi q
    · have := h.recs.ylt y hy i hi; omega
/-- one of the parts turns, in its place -/
theorem Lg.inParts {H1 : Hp} {ps : List (Int × Int)} (h : Lg H lp p m l) (ho : OL H1 66 2 l.xp (ps.map pc)) (hg : Out (rid l.xp) H H1) : Lg H1 lp p { m with parts := ps } l ∧ Lgo lp p H l H1 l := by
  obtain ⟨⟨a1, a2, a3⟩, b, b3⟩ := h.apart
  exact ⟨⟨h.head.out hg a1, h.st.out hg fun j hj q => (b j q).2 hj, ho, h.recs.outS hg (fun j hj q => (b j q).1 hj) fun y hy i hi q => h.row y hy i hi (lf_xp q), h.nd, h.row⟩, hg.mono fun j hj => lf_xp hj, fun j hj => .inl hj⟩
/-- the records stand elsewhere -/
theorem Lg.toRecs {H1 : Hp} {xr : AV} {rs : List (Nat × List Nat)} {ys : List AV} (h : Lg H lp p m l) (ho : Rs H1 xr rs ys) (hg : Out (rid l.xr) H H1) (hr : ∀ j ∈ rid xr, j ∈ rid l.xr ∨ H.next ≤ j) (hy : ∀ y ∈ ys, ∀ i ∈ rid y, i ∉ lf lp p l ∧ i < H.next) :
    ∃ H2, K.st 1 (.ptr lp 3) xr H1 = some H2 ∧ Lg H2 lp p { m with recs := rs } { l with xr := xr, ys := ys } ∧ Lgo lp p H l H2 { l with xr := xr, ys := ys } := by
  obtain ⟨⟨a1, a2, a3⟩, b, b3⟩ := h.apart
  have hlt := h.lt
  obtain ⟨H2, s1, s2, s3, s4⟩ := (h.head.out hg a2).st (o := 3) (v := xr) (by simp) ho.own.rw.one
  have n2 : ∀ j, j ≠ lp → j ∉ [lp] := fun j hj q => hj (List.mem_singleton.1 q)
  have new : ∀ j, j < H.next → j ∉ rid l.xr → j ∉ rid xr := fun j hj hn q => (hr j q).elim hn fun q => by omega
  have hf : ∀ j ∈ lf lp p { l with xr := xr, ys := ys }, j ∈ lf lp p l ∨ H.next ≤ j := by
    intro j hj
    rcases lf_cases hj with rfl | hj | hj | hj
    · exact .inl lf_lp
    · exact .inl (lf_xp hj)
    · exact (hr j hj).imp lf_xr id
    · exact .inl (lf_st hj)
  have hlx : lp ∉ rid xr := new _ (hlt _ lf_lp) a2
  refine ⟨H2, s1, ⟨s2, (h.st.out hg fun j hj q => b3 j q hj).out s3 fun j hj => n2 j fun q => a3 (q ▸ hj), (h.parts.out hg fun j hj => (b j hj).1).out s3 fun j hj => n2 j fun q => a1 (q ▸ hj), ho.outS s3 (fun j hj => n2 j fun q => hlx (q ▸ hj)) (fun y hy' i hi => n2 i fun q => (hy y hy' i hi).1 (q ▸ lf_lp)), ?_, fun y hy' i hi q => ?_⟩, (hg.mono fun j hj => lf_xr hj).trans (s3.mono fun j hj => by rw [List.mem_singleton.1 hj]; exact lf_lp), hf⟩
  · exact nd_mk h.st.nd a1 hlx a3 (fun j hj q => (hr j q).elim (fun q => (b j hj).1 q) fun q => by have := hlt j (lf_xp hj); omega) (fun j hj => (b j hj).2) (fun j hj => (hr j hj).elim (fun q => b3 j q) fun q e => by have := hlt j (lf_st e); omega)
  · obtain ⟨e1, e2⟩ := hy y hy' i hi
    rcases hf i q with q | q
    · exact e1 q
    · omega
end
end Go.Proofs.YtbdlbhlhnpblpaaGreatDoor.WlK
namespace Go.Proofs.YtbdlbhlhnpblpaaGreatDoor.WlK
open Go Am Am.K WlEnv Sg SegPrim SgN SgK StC
set_option linter.unusedVariables false
set_option linter.unusedSimpArgs false
set_option maxRecDepth 10000
set_option maxHeartbeats 1000000
/-- one part more, the part itself laid ahead -/
theorem OL.pushC {H : Hp} {el es el2 : Nat} {z : List AV} {s : AV} {L : List (List AV)} {vs : List AV} (h : OL H el es s L) (hv : ∀ v ∈ vs, oneC v = true) (hn : vs.length = es) (hes : 0 < es) (hk : es ≤ 1000) (hlen : (L.length + 1) * es ≤ 16777216) :
    ∃ H1 s' H2, newCells H vs el2 0 = some (H.next, H1) ∧ app' el es z false s (.slice H.next 0 1 1 true es) H1 = some (s', H2) ∧ OL H2 el es s' (L ++ [vs]) ∧ Out [] H H1 ∧ Out (rid s) H H2 ∧ (∀ j ∈ rid s', j ∈ rid s ∨ H.next ≤ j) := by
  obtain ⟨H1, m1, m2, m3, m4⟩ := newCells_ok H vs el2 0 (by omega)
  have hrow : Rw H1 es (.slice H.next 0 1 1 true es) vs := .mk m2.ro (by omega) (Nat.le_refl _) rfl
  obtain ⟨s', H2, a1, a2, a3, a4⟩ := append_ok (z := z) (h.1.out m3 fun j _ q => by cases q) hrow hv hes (by
    rw [flatten_len h.2, hn]
    rw [Nat.add_mul, Nat.one_mul] at hlen
    exact hlen)
  refine ⟨H1, s', H2, m1, a1, ⟨by rw [List.flatten_append]; simpa using a2, fun c hc => ?_⟩, m3, (m3.mono fun j hj => by cases hj).trans a3, fun j hj => (a4 j hj).imp id fun q => Nat.le_trans m3.1 q⟩
  rcases List.mem_append.1 hc with hc | hc
  · exact h.2 c hc
  · rw [List.mem_singleton] at hc; subst hc; exact hn
theorem lda_of {H : Hp} {b o n : Nat} {c : List AV} (h : cellsAt H b o n = some c) : lda n (.ptr b o) H = some (.agg c) := by
  unfold lda
  simp only [h]
  rfl
theorem ld_of {H : Hp} {b o : Nat} {v : AV} (h : cellAt H b o = some v) : ld (.ptr b o) H = some v := h
end Go.Proofs.YtbdlbhlhnpblpaaGreatDoor.WlK
namespace Go.Proofs.YtbdlbhlhnpblpaaGreatDoor.SgK
open Go.Proofs.YtbdlbhlhnpblpaaGreatDoor.WlK
open Go Am Am.K WlEnv Sg SegPrim SgN SgK StC
set_option linter.unusedVariables false
set_option linter.unusedSimpArgs false
set_option maxRecDepth 10000
set_option maxHeartbeats 1000000
theorem Rs.lda {H : Hp} {x : AV} {rs : List (Nat × List Nat)} {ys : List AV} (h : Rs H x rs ys) {j : Nat} {r : Nat × List Nat} (hj : rs[j]? = some r) :
    ∃ i o y, (∀ k, ia 2 x (.int k j) = some (.ptr i o)) ∧ K.lda 2 (.ptr i o) H = some (.agg [.int .u64 (r.1 : Nat), y]) ∧ ld (.ptr i (o + 0)) H = some (.int .u64 (r.1 : Nat)) ∧ ld (.ptr i (o + 1)) H = some y ∧ Rw H 1 y (bs r.2) ∧ y ∈ ys := by
  have hlt := (List.getElem?_eq_some_iff.1 hj).1
  obtain ⟨y0, hy⟩ : ∃ y0, ys[j]? = some y0 := ⟨_, List.getElem?_eq_getElem (by rw [h.len]; exact hlt)⟩
  obtain ⟨g0, g1⟩ := rcs_get rs ys j r _ hj hy
  obtain ⟨b, o, h1, h2, h3, h4, h5⟩ := h.own.rw.ia (rcs_len _ _ h.len) (by decide) hlt
  have hc : ((rcs rs ys).drop (j * 2)).take 2 = [.int .u64 (r.1 : Nat), y0] := by
    apply List.ext_getElem?
    intro k
    match k with
    | 0 => rw [List.getElem?_take, if_pos (by decide), List.getElem?_drop]; exact g0
    | 1 => rw [List.getElem?_take, if_pos (by decide), List.getElem?_drop]; exact g1
    | k + 2 => rw [List.getElem?_take, if_neg (by omega)]; simp
  rw [hc] at h5
  refine ⟨b, o, y0, h1, lda_of h5, ?_, ?_, h.row j _ r hy hj, List.mem_of_getElem? hy⟩
  · exact ld_of (h4 0 _ g0 (by decide))
  · exact ld_of (h4 1 _ g1 (by decide))
end Go.Proofs.YtbdlbhlhnpblpaaGreatDoor.SgK
namespace Go.Proofs.YtbdlbhlhnpblpaaGreatDoor.WlK
open Go Am Am.K WlEnv Sg SegPrim SgN SgK StC
set_option linter.unusedVariables false
set_option linter.unusedSimpArgs false
set_option maxRecDepth 10000
set_option maxHeartbeats 1000000
section
variable {H : Hp} {lp p : Nat} {m : LM} {l : LP}
def endM (m : LM) : Int := m.first + m.recs.length
def epM (m : LM) : Int := match m.recs.getLast? with | none => 0 | some r => ((r.1 / 17592186044416 : Nat) : Int)
/-- what bounds a log's numbers -/
structure Small (m : LM) : Prop where
  first : 0 ≤ m.first ∧ m.first ≤ 17592186040000
  recs : m.recs.length ≤ 1000
  at' : ∀ r ∈ m.recs, r.1 < 18446744073709551616
  parts : m.parts.length ≤ 1000
  part : ∀ q ∈ m.parts, 0 ≤ q.2 ∧ q.2 ≤ 1000000000
theorem end_c (h : Lg H lp p m l) (hs : Small m) : cK (.func (.func 16) [] []) [.ptr lp 0] H = some (.int .i64 (endM m), H) := by
  refine c_wal_Log_End ?_
  unfold s_wal_Log_End endM
  have l4 := h.head.ld (o := 4) rfl
  have l3 := h.head.ld (o := 3) rfl
  have hl := h.recs.lenc
  have h1 := hs.first
  have h2 := hs.recs
  have w : IntKind.wrap .i64 (m.first + (m.recs.length : Nat)) = m.first + (m.recs.length : Nat) := wrap_i64 (by omega) (by omega)
  simp only [l4, l3, hl, w, JN_0, JN_1, JN_2, JN_3, JN_4, JN_5, JN_6, JN_7, JN_8, JN_9, JN_10, JN_11, JN_12, JN_13, JN_14, JN_15, JN_16, JN_17, JN_18, JN_19, JN_20, JN_21, JN_22, JN_23, JN_24, B1_s, B2_s, BN_s, CD_t, CD_f, GO_tt, GO_ft, GO_tf, GO_ff, GO_ut, GO_uf, GD2_tt, GD2_ft, GD2_tf, GD2_ff, pk_t, pk_f, nilA_p, nilA_i, fa_p, fd_a, ex_t, iadd_i, isub_i, imul_i, ieq_i, ine_i, ilt_i, ile_i, igt_i, ige_i, seq_s, sne_s, slt_s, lens_s, lenx_0, lenx_s, not_b, bb_e, bb_n, cv_i, pe_00, pe_0p, pe_p0, eqB_e, eqB_n, List.getElem?_cons_zero, List.getElem?_cons_succ, Nat.zero_add, Bool.not_true, Bool.not_false, decide_true, decide_false, Int.reduceBEq, Int.reduceBNe, Int.reduceLT, Int.reduceLE, Int.reduceGT, Int.reduceGE, Int.reduceNeg, BEq.rfl, bne_self_eq_false, ge_iff_le, gt_iff_lt]
theorem lepoch_c (h : Lg H lp p m l) (hs : Small m) : cK (.func (.func 22) [] []) [.ptr lp 0] H = some (.int .i64 (epM m), H) := by
  refine c_wal_Log_Epoch ?_
  unfold s_wal_Log_Epoch
  have l3 := h.head.ld (o := 3) rfl
  have hl := h.recs.lenc
  have h2 := hs.recs
  rcases List.eq_nil_or_concat m.recs with he | ⟨rs, r, he⟩
  · have hm : epM m = 0 := by unfold epM; rw [he]; rfl
    rw [he] at hl
    rw [hm]
    simp only [l3, hl, List.length_nil, Int.natCast_zero, show (((0 : Nat) : Int)) = 0 from rfl, JN_0, JN_1, JN_2, JN_3, JN_4, JN_5, JN_6, JN_7, JN_8, JN_9, JN_10, JN_11, JN_12, JN_13, JN_14, JN_15, JN_16, JN_17, JN_18, JN_19, JN_20, JN_21, JN_22, JN_23, JN_24, B1_s, B2_s, BN_s, CD_t, CD_f, GO_tt, GO_ft, GO_tf, GO_ff, GO_ut, GO_uf, GD2_tt, GD2_ft, GD2_tf, GD2_ff, pk_t, pk_f, nilA_p, nilA_i, fa_p, fd_a, ex_t, iadd_i, isub_i, imul_i, ieq_i, ine_i, ilt_i, ile_i, igt_i, ige_i, seq_s, sne_s, slt_s, lens_s, lenx_0, lenx_s, not_b, bb_e, bb_n, cv_i, pe_00, pe_0p, pe_p0, eqB_e, eqB_n, List.getElem?_cons_zero, List.getElem?_cons_succ, Nat.zero_add, Bool.not_true, Bool.not_false, decide_true, decide_false, Int.reduceBEq, Int.reduceBNe, Int.reduceLT, Int.reduceLE, Int.reduceGT, Int.reduceGE, Int.reduceNeg, BEq.rfl, bne_self_eq_false, ge_iff_le, gt_iff_lt]
  · rw [List.concat_eq_append] at he
    have hm : epM m = ((r.1 / 17592186044416 : Nat) : Int) := by unfold epM; rw [he]; simp
    have hn : m.recs.length = rs.length + 1 := by rw [he]; simp
    have hj : m.recs[rs.length]? = some r := by rw [he]; simp
    obtain ⟨i, o, y, a1, a2, a3, a4, a5, a6⟩ := h.recs.lda hj
    have d : ((((m.recs.length : Nat) : Int)) == 0) = false := by rw [beq_eq_false_iff_ne]; omega
    have w : IntKind.wrap .i64 ((m.recs.length : Nat) - 1) = ((rs.length : Nat) : Int) := by rw [wrap_i64 (by omega) (by omega)]; omega
    have e := epoch_c (H := H) r.1 (hs.at' r (List.mem_of_getElem? hj))
    have a1' := a1 .i64
    rw [hm]
    rw [Nat.add_zero] at a3
    simp only [l3, hl, d, w, a1', a3, e, Nat.add_zero, JN_0, JN_1, JN_2, JN_3, JN_4, JN_5, JN_6, JN_7, JN_8, JN_9, JN_10, JN_11, JN_12, JN_13, JN_14, JN_15, JN_16, JN_17, JN_18, JN_19, JN_20, JN_21, JN_22, JN_23, JN_24, B1_s, B2_s, BN_s, CD_t, CD_f, GO_tt, GO_ft, GO_tf, GO_ff, GO_ut, GO_uf, GD2_tt, GD2_ft, GD2_tf, GD2_ff, pk_t, pk_f, nilA_p, nilA_i, fa_p, fd_a, ex_t, iadd_i, isub_i, imul_i, ieq_i, ine_i, ilt_i, ile_i, igt_i, ige_i, seq_s, sne_s, slt_s, lens_s, lenx_0, lenx_s, not_b, bb_e, bb_n, cv_i, pe_00, pe_0p, pe_p0, eqB_e, eqB_n, List.getElem?_cons_zero, List.getElem?_cons_succ, Nat.zero_add, Bool.not_true, Bool.not_false, decide_true, decide_false, Int.reduceBEq, Int.reduceBNe, Int.reduceLT, Int.reduceLE, Int.reduceGT, Int.reduceGE, Int.reduceNeg, BEq.rfl, bne_self_eq_false, ge_iff_le, gt_iff_lt]
theorem pname_c {H : Hp} (hT : hasT H begin0) (hn : 11 ≤ H.next) {f : Int} (s : Int) (hf : inN f = true) :
    ∃ H', cK (.func (.func 28) [] []) [.agg [.int .i64 f, .int .i64 s]] H = some (.str (nms f), H') ∧ Out [] H H' := by
  obtain ⟨H1, b1, b2, b3, b4⟩ := bx_ok H 66 (.agg [.int .i64 f, .int .i64 s]) [.int .i64 f, .int .i64 s] rfl (by simp)
  have l0 : ld (.ptr H.next 0) H1 = some (.int .i64 f) := b2.ld rfl
  have hnm := name_c an (vsA (hasT_out hT hn b3)) f
  refine ⟨H1, c__wal_part_name ?_, b3⟩
  unfold s__wal_part_name
  simp only [b1, l0, hnm, JN_0, JN_1, JN_2, JN_3, JN_4, JN_5, JN_6, JN_7, JN_8, JN_9, JN_10, JN_11, JN_12, JN_13, JN_14, JN_15, JN_16, JN_17, JN_18, JN_19, JN_20, JN_21, JN_22, JN_23, JN_24, B1_s, B2_s, BN_s, CD_t, CD_f, GO_tt, GO_ft, GO_tf, GO_ff, GO_ut, GO_uf, GD2_tt, GD2_ft, GD2_tf, GD2_ff, pk_t, pk_f, nilA_p, nilA_i, fa_p, fd_a, ex_t, iadd_i, isub_i, imul_i, ieq_i, ine_i, ilt_i, ile_i, igt_i, ige_i, seq_s, sne_s, slt_s, lens_s, lenx_0, lenx_s, not_b, bb_e, bb_n, cv_i, pe_00, pe_0p, pe_p0, eqB_e, eqB_n, List.getElem?_cons_zero, List.getElem?_cons_succ, Nat.zero_add, Bool.not_true, Bool.not_false, decide_true, decide_false, Int.reduceBEq, Int.reduceBNe, Int.reduceLT, Int.reduceLE, Int.reduceGT, Int.reduceGE, Int.reduceNeg, BEq.rfl, bne_self_eq_false, ge_iff_le, gt_iff_lt]
end
end Go.Proofs.YtbdlbhlhnpblpaaGreatDoor.WlK
namespace Go.Proofs.YtbdlbhlhnpblpaaGreatDoor.WlK
open Go Am Am.K WlEnv Sg SegPrim SgN SgK StC
set_option linter.unusedVariables false
set_option linter.unusedSimpArgs false
set_option maxRecDepth 10000
set_option maxHeartbeats 2000000
def lastP (m : LM) : Int × Int := (m.parts.getLast?).getD (0, 0)
/-- a record behind the others -/
noncomputable def apM (m : LM) (a : Nat) (b : List Nat) : LM :=
  if m.parts = [] ∨ m.most ≤ (lastP m).2 then { m with m := (appM m.m (nms (endM m)) (fr a b)).2, parts := m.parts ++ [(endM m, 0 + ((16 + b.length : Nat) : Int))], recs := m.recs ++ [(a, b)] }
  else { m with m := (appM m.m (nms (lastP m).1) (fr a b)).2, parts := m.parts.set (m.parts.length - 1) ((lastP m).1, (lastP m).2 + ((16 + b.length : Nat) : Int)), recs := m.recs ++ [(a, b)] }
theorem pc_one (q : Int × Int) : ∀ v ∈ pc q, oneC v = true := by
  intro v hv
  unfold pc at hv
  rcases List.mem_cons.1 hv with rfl | hv
  · rfl
  · rcases List.mem_cons.1 hv with rfl | hv
    · rfl
    · cases hv
theorem fr_byte {a : Nat} {b : List Nat} (hb : ∀ v ∈ b, v < 256) : ∀ v ∈ fr a b, v < 256 := by
  intro v h
  rcases List.mem_append.1 h with h | h
  · rcases List.mem_append.1 h with h | h
    · exact hd12_byte _ _ v h
    · exact le_byte _ _ v h
  · exact hb v h
section
variable {H : Hp} {lp p : Nat} {m : LM} {l : LP}
/-- Append's end: the part grows, the record stands behind the others -/
theorem app_tail (h : Lg H lp p m l) {i t fl' a : Nat} {x' : AV} {b : List Nat} (box : Cs H i [.int .u64 (a : Nat), x'] t fl') (hi : i ∉ lf lp p l) (hx : Rw H 1 x' (bs b)) (hxd : ∀ j ∈ rid x', j ∉ lf lp p l) (hr : m.recs.length ≤ 1000)
    {k : Nat} {f s : Int} (hq : m.parts[k]? = some (f, s)) (hs : 0 ≤ s ∧ s ≤ 1000000000) {n : Nat} (hn : n ≤ 1000000) :
    ∃ bb o H1 H2 s' H3 H4, ia 2 l.xp (.int .i64 (k : Nat)) = some (.ptr bb o) ∧ ld (.ptr bb (o + 1)) H = some (.int .i64 s) ∧ iadd (.int .i64 s) (.int .i64 (n : Nat)) = some (.int .i64 (s + n)) ∧ st 1 (.ptr bb (o + 1)) (.int .i64 (s + n)) H = some H1 ∧
      ld (.ptr lp 2) H = some l.xp ∧ ld (.ptr lp 3) H1 = some l.xr ∧ lda 2 (.ptr i 0) H1 = some (.agg [.int .u64 (a : Nat), x']) ∧ fl [.int .u64 0, .slice0] [(0, 2, .agg [.int .u64 (a : Nat), x'])] = some [.int .u64 (a : Nat), x'] ∧
      newCells H1 [.int .u64 (a : Nat), x'] 37 0 = some (H1.next, H2) ∧ app' 37 2 [.int .u64 0, .slice0] false l.xr (.slice H1.next 0 1 1 true 2) H2 = some (s', H3) ∧ st 1 (.ptr lp 3) s' H3 = some H4 ∧ ld (.ptr lp 3) H2 = some l.xr ∧ same l.xr l.xr = true ∧
      Lg H4 lp p { m with parts := m.parts.set k (f, s + n), recs := m.recs ++ [(a, b)] } { l with xr := s', ys := l.ys ++ [x'] } ∧ Lgo lp p H l H4 { l with xr := s', ys := l.ys ++ [x'] } := by
  have hq' : (m.parts.map pc)[k]? = some (pc (f, s)) := by rw [List.getElem?_map, hq]; rfl
  obtain ⟨bb, o, r1, r2, r3, r4, r5⟩ := h.parts.rl.at (by decide) hq'
  have hs1 : ld (.ptr bb (o + 1)) H = some (.int .i64 s) := ld_of (r5 1 _ rfl)
  obtain ⟨H1, s1, s2, s3, s4⟩ := h.parts.st1 (k := 1) hq' r1 (v := .int .i64 (s + n)) rfl (by decide)
  have e : (m.parts.map pc).set k ((pc (f, s)).set 1 (.int .i64 (s + n))) = (m.parts.set k (f, s + n)).map pc := by rw [List.map_set]; rfl
  rw [e] at s2
  obtain ⟨g1, g2⟩ := h.inParts s2 s3
  have xo : ∀ j ∈ rid x', j ∉ rid l.xp := fun j hj q => hxd j hj (lf_xp q)
  have hx1 := hx.out s3 xo
  have box1 := box.out s3 fun q => hi (lf_xp q)
  obtain ⟨H2, s', H3, m1, m2, m3, m4, m5⟩ := g1.recs.push (a := a) hx1 (fun j hj q => hxd j hj (lf_xr q)) (by show m.recs.length ≤ 100000; omega)
  have m0 : Out [] H1 H2 := by
    obtain ⟨Hq, z1, z2, z3, z4⟩ := newCells_ok H1 [.int .u64 ((a : Nat) : Int), x'] 37 0 (by simp)
    rw [m1] at z1
    cases z1
    exact z3
  obtain ⟨H4, k1, k2, k3⟩ := g1.toRecs m3 m4 m5 (fun y hy j hj => by
    rcases List.mem_append.1 hy with hy | hy
    · exact ⟨h.row y hy j hj, g1.recs.ylt y hy j hj⟩
    · rw [List.mem_singleton] at hy
      subst hy
      exact ⟨hxd j hj, hx1.lt j hj⟩)
  have w : IntKind.wrap .i64 (s + (n : Int)) = s + n := wrap_i64 (by omega) (by omega)
  refine ⟨bb, o, H1, H2, s', H3, H4, r1 .i64, hs1, by rw [iadd_i, w], s1, h.head.ld (o := 2) rfl, g1.head.ld (o := 3) rfl, box1.lda (n := 2) (o := 0) (by simp), ?_, m1, m2, k1, (g1.out0 m0).head.ld (o := 3) rfl, same_rw h.recs.own.rw, k2, g2.trans k3⟩
  have cr := cells_rec hx ((a : Nat) : Int)
  simp [fl, cr]
end
end Go.Proofs.YtbdlbhlhnpblpaaGreatDoor.WlK
namespace Go.Proofs.YtbdlbhlhnpblpaaGreatDoor.WlK
open Go Am Am.K WlEnv Sg SegPrim SgN SgK StC
set_option linter.unusedVariables false
set_option linter.unusedSimpArgs false
set_option maxRecDepth 10000
set_option maxHeartbeats 4000000
theorem Lgo.of0 {lp p : Nat} {H H' : Hp} {l : LP} (h : Out [] H H') : Lgo lp p H l H' l := ⟨h.mono (fun j hj => by cases hj), fun j hj => .inl hj⟩
section
variable {H : Hp} {lp p : Nat} {m : LM} {l : LP}
theorem append_c (h : Lg H lp p m l) (hs : Small m) (hT : hasT H begin0) (hn : 11 ≤ H.next) {ep E : Nat} {y : AV} {b : List Nat} (hy : Rw H 1 y (bs b)) (hb : ∀ v ∈ b, v < 256) (hlen : b.length ≤ 1024)
    (he1 : epM m ≤ ep) (he2 : ep ≤ 1048575) (hE : endM m = (E : Nat)) (hE2 : E ≤ 17592186044415) (ho : m.m.off = false) (hfu : m.m.fuse = 0) (hroom : sumB m.m.fs + (16 + b.length) ≤ m.m.room) (hfs : m.m.fs.length < 64) (hin : ∀ q ∈ m.parts, inN q.1 = true) :
    ∃ H' l', cK (.func (.func 8) [] []) [.ptr lp 0, .int .i64 ep, y] H = some (.tuple [.int .u64 ((ep * 17592186044416 + E : Nat) : Int), .int .i64 0], H') ∧ Lg H' lp p (apM m (ep * 17592186044416 + E) b) l' ∧ Lgo lp p H l H' l' := by
  have e1 := lepoch_c h hs
  have d1 : decide (((ep : Nat) : Int) < epM m) = false := decide_eq_false (by omega)
  have d2 : decide ((1048575 : Int) < ((ep : Nat) : Int)) = false := decide_eq_false (by omega)
  have e2 := end_c h hs
  rw [hE] at e2
  have e3 := pack_c (H := H) ep E he2 hE2
  have ha : ep * 17592186044416 + E < 18446744073709551616 := by omega
  have hendN : inN (endM m) = true := by rw [hE]; exact inN_t (by omega) (by omega)
  generalize hA : ep * 17592186044416 + E = a at *
  have hylt := hy.lt
  have hlt := h.lt
  obtain ⟨x', H1, c1, c2, c3, c4⟩ := SgK.clone_c hy (by omega)
  have f1 := fl_rec c2.rw ((a : Nat) : Int)
  obtain ⟨H2, n1, n2, n3, n4⟩ := newCells_ok H1 [.int .u64 0, .slice0] 37 0 (by simp)
  obtain ⟨H3, t1, t2, t3, t4⟩ := st_all (n := 2) n2 (by omega) (cells_rec c2.rw ((a : Nat) : Int)) rfl rfl (by
    intro v hv
    rcases List.mem_cons.1 hv with rfl | hv
    · rfl
    · rcases List.mem_cons.1 hv with rfl | hv
      · exact one_rw c2.rw
      · cases hv)
  have t5 : lda 2 (.ptr H1.next 0) H3 = some (.agg [.int .u64 ((a : Nat) : Int), x']) := t2.lda (n := 2) (o := 0) (by simp)
  have x1lt := c2.rw.lt
  have xr3 : Rw H3 1 x' (bs b) := (c2.rw.out n3 fun j _ q => by cases q).out t3 fun j hj q => by
    have := x1lt j hj
    rw [List.mem_singleton] at q
    omega
  obtain ⟨z, H4, p1, p2, p3, p4⟩ := put_c (x := .slice0) (l := []) .nil xr3 ha hb hlen (by simp)
  rw [List.nil_append] at p3
  have zl := p3.rw.len1
  rw [bs_len, fr_len] at zl
  have o3 : Out [] H H3 := (c3.trans n3).then t3 fun j hj => by
    rw [List.mem_singleton] at hj
    have := c3.1
    exact .inr (by omega)
  have o4 : Out [] H H4 := o3.trans p2
  have h4 := h.out0 o4
  have box4 := t2.out p2 fun q => by cases q
  have xr4 := xr3.out p2 fun j _ q => by cases q
  have hxd : ∀ j ∈ rid x', j ∉ lf lp p l := fun j hj q => by have := c4 j hj; have := hlt j q; omega
  have hid : H1.next ∉ lf lp p l := fun q => by have := hlt _ q; have := c3.1; omega
  have hzd : ∀ j ∈ rid z, j ∉ lf lp p l := fun j hj q => by have := p4 j hj; have := hlt j q; have := o3.1; omega
  have lp4 := h4.parts.rl.len (by decide)
  rw [List.length_map] at lp4
  have l42 := h4.head.ld (o := 2) rfl
  have l41 := h4.head.ld (o := 1) rfl
  have l40 := h4.head.ld (o := 0) rfl
  have hpl := hs.parts
  have w1 : IntKind.wrap .i64 (((m.parts.length : Nat) : Int) - 1) = ((m.parts.length : Nat) : Int) - 1 := wrap_i64 (by omega) (by omega)
  have w2 : IntKind.wrap .i64 (((m.parts.length : Nat) : Int) - 1 + 1) = ((m.parts.length : Nat) : Int) := by rw [wrap_i64 (by omega) (by omega)]; omega
  have hT4 := hasT_out hT hn o4
  have hn4 : 11 ≤ H4.next := Nat.le_trans hn o4.1
  have frb := fr_byte (a := a) hb
  have frl := fr_len a b
  -- a part of its own for it, or the last one
  by_cases hnew : m.parts = [] ∨ m.most ≤ (lastP m).2
  · have hguard : ∀ (K1 : Bool → R), (∀ c : Bool, c = true → K1 c = K1 true) → True := fun _ _ => trivial
    have e2' := end_c h4 hs
    rw [hE] at e2'
    obtain ⟨H5, u1, u2, u3, u4⟩ := newCells_ok H4 [.int .i64 0, .int .i64 0] 66 0 (by simp)
    obtain ⟨H6, v1, v2, v3, v4⟩ := st_all (n := 2) (v := .agg [.int .i64 (E : Nat), .int .i64 0]) (cs := [.int .i64 (E : Nat), .int .i64 0]) u2 (by omega) rfl rfl rfl (pc_one ((E : Nat), 0))
    have v5 : lda 2 (.ptr H4.next 0) H6 = some (.agg [.int .i64 (E : Nat), .int .i64 0]) := v2.lda (n := 2) (o := 0) (by simp)
    have o6 : Out [] H4 H6 := u3.then v3 fun j hj => by rw [List.mem_singleton] at hj; exact .inr (by omega)
    obtain ⟨H7, q1, q2⟩ := pname_c (hasT_out hT4 hn4 o6) (Nat.le_trans hn4 o6.1) 0 hendN
    rw [hE] at q1
    have o7 : Out [] H4 H7 := o6.trans q2
    have h6 := h4.out0 o6
    have h7 := h4.out0 o7
    have l60 := h6.head.ld (o := 0) rfl
    have l70 := h7.head.ld (o := 0) rfl
    obtain ⟨m', s0, s1, s2, s3, s4, s5⟩ := app_some h7.st (at' := nms (E : Nat)) (b := fr a b) ho hfu (okName_nms (by rw [← hE]; exact hendN)) (by rw [frl]; omega) hfs
    obtain ⟨H8, L', r1, r2, r3⟩ := app_c h7.st (nms (E : Nat)) (p3.rw.out o7 fun j _ q => by cases q) frb fun j hj q => hzd j hj (lf_st q)
    have hm' : m' = (appM m.m (nms (E : Nat)) (fr a b)).2 := by rw [s0]
    rw [s0] at r1 r2
    obtain ⟨h8, g8⟩ := h7.toStore r2 r3
    have l82 := h8.head.ld (o := 2) rfl
    have hfo : ∀ j ∈ foot p l.L, j < H.next := fun j hj => hlt j (lf_st hj)
    have v8 : lda 2 (.ptr H4.next 0) H8 = some (.agg [.int .i64 (E : Nat), .int .i64 0]) := ((v2.out q2 fun q => by cases q).out r3.1 fun q => by have := hfo _ q; have := o4.1; omega).lda (n := 2) (o := 0) (by simp)
    obtain ⟨H9, sp, H10, i1, i2, i3, i4, i5, i6⟩ := OL.pushC (el2 := 66) (z := [.int .i64 0, .int .i64 0]) (vs := pc ((E : Nat), 0)) h8.parts (pc_one _) rfl (by decide) (by decide) (by rw [List.length_map]; show (m.parts.length + 1) * 2 ≤ 16777216; omega)
    have i3' : OL H10 66 2 sp ((m.parts ++ [((E : Int), (0 : Int))]).map pc) := by rw [List.map_append]; exact i3
    obtain ⟨H11, k1, h11, g11⟩ := h8.toParts i3' i5 i6
    have l92 := (h8.out0 i4).head.ld (o := 2) rfl
    have oA : Lgo lp p H4 l H11 { l with L := L', xp := sp } := (Lgo.of0 o7 : Lgo lp p H4 l H7 l).trans (g8.trans g11)
    have hnl : ∀ j, j < H4.next → j ∉ lf lp p l → j ∉ lf lp p { l with L := L', xp := sp } := fun j h1 h2 q => (oA.2 j q).elim h2 fun q => by omega
    have x4lt := xr4.lt
    have hid4 : H1.next < H4.next := by have := p2.1; have := t3.1; omega
    obtain ⟨bb, o, H12, H13, s', H14, H15, y1, y2, y3, y4, y5, y6, y7, y8, y9, y10, y11, y12, y13, y14, y15⟩ := app_tail h11 (box4.out oA.1 hid) (hnl _ hid4 hid) (xr4.out oA.1 hxd) (fun j hj => hnl j (x4lt j hj) (hxd j hj)) hs.recs (k := m.parts.length) (f := (E : Nat)) (s := 0) (by simp) (by omega) (n := 16 + b.length) (by omega)
    refine ⟨H15, _, c_wal_Log_Append ?_, ?_, (Lgo.of0 o4 : Lgo lp p H l H4 l).trans (oA.trans y15)⟩
    · have fq : fl [(.int .i64 0), (.int .i64 0)] [(0, 1, AV.int .i64 (E : Nat))] = some [.int .i64 (E : Nat), .int .i64 0] := rfl
      have fq2 : fl [(.int .i64 0), (.int .i64 0)] [(0, 2, AV.agg [.int .i64 (E : Nat), .int .i64 0])] = some [.int .i64 (E : Nat), .int .i64 0] := rfl
      have sx : same l.xp l.xp = true := same_rw h.parts.1.rw
      unfold pc at i1
      by_cases hnil : m.parts = []
      · have d3 : decide (((m.parts.length : Nat) : Int) - 1 < 0) = true := decide_eq_true (by rw [hnil]; decide)
        unfold s_wal_Log_Append
        simp only [e1, d1, d2, e2, e3, c1, f1, n1, t1, t5, p1, l42, lp4, w1, d3, e2', fq, u1, v1, l60, v5, q1, l70, SM_t (show same (.ptr p 0) (.ptr p 0) = true by simp [same, sameS]), r1, l82, v8, fq2, i1, i2, k1, l92, SM_t sx, w2, y1, y2, y3, y4, y5, y6, y7, y8, y9, y10, y11, y12, SM_t y13, zl, JN_0, JN_1, JN_2, JN_3, JN_4, JN_5, JN_6, JN_7, JN_8, JN_9, JN_10, JN_11, JN_12, JN_13, JN_14, JN_15, JN_16, JN_17, JN_18, JN_19, JN_20, JN_21, JN_22, JN_23, JN_24, B1_s, B2_s, BN_s, CD_t, CD_f, GO_tt, GO_ft, GO_tf, GO_ff, GO_ut, GO_uf, GD2_tt, GD2_ft, GD2_tf, GD2_ff, pk_t, pk_f, nilA_p, nilA_i, fa_p, fd_a, ex_t, iadd_i, isub_i, imul_i, ieq_i, ine_i, ilt_i, ile_i, igt_i, ige_i, seq_s, sne_s, slt_s, lens_s, lenx_0, lenx_s, not_b, bb_e, bb_n, cv_i, pe_00, pe_0p, pe_p0, eqB_e, eqB_n, List.getElem?_cons_zero, List.getElem?_cons_succ, Nat.zero_add, Bool.not_true, Bool.not_false, decide_true, decide_false, Int.reduceBEq, Int.reduceBNe, Int.reduceLT, Int.reduceLE, Int.reduceGT, Int.reduceGE, Int.reduceNeg, BEq.rfl, bne_self_eq_false, ge_iff_le, gt_iff_lt]
      · have hne : 1 ≤ m.parts.length := by
          cases hq : m.parts with
          | nil => exact absurd hq hnil
          | cons q r => simp
        have d3 : decide (((m.parts.length : Nat) : Int) - 1 < 0) = false := decide_eq_false (by omega)
        have hlast : m.parts[m.parts.length - 1]? = some (lastP m) := by
          unfold lastP
          rw [List.getLast?_eq_getElem?, List.getElem?_eq_getElem (by omega)]
          rfl
        obtain ⟨b9, o9, z1, z2, z3, z4, z5⟩ := h4.parts.rl.at (by decide) (show (m.parts.map pc)[m.parts.length - 1]? = some (pc (lastP m)) by rw [List.getElem?_map, hlast]; rfl)
        have z6 : ld (.ptr b9 (o9 + 1)) H4 = some (.int .i64 (lastP m).2) := ld_of (z5 1 _ rfl)
        have z7 := z1 .i64
        rw [show (((m.parts.length - 1 : Nat) : Int)) = ((m.parts.length : Nat) : Int) - 1 by omega] at z7
        have d4 : decide (m.most ≤ (lastP m).2) = true := decide_eq_true (hnew.resolve_left hnil)
        unfold s_wal_Log_Append
        simp only [e1, d1, d2, e2, e3, c1, f1, n1, t1, t5, p1, l42, l41, lp4, w1, d3, z7, z6, d4, e2', fq, u1, v1, l60, v5, q1, l70, SM_t (show same (.ptr p 0) (.ptr p 0) = true by simp [same, sameS]), r1, l82, v8, fq2, i1, i2, k1, l92, SM_t sx, w2, y1, y2, y3, y4, y5, y6, y7, y8, y9, y10, y11, y12, SM_t y13, zl, JN_0, JN_1, JN_2, JN_3, JN_4, JN_5, JN_6, JN_7, JN_8, JN_9, JN_10, JN_11, JN_12, JN_13, JN_14, JN_15, JN_16, JN_17, JN_18, JN_19, JN_20, JN_21, JN_22, JN_23, JN_24, B1_s, B2_s, BN_s, CD_t, CD_f, GO_tt, GO_ft, GO_tf, GO_ff, GO_ut, GO_uf, GD2_tt, GD2_ft, GD2_tf, GD2_ff, pk_t, pk_f, nilA_p, nilA_i, fa_p, fd_a, ex_t, iadd_i, isub_i, imul_i, ieq_i, ine_i, ilt_i, ile_i, igt_i, ige_i, seq_s, sne_s, slt_s, lens_s, lenx_0, lenx_s, not_b, bb_e, bb_n, cv_i, pe_00, pe_0p, pe_p0, eqB_e, eqB_n, List.getElem?_cons_zero, List.getElem?_cons_succ, Nat.zero_add, Bool.not_true, Bool.not_false, decide_true, decide_false, Int.reduceBEq, Int.reduceBNe, Int.reduceLT, Int.reduceLE, Int.reduceGT, Int.reduceGE, Int.reduceNeg, BEq.rfl, bne_self_eq_false, ge_iff_le, gt_iff_lt]
    · have : apM m a b = { m with m := m', parts := (m.parts ++ [((E : Int), (0 : Int))]).set m.parts.length ((E : Int), 0 + ((16 + b.length : Nat) : Int)), recs := m.recs ++ [(a, b)] } := by
        unfold apM
        rw [if_pos hnew, hm', hE]
        simp
      rw [this]
      exact y14
  · have hnil : m.parts ≠ [] := fun q => hnew (.inl q)
    have hne : 1 ≤ m.parts.length := by
      cases hq : m.parts with
      | nil => exact absurd hq hnil
      | cons q r => simp
    have d3 : decide (((m.parts.length : Nat) : Int) - 1 < 0) = false := decide_eq_false (by omega)
    have hlast : m.parts[m.parts.length - 1]? = some (lastP m) := by
      unfold lastP
      rw [List.getLast?_eq_getElem?, List.getElem?_eq_getElem (by omega)]
      rfl
    obtain ⟨b9, o9, z1, z2, z3, z4, z5⟩ := h4.parts.rl.at (by decide) (show (m.parts.map pc)[m.parts.length - 1]? = some (pc (lastP m)) by rw [List.getElem?_map, hlast]; rfl)
    have z6 : ld (.ptr b9 (o9 + 1)) H4 = some (.int .i64 (lastP m).2) := ld_of (z5 1 _ rfl)
    have z7 := z1 .i64
    rw [show (((m.parts.length - 1 : Nat) : Int)) = ((m.parts.length : Nat) : Int) - 1 by omega] at z7
    have z8 : lda 2 (.ptr b9 o9) H4 = some (.agg [.int .i64 (lastP m).1, .int .i64 (lastP m).2]) := lda_of z4
    have d4 : decide (m.most ≤ (lastP m).2) = false := decide_eq_false fun q => hnew (.inr q)
    have hinL : inN (lastP m).1 = true := hin _ (List.mem_of_getElem? hlast)
    obtain ⟨H7, q1, q2⟩ := pname_c hT4 hn4 (lastP m).2 hinL
    have o7 : Out [] H4 H7 := q2
    have h7 := h4.out0 o7
    have l70 := h7.head.ld (o := 0) rfl
    obtain ⟨m', s0, s1, s2, s3, s4, s5⟩ := app_some h7.st (at' := nms (lastP m).1) (b := fr a b) ho hfu (okName_nms hinL) (by rw [frl]; omega) hfs
    obtain ⟨H8, L', r1, r2, r3⟩ := app_c h7.st (nms (lastP m).1) (p3.rw.out o7 fun j _ q => by cases q) frb fun j hj q => hzd j hj (lf_st q)
    have hm' : m' = (appM m.m (nms (lastP m).1) (fr a b)).2 := by rw [s0]
    rw [s0] at r1 r2
    obtain ⟨h8, g8⟩ := h7.toStore r2 r3
    have oA : Lgo lp p H4 l H8 { l with L := L' } := (Lgo.of0 o7 : Lgo lp p H4 l H7 l).trans g8
    have hnl : ∀ j, j < H4.next → j ∉ lf lp p l → j ∉ lf lp p { l with L := L' } := fun j h1 h2 q => (oA.2 j q).elim h2 fun q => by omega
    have x4lt := xr4.lt
    have hid4 : H1.next < H4.next := by have := p2.1; have := t3.1; omega
    obtain ⟨bb, o, H12, H13, s', H14, H15, y1, y2, y3, y4, y5, y6, y7, y8, y9, y10, y11, y12, y13, y14, y15⟩ := app_tail h8 (box4.out oA.1 hid) (hnl _ hid4 hid) (xr4.out oA.1 hxd) (fun j hj => hnl j (x4lt j hj) (hxd j hj)) hs.recs (k := m.parts.length - 1) hlast (hs.part _ (List.mem_of_getElem? hlast)) (n := 16 + b.length) (by omega)
    rw [show (((m.parts.length - 1 : Nat) : Int)) = ((m.parts.length : Nat) : Int) - 1 by omega] at y1
    obtain ⟨rfl, rfl⟩ : b9 = bb ∧ o9 = o := by have := z7.symm.trans y1; simpa using this
    refine ⟨H15, _, c_wal_Log_Append ?_, ?_, (Lgo.of0 o4 : Lgo lp p H l H4 l).trans (oA.trans y15)⟩
    · unfold s_wal_Log_Append
      simp only [e1, d1, d2, e2, e3, c1, f1, n1, t1, t5, p1, l42, l41, l40, lp4, w1, d3, z7, z6, z8, d4, q1, l70, SM_t (show same (.ptr p 0) (.ptr p 0) = true by simp [same, sameS]), r1, w2, y1, y2, y3, y4, y5, y6, y7, y8, y9, y10, y11, y12, SM_t y13, zl, JN_0, JN_1, JN_2, JN_3, JN_4, JN_5, JN_6, JN_7, JN_8, JN_9, JN_10, JN_11, JN_12, JN_13, JN_14, JN_15, JN_16, JN_17, JN_18, JN_19, JN_20, JN_21, JN_22, JN_23, JN_24, B1_s, B2_s, BN_s, CD_t, CD_f, GO_tt, GO_ft, GO_tf, GO_ff, GO_ut, GO_uf, GD2_tt, GD2_ft, GD2_tf, GD2_ff, pk_t, pk_f, nilA_p, nilA_i, fa_p, fd_a, ex_t, iadd_i, isub_i, imul_i, ieq_i, ine_i, ilt_i, ile_i, igt_i, ige_i, seq_s, sne_s, slt_s, lens_s, lenx_0, lenx_s, not_b, bb_e, bb_n, cv_i, pe_00, pe_0p, pe_p0, eqB_e, eqB_n, List.getElem?_cons_zero, List.getElem?_cons_succ, Nat.zero_add, Bool.not_true, Bool.not_false, decide_true, decide_false, Int.reduceBEq, Int.reduceBNe, Int.reduceLT, Int.reduceLE, Int.reduceGT, Int.reduceGE, Int.reduceNeg, BEq.rfl, bne_self_eq_false, ge_iff_le, gt_iff_lt]
    · have : apM m a b = { m with m := m', parts := m.parts.set (m.parts.length - 1) ((lastP m).1, (lastP m).2 + ((16 + b.length : Nat) : Int)), recs := m.recs ++ [(a, b)] } := by
        unfold apM
        rw [if_neg hnew, hm']
      rw [this]
      exact y14
end
end Go.Proofs.YtbdlbhlhnpblpaaGreatDoor.WlK
namespace Go.Proofs.YtbdlbhlhnpblpaaGreatDoor.WlK
open Go Am Am.K WlEnv Sg SegPrim SgN SgK StC
set_option linter.unusedVariables false
set_option linter.unusedSimpArgs false
set_option maxRecDepth 10000
set_option maxHeartbeats 2000000
theorem wclone_c {H : Hp} {a : Nat} {y : AV} {b : List Nat} (hy : Rw H 1 y (bs b)) (hl : b.length ≤ 100000) :
    ∃ x H', cK (.func (.func 29) [] []) [.agg [.int .u64 (a : Nat), y]] H = some (.agg [.int .u64 (a : Nat), x], H') ∧ Rw H' 1 x (bs b) ∧ Out [] H H' ∧ ∀ j ∈ rid x, H.next ≤ j := by
  obtain ⟨H1, b1, b2, b3, b4⟩ := bx_ok H 37 _ _ (cells_rec hy ((a : Nat) : Int)) (by simp)
  obtain ⟨H2, n1, n2, n3, n4⟩ := newCells_ok H1 [.int .u64 0, .slice0] 37 0 (by simp)
  have r2 := b2.out n3 fun q => by cases q
  have l0 : ld (.ptr H.next 0) H2 = some (.int .u64 ((a : Nat) : Int)) := r2.ld rfl
  have l1 : ld (.ptr H.next 1) H2 = some y := r2.ld rfl
  have hy2 := (hy.out b3 fun j _ q => by cases q).out n3 fun j _ q => by cases q
  obtain ⟨x, H3, c1, c2, c3, c4⟩ := SgK.clone_c hy2 (by omega)
  have f1 := fl_rec c2.rw ((a : Nat) : Int)
  have n2' := n2.out c3 fun q => by cases q
  obtain ⟨H4, t1, t2, t3, t4⟩ := st_all (n := 2) n2' (by omega) (cells_rec c2.rw ((a : Nat) : Int)) rfl rfl (by
    intro v hv
    rcases List.mem_cons.1 hv with rfl | hv
    · rfl
    · rcases List.mem_cons.1 hv with rfl | hv
      · exact one_rw c2.rw
      · cases hv)
  have t5 : lda 2 (.ptr H1.next 0) H4 = some (.agg [.int .u64 ((a : Nat) : Int), x]) := t2.lda (n := 2) (o := 0) (by simp)
  have l03 : ld (.ptr H.next 0) H3 = some (.int .u64 ((a : Nat) : Int)) := (r2.out c3 fun q => by cases q).ld rfl
  refine ⟨x, H4, c_wal_clone ?_, c2.rw.out t3 fun j hj q => ?_, ((b3.trans n3).trans c3).then t3 fun j hj => ?_, fun j hj => Nat.le_trans (b3.trans n3).1 (c4 j hj)⟩
  · unfold s_wal_clone
    simp only [b1, n1, l0, l1, c1, f1, t1, l03, SM_t (same_i .u64 ((a : Nat) : Int)), t5, JN_0, JN_1, JN_2, JN_3, JN_4, JN_5, JN_6, JN_7, JN_8, JN_9, JN_10, JN_11, JN_12, JN_13, JN_14, JN_15, JN_16, JN_17, JN_18, JN_19, JN_20, JN_21, JN_22, JN_23, JN_24, B1_s, B2_s, BN_s, CD_t, CD_f, GO_tt, GO_ft, GO_tf, GO_ff, GO_ut, GO_uf, GD2_tt, GD2_ft, GD2_tf, GD2_ff, pk_t, pk_f, nilA_p, nilA_i, fa_p, fd_a, ex_t, iadd_i, isub_i, imul_i, ieq_i, ine_i, ilt_i, ile_i, igt_i, ige_i, seq_s, sne_s, slt_s, lens_s, lenx_0, lenx_s, not_b, bb_e, bb_n, cv_i, pe_00, pe_0p, pe_p0, eqB_e, eqB_n, List.getElem?_cons_zero, List.getElem?_cons_succ, Nat.zero_add, Bool.not_true, Bool.not_false, decide_true, decide_false, Int.reduceBEq, Int.reduceBNe, Int.reduceLT, Int.reduceLE, Int.reduceGT, Int.reduceGE, Int.reduceNeg, BEq.rfl, bne_self_eq_false, ge_iff_le, gt_iff_lt]
  · rw [List.mem_singleton] at q
    have := c4 j hj
    omega
  · rw [List.mem_singleton] at hj
    have := b3.1
    exact .inr (by omega)
section
variable {H : Hp} {lp p : Nat} {m : LM} {l : LP}
theorem wget_c (h : Lg H lp p m l) (hs : Small m) {j : Nat} {r : Nat × List Nat} (hj : m.recs[j]? = some r) (hr : r.2.length ≤ 100000) :
    ∃ x H', cK (.func (.func 10) [] []) [.ptr lp 0, .int .i64 (m.first + (j : Nat))] H = some (.tuple [.agg [.int .u64 (r.1 : Nat), x], .int .i64 0], H') ∧ Rw H' 1 x (bs r.2) ∧ Out [] H H' ∧ ∀ i ∈ rid x, H.next ≤ i := by
  have hjl := (List.getElem?_eq_some_iff.1 hj).1
  have h1 := hs.first
  have h2 := hs.recs
  obtain ⟨H1, n1, n2, n3, n4⟩ := newCells_ok H [.int .u64 0, .slice0] 37 0 (by simp)
  have g1 := h.out0 n3
  have l4 := g1.head.ld (o := 4) rfl
  have l3 := g1.head.ld (o := 3) rfl
  have d1 : decide (m.first + (j : Nat) < m.first) = false := decide_eq_false (by omega)
  have e1 := end_c g1 hs
  have d2 : decide (endM m ≤ m.first + (j : Nat)) = false := decide_eq_false (by unfold endM; omega)
  have w : IntKind.wrap .i64 (m.first + (j : Nat) - m.first) = (j : Nat) := by rw [wrap_i64 (by omega) (by omega)]; omega
  obtain ⟨i, o, y, a1, a2, a3, a4, a5, a6⟩ := g1.recs.lda hj
  obtain ⟨x, H2, c1, c2, c3, c4⟩ := wclone_c (a := r.1) a5 hr
  have n2' := n2.out c3 fun q => by cases q
  obtain ⟨H3, t1, t2, t3, t4⟩ := st_all (n := 2) n2' (by omega) (cells_rec c2 ((r.1 : Nat) : Int)) rfl rfl (by
    intro v hv
    rcases List.mem_cons.1 hv with rfl | hv
    · rfl
    · rcases List.mem_cons.1 hv with rfl | hv
      · exact one_rw c2
      · cases hv)
  have t5 : lda 2 (.ptr H.next 0) H3 = some (.agg [.int .u64 ((r.1 : Nat) : Int), x]) := t2.lda (n := 2) (o := 0) (by simp)
  have a1' := a1 .i64
  refine ⟨x, H3, c_wal_Log_Get ?_, c2.out t3 fun k hk q => ?_, (n3.trans c3).then t3 fun k hk => ?_, fun k hk => Nat.le_trans n3.1 (c4 k hk)⟩
  · unfold s_wal_Log_Get
    simp only [n1, l4, l3, d1, e1, d2, w, a1', a2, c1, t1, t5, JN_0, JN_1, JN_2, JN_3, JN_4, JN_5, JN_6, JN_7, JN_8, JN_9, JN_10, JN_11, JN_12, JN_13, JN_14, JN_15, JN_16, JN_17, JN_18, JN_19, JN_20, JN_21, JN_22, JN_23, JN_24, B1_s, B2_s, BN_s, CD_t, CD_f, GO_tt, GO_ft, GO_tf, GO_ff, GO_ut, GO_uf, GD2_tt, GD2_ft, GD2_tf, GD2_ff, pk_t, pk_f, nilA_p, nilA_i, fa_p, fd_a, ex_t, iadd_i, isub_i, imul_i, ieq_i, ine_i, ilt_i, ile_i, igt_i, ige_i, seq_s, sne_s, slt_s, lens_s, lenx_0, lenx_s, not_b, bb_e, bb_n, cv_i, pe_00, pe_0p, pe_p0, eqB_e, eqB_n, List.getElem?_cons_zero, List.getElem?_cons_succ, Nat.zero_add, Bool.not_true, Bool.not_false, decide_true, decide_false, Int.reduceBEq, Int.reduceBNe, Int.reduceLT, Int.reduceLE, Int.reduceGT, Int.reduceGE, Int.reduceNeg, BEq.rfl, bne_self_eq_false, ge_iff_le, gt_iff_lt]
  · rw [List.mem_singleton] at q
    have := c4 k hk
    omega
  · rw [List.mem_singleton] at hk
    exact .inr (by omega)
/-- Since's rounds -/
theorem since_loop {H0 : Hp} (hs : Small m) (hr : ∀ r ∈ m.recs, r.2.length ≤ 100000) {most : Int} (h0 : Lg H0 lp p m l) (hf : ∀ j ∈ lf lp p l, j < H0.next) : ∀ (n i : Nat) (x : AV) (rs : List (Nat × List Nat)) (ys : List AV) (H : Hp), m.recs.length = i + n → Lg H lp p m l → Out [] H0 H → Rs H x rs ys → (∀ j ∈ rid x, H0.next ≤ j) → rs.length ≤ i →
    ∃ x' ys' H', (∀ k : K.Fn 1, l_wal_Log_Since JN GO cK k (.ptr lp 0) (.int .i64 (m.first + (i : Nat))) (.int .i64 most) x H = k x' H') ∧ Lg H' lp p m l ∧ Out [] H0 H' ∧ Rs H' x' (rs ++ (m.recs.drop i).take (most - rs.length).toNat) ys' ∧ (∀ j ∈ rid x', H0.next ≤ j)
  | 0, i, x, rs, ys, H, hn, h, ho, hx, hd, hl => by
    have hdr : m.recs.drop i = [] := List.drop_eq_nil_of_le (by omega)
    refine ⟨x, ys, H, fun k => ?_, h, ho, by rw [hdr]; simpa using hx, hd⟩
    have e1 := end_c h hs
    have d : decide (m.first + (i : Nat) < endM m) = false := decide_eq_false (by unfold endM; omega)
    rw [ql_wal_Log_Since]
    simp only [e1, d, JN_0, JN_1, JN_2, JN_3, JN_4, JN_5, JN_6, JN_7, JN_8, JN_9, JN_10, JN_11, JN_12, JN_13, JN_14, JN_15, JN_16, JN_17, JN_18, JN_19, JN_20, JN_21, JN_22, JN_23, JN_24, B1_s, B2_s, BN_s, CD_t, CD_f, GO_tt, GO_ft, GO_tf, GO_ff, GO_ut, GO_uf, GD2_tt, GD2_ft, GD2_tf, GD2_ff, pk_t, pk_f, nilA_p, nilA_i, fa_p, fd_a, ex_t, iadd_i, isub_i, imul_i, ieq_i, ine_i, ilt_i, ile_i, igt_i, ige_i, seq_s, sne_s, slt_s, lens_s, lenx_0, lenx_s, not_b, bb_e, bb_n, cv_i, pe_00, pe_0p, pe_p0, eqB_e, eqB_n, List.getElem?_cons_zero, List.getElem?_cons_succ, Nat.zero_add, Bool.not_true, Bool.not_false, decide_true, decide_false, Int.reduceBEq, Int.reduceBNe, Int.reduceLT, Int.reduceLE, Int.reduceGT, Int.reduceGE, Int.reduceNeg, BEq.rfl, bne_self_eq_false, ge_iff_le, gt_iff_lt]
  | n + 1, i, x, rs, ys, H, hn, h, ho, hx, hd, hl => by
    have e1 := end_c h hs
    have d : decide (m.first + (i : Nat) < endM m) = true := decide_eq_true (by unfold endM; omega)
    have hxl := hx.lenc
    by_cases hm : ((rs.length : Nat) : Int) < most
    · have d2 : decide (((rs.length : Nat) : Int) < most) = true := decide_eq_true hm
      have h1 := hs.first
      have h2 := hs.recs
      obtain ⟨r, hj⟩ : ∃ r, m.recs[i]? = some r := ⟨_, List.getElem?_eq_getElem (by omega)⟩
      have hrl := hr r (List.mem_of_getElem? hj)
      have l4 := h.head.ld (o := 4) rfl
      have l3 := h.head.ld (o := 3) rfl
      have w : IntKind.wrap .i64 (m.first + (i : Nat) - m.first) = (i : Nat) := by rw [wrap_i64 (by omega) (by omega)]; omega
      have w2 : IntKind.wrap .i64 (m.first + (i : Nat) + 1) = m.first + ((i + 1 : Nat) : Int) := by rw [wrap_i64 (by omega) (by omega)]; omega
      obtain ⟨b, o, y, a1, a2, a3, a4, a5, a6⟩ := h.recs.lda hj
      obtain ⟨x2, H1, c1, c2, c3, c4⟩ := wclone_c (a := r.1) a5 hrl
      have hx1 := hx.out c3
      have cr := cells_rec c2 ((r.1 : Nat) : Int)
      have f1 : fl [(.int .u64 0), .slice0] [(0, 2, .agg [.int .u64 (r.1 : Nat), x2])] = some [.int .u64 (r.1 : Nat), x2] := by simp [fl, cr]
      have hxlt := hx.own.rw.lt
      obtain ⟨H2, s', H3, m1, m2, m3, m4, m5⟩ := hx1.push (a := r.1) c2 (fun j hj q => by have := c4 j hj; have := hxlt j q; omega) (by omega)
      have ho1 := ho.trans c3
      have ho3 : Out [] H0 H3 := ho1.then m4 fun j hj => .inr (hd j hj)
      have h3 : Lg H3 lp p m l := (h.out0 c3).out m4 (fun j hj q => by have := hf j hj; have := hd j q; omega) fun y hy k hk q => by
        have := h0.recs.ylt y hy k hk
        have := hd k q
        omega
      have hd3 : ∀ j ∈ rid s', H0.next ≤ j := fun j hj => (m5 j hj).elim (hd j) fun q => Nat.le_trans ho1.1 q
      obtain ⟨x', ys', H', k1, k2, k3, k4, k5⟩ := since_loop hs hr h0 hf n (i + 1) s' _ _ H3 (by omega) h3 ho3 m3 hd3 (by simp; omega)
      have a1' := a1 .i64
      refine ⟨x', ys', H', fun k => ?_, k2, k3, ?_, k5⟩
      · rw [ql_wal_Log_Since]
        simp only [e1, d, hxl, d2, l4, l3, w, a1', a2, c1, f1, m1, m2, w2, JN_0, JN_1, JN_2, JN_3, JN_4, JN_5, JN_6, JN_7, JN_8, JN_9, JN_10, JN_11, JN_12, JN_13, JN_14, JN_15, JN_16, JN_17, JN_18, JN_19, JN_20, JN_21, JN_22, JN_23, JN_24, B1_s, B2_s, BN_s, CD_t, CD_f, GO_tt, GO_ft, GO_tf, GO_ff, GO_ut, GO_uf, GD2_tt, GD2_ft, GD2_tf, GD2_ff, pk_t, pk_f, nilA_p, nilA_i, fa_p, fd_a, ex_t, iadd_i, isub_i, imul_i, ieq_i, ine_i, ilt_i, ile_i, igt_i, ige_i, seq_s, sne_s, slt_s, lens_s, lenx_0, lenx_s, not_b, bb_e, bb_n, cv_i, pe_00, pe_0p, pe_p0, eqB_e, eqB_n, List.getElem?_cons_zero, List.getElem?_cons_succ, Nat.zero_add, Bool.not_true, Bool.not_false, decide_true, decide_false, Int.reduceBEq, Int.reduceBNe, Int.reduceLT, Int.reduceLE, Int.reduceGT, Int.reduceGE, Int.reduceNeg, BEq.rfl, bne_self_eq_false, ge_iff_le, gt_iff_lt]
        exact k1 k
      · have e : (m.recs.drop i).take (most - rs.length).toNat = r :: (m.recs.drop (i + 1)).take (most - ((rs ++ [r]).length : Nat)).toNat := by
          have hil := (List.getElem?_eq_some_iff.1 hj).1
          rw [List.drop_eq_getElem_cons hil, (List.getElem?_eq_some_iff.1 hj).2]
          have : (most - ((rs.length : Nat) : Int)).toNat = (most - (((rs ++ [r]).length : Nat) : Int)).toNat + 1 := by
            rw [List.length_append]
            simp only [List.length_cons, List.length_nil]
            omega
          rw [this, List.take_succ_cons]
        rw [e]
        have := k4
        rw [List.append_assoc] at this
        exact this
    · have d2 : decide (((rs.length : Nat) : Int) < most) = false := decide_eq_false hm
      have ht : (most - ((rs.length : Nat) : Int)).toNat = 0 := by omega
      refine ⟨x, ys, H, fun k => ?_, h, ho, by rw [ht]; simpa using hx, hd⟩
      rw [ql_wal_Log_Since]
      simp only [e1, d, hxl, d2, JN_0, JN_1, JN_2, JN_3, JN_4, JN_5, JN_6, JN_7, JN_8, JN_9, JN_10, JN_11, JN_12, JN_13, JN_14, JN_15, JN_16, JN_17, JN_18, JN_19, JN_20, JN_21, JN_22, JN_23, JN_24, B1_s, B2_s, BN_s, CD_t, CD_f, GO_tt, GO_ft, GO_tf, GO_ff, GO_ut, GO_uf, GD2_tt, GD2_ft, GD2_tf, GD2_ff, pk_t, pk_f, nilA_p, nilA_i, fa_p, fd_a, ex_t, iadd_i, isub_i, imul_i, ieq_i, ine_i, ilt_i, ile_i, igt_i, ige_i, seq_s, sne_s, slt_s, lens_s, lenx_0, lenx_s, not_b, bb_e, bb_n, cv_i, pe_00, pe_0p, pe_p0, eqB_e, eqB_n, List.getElem?_cons_zero, List.getElem?_cons_succ, Nat.zero_add, Bool.not_true, Bool.not_false, decide_true, decide_false, Int.reduceBEq, Int.reduceBNe, Int.reduceLT, Int.reduceLE, Int.reduceGT, Int.reduceGE, Int.reduceNeg, BEq.rfl, bne_self_eq_false, ge_iff_le, gt_iff_lt]
end
theorem rs_nil (H : Hp) : Rs H .slice0 [] [] := ⟨.nil, rfl, (fun j y r h => by simp at h), (fun y h => by cases h)⟩
section
variable {H : Hp} {lp p : Nat} {m : LM} {l : LP}
theorem since_c (h : Lg H lp p m l) (hs : Small m) (hr : ∀ r ∈ m.recs, r.2.length ≤ 100000) (off most : Int) :
    ∃ x ys H', cK (.func (.func 9) [] []) [.ptr lp 0, .int .i64 off, .int .i64 most] H = some (x, H') ∧ Lg H' lp p m l ∧ Out [] H H' ∧ Rs H' x ((m.recs.drop ((if off < m.first then m.first else off) - m.first).toNat).take most.toNat) ys := by
  have l4 := h.head.ld (o := 4) rfl
  have e1 := end_c h hs
  have h1 := hs.first
  have h2 := hs.recs
  generalize hv : (if off < m.first then m.first else off) = v
  have hv1 : m.first ≤ v := by subst hv; split <;> omega
  have hmx : builtinA P .max #[2, 2] [.int .i64 off, .int .i64 m.first] H = some (.int .i64 v, H) := by rw [max_i, hv]
  by_cases hb : v < endM m
  · obtain ⟨x', ys', H', k1, k2, k3, k4, k5⟩ := since_loop hs hr (most := most) h h.lt (m.recs.length - (v - m.first).toNat) (v - m.first).toNat .slice0 [] [] H (by unfold endM at hb; omega) h (Out.refl _ _) (rs_nil _) (fun j hj => by cases hj) (Nat.zero_le _)
    rw [show m.first + (((v - m.first).toNat : Nat) : Int) = v by omega] at k1
    refine ⟨x', ys', H', c_wal_Log_Since ?_, k2, k3, by simpa using k4⟩
    unfold s_wal_Log_Since
    simp only [l4, hmx, k1, JN_0, JN_1, JN_2, JN_3, JN_4, JN_5, JN_6, JN_7, JN_8, JN_9, JN_10, JN_11, JN_12, JN_13, JN_14, JN_15, JN_16, JN_17, JN_18, JN_19, JN_20, JN_21, JN_22, JN_23, JN_24, B1_s, B2_s, BN_s, CD_t, CD_f, GO_tt, GO_ft, GO_tf, GO_ff, GO_ut, GO_uf, GD2_tt, GD2_ft, GD2_tf, GD2_ff, pk_t, pk_f, nilA_p, nilA_i, fa_p, fd_a, ex_t, iadd_i, isub_i, imul_i, ieq_i, ine_i, ilt_i, ile_i, igt_i, ige_i, seq_s, sne_s, slt_s, lens_s, lenx_0, lenx_s, not_b, bb_e, bb_n, cv_i, pe_00, pe_0p, pe_p0, eqB_e, eqB_n, List.getElem?_cons_zero, List.getElem?_cons_succ, Nat.zero_add, Bool.not_true, Bool.not_false, decide_true, decide_false, Int.reduceBEq, Int.reduceBNe, Int.reduceLT, Int.reduceLE, Int.reduceGT, Int.reduceGE, Int.reduceNeg, BEq.rfl, bne_self_eq_false, ge_iff_le, gt_iff_lt]
  · have hdr : m.recs.drop (v - m.first).toNat = [] := List.drop_eq_nil_of_le (by unfold endM at hb; omega)
    have d : decide (v < endM m) = false := decide_eq_false hb
    refine ⟨.slice0, [], H, c_wal_Log_Since ?_, h, Out.refl _ _, by rw [hdr]; simpa using (rs_nil H)⟩
    unfold s_wal_Log_Since
    simp only [l4, hmx, JN_0, JN_1, JN_2, JN_3, JN_4, JN_5, JN_6, JN_7, JN_8, JN_9, JN_10, JN_11, JN_12, JN_13, JN_14, JN_15, JN_16, JN_17, JN_18, JN_19, JN_20, JN_21, JN_22, JN_23, JN_24, B1_s, B2_s, BN_s, CD_t, CD_f, GO_tt, GO_ft, GO_tf, GO_ff, GO_ut, GO_uf, GD2_tt, GD2_ft, GD2_tf, GD2_ff, pk_t, pk_f, nilA_p, nilA_i, fa_p, fd_a, ex_t, iadd_i, isub_i, imul_i, ieq_i, ine_i, ilt_i, ile_i, igt_i, ige_i, seq_s, sne_s, slt_s, lens_s, lenx_0, lenx_s, not_b, bb_e, bb_n, cv_i, pe_00, pe_0p, pe_p0, eqB_e, eqB_n, List.getElem?_cons_zero, List.getElem?_cons_succ, Nat.zero_add, Bool.not_true, Bool.not_false, decide_true, decide_false, Int.reduceBEq, Int.reduceBNe, Int.reduceLT, Int.reduceLE, Int.reduceGT, Int.reduceGE, Int.reduceNeg, BEq.rfl, bne_self_eq_false, ge_iff_le, gt_iff_lt]
    rw [ql_wal_Log_Since]
    simp only [e1, d, JN_0, JN_1, JN_2, JN_3, JN_4, JN_5, JN_6, JN_7, JN_8, JN_9, JN_10, JN_11, JN_12, JN_13, JN_14, JN_15, JN_16, JN_17, JN_18, JN_19, JN_20, JN_21, JN_22, JN_23, JN_24, B1_s, B2_s, BN_s, CD_t, CD_f, GO_tt, GO_ft, GO_tf, GO_ff, GO_ut, GO_uf, GD2_tt, GD2_ft, GD2_tf, GD2_ff, pk_t, pk_f, nilA_p, nilA_i, fa_p, fd_a, ex_t, iadd_i, isub_i, imul_i, ieq_i, ine_i, ilt_i, ile_i, igt_i, ige_i, seq_s, sne_s, slt_s, lens_s, lenx_0, lenx_s, not_b, bb_e, bb_n, cv_i, pe_00, pe_0p, pe_p0, eqB_e, eqB_n, List.getElem?_cons_zero, List.getElem?_cons_succ, Nat.zero_add, Bool.not_true, Bool.not_false, decide_true, decide_false, Int.reduceBEq, Int.reduceBNe, Int.reduceLT, Int.reduceLE, Int.reduceGT, Int.reduceGE, Int.reduceNeg, BEq.rfl, bne_self_eq_false, ge_iff_le, gt_iff_lt]
end
theorem pickZ_nil : pickZ [] = [] := by
  have h : ∀ z, z ∉ pickZ [] := fun z hz => by
    obtain ⟨s, hs, _⟩ := (pickZ_mem [] z).1 hz
    cases hs
  cases hq : pickZ [] with
  | nil => rfl
  | cons a r => exact absurd (hq ▸ List.Mem.head _) (h a)
/-- a log on a new store -/
def newM (r : Nat) (most : Int) : LM := ⟨most, ⟨r, false, 0, [], []⟩, [], [], 0, 0⟩
theorem newM_small (r : Nat) (most : Int) : Small (newM r most) := ⟨⟨Int.le_refl _, by show (0 : Int) ≤ 17592186040000; decide⟩, Nat.zero_le _, (fun r h => by cases h), Nat.zero_le _, (fun q h => by cases h)⟩
theorem open_new {H : Hp} {p r : Nat} {L : Lay} (h : St H p ⟨r, false, 0, [], []⟩ L) (hT : hasT H begin0) (hn : 11 ≤ H.next) {most : Int} (h1 : 64 ≤ most) (h2 : most ≤ 1048576) :
    ∃ lp l H', cK (.func (.func 15) [] []) [.ptr p 0, .int .i64 most] H = some (.tuple [.ptr lp 0, .int .i64 0], H') ∧ Lg H' lp p (newM r most) l ∧ Out [] H H' ∧ (∀ j ∈ lf lp p l, H.next ≤ j ∨ j ∈ foot p L) := by
  have d1 : decide (most < 64) = false := decide_eq_false (by omega)
  have d2 : decide (1048576 < most) = false := decide_eq_false (by omega)
  have e1 := StC.off_c h
  simp only at e1
  have hf : fl [.ptr0, (.int .i64 0), .slice0, .slice0, (.int .i64 0), (.int .i64 0)] [(0, 1, AV.ptr p 0), (1, 1, AV.int .i64 most)] = some [.ptr p 0, .int .i64 most, .slice0, .slice0, .int .i64 0, .int .i64 0] := rfl
  obtain ⟨H1, b1, b2, b3, b4⟩ := bx_ok H 57 (.agg [.ptr p 0, .int .i64 most, .slice0, .slice0, .int .i64 0, .int .i64 0]) _ rfl (by simp)
  have h1' := h.out b3 fun j _ q => by cases q
  obtain ⟨x, H2, n1, n2, n3, n4, n5⟩ := names_c h1'
  have n2' : Rw H2 1 x (SgK.strs []) := n2
  have o2 : Out [] H H2 := b3.trans n3
  obtain ⟨y, H3, p1, p2, p3⟩ := pick_c n2' (hasT_out hT hn o2) (Nat.le_trans hn o2.1) (by simp) (fun s hs => by cases hs)
  rw [pickZ_nil] at p3
  have yl := p3.rw.len1
  have yl : lenx y = some (.int .i64 0) := yl
  have o3 : Out [] H H3 := o2.trans p2
  have hd3 := (b2.out n3 fun q => by cases q).out p2 fun q => by cases q
  have hlp : H.next ∉ foot p L := fun q => by have := h.lt _ q; omega
  have g3 : Lg H3 H.next p (newM r most) ⟨L, .slice0, .slice0, []⟩ := ⟨⟨_, hd3⟩, h.out o3 (fun j _ q => by cases q), OL.nil _ _ _, rs_nil _, nd_mk h.nd (fun q => by cases q) (fun q => by cases q) hlp (fun j hj => by cases hj) (fun j hj => by cases hj) (fun j hj => by cases hj), (fun y hy => by cases hy)⟩
  have e2 := end_c g3 (newM_small r most)
  have e0 : endM (newM r most) = 0 := rfl
  rw [e0] at e2
  obtain ⟨H4, s1, s2, s3, s4⟩ := g3.head.st (o := 5) (v := .int .i64 0) (by simp) rfl
  have l32 := g3.head.ld (o := 2) rfl
  have o4 : Out [] H H4 := o3.then s3 fun j hj => by rw [List.mem_singleton] at hj; exact .inr (by omega)
  have rd : cK (.func (.func 36) [] []) [.ptr H.next 0, y] H3 = some (.int .i64 0, H3) := by
    refine c_wal_Log_read ?_
    unfold s_wal_Log_read
    simp only [yl, Int.natCast_zero, show (((0 : Nat) : Int)) = 0 from rfl, JN_0, JN_1, JN_2, JN_3, JN_4, JN_5, JN_6, JN_7, JN_8, JN_9, JN_10, JN_11, JN_12, JN_13, JN_14, JN_15, JN_16, JN_17, JN_18, JN_19, JN_20, JN_21, JN_22, JN_23, JN_24, B1_s, B2_s, BN_s, CD_t, CD_f, GO_tt, GO_ft, GO_tf, GO_ff, GO_ut, GO_uf, GD2_tt, GD2_ft, GD2_tf, GD2_ff, pk_t, pk_f, nilA_p, nilA_i, fa_p, fd_a, ex_t, iadd_i, isub_i, imul_i, ieq_i, ine_i, ilt_i, ile_i, igt_i, ige_i, seq_s, sne_s, slt_s, lens_s, lenx_0, lenx_s, not_b, bb_e, bb_n, cv_i, pe_00, pe_0p, pe_p0, eqB_e, eqB_n, List.getElem?_cons_zero, List.getElem?_cons_succ, Nat.zero_add, Bool.not_true, Bool.not_false, decide_true, decide_false, Int.reduceBEq, Int.reduceBNe, Int.reduceLT, Int.reduceLE, Int.reduceGT, Int.reduceGE, Int.reduceNeg, BEq.rfl, bne_self_eq_false, ge_iff_le, gt_iff_lt]
    rw [ql_wal_Log_read]
    simp only [JN_0, JN_1, JN_2, JN_3, JN_4, JN_5, JN_6, JN_7, JN_8, JN_9, JN_10, JN_11, JN_12, JN_13, JN_14, JN_15, JN_16, JN_17, JN_18, JN_19, JN_20, JN_21, JN_22, JN_23, JN_24, B1_s, B2_s, BN_s, CD_t, CD_f, GO_tt, GO_ft, GO_tf, GO_ff, GO_ut, GO_uf, GD2_tt, GD2_ft, GD2_tf, GD2_ff, pk_t, pk_f, nilA_p, nilA_i, fa_p, fd_a, ex_t, iadd_i, isub_i, imul_i, ieq_i, ine_i, ilt_i, ile_i, igt_i, ige_i, seq_s, sne_s, slt_s, lens_s, lenx_0, lenx_s, not_b, bb_e, bb_n, cv_i, pe_00, pe_0p, pe_p0, eqB_e, eqB_n, List.getElem?_cons_zero, List.getElem?_cons_succ, Nat.zero_add, Bool.not_true, Bool.not_false, decide_true, decide_false, Int.reduceBEq, Int.reduceBNe, Int.reduceLT, Int.reduceLE, Int.reduceGT, Int.reduceGE, Int.reduceNeg, BEq.rfl, bne_self_eq_false, ge_iff_le, gt_iff_lt]
  refine ⟨H.next, ⟨L, .slice0, .slice0, []⟩, H4, c_wal_Open ?_, ⟨s2, g3.st.out s3 (fun j hj q => hlp (by rw [List.mem_singleton] at q; exact q ▸ hj)), OL.nil _ _ _, rs_nil _, g3.nd, (fun y hy => by cases hy)⟩, o4, fun j hj => ?_⟩
  · unfold s_wal_Open
    simp only [d1, d2, e1, hf, b1, n1, p1, rd, l32, JN_0, JN_1, JN_2, JN_3, JN_4, JN_5, JN_6, JN_7, JN_8, JN_9, JN_10, JN_11, JN_12, JN_13, JN_14, JN_15, JN_16, JN_17, JN_18, JN_19, JN_20, JN_21, JN_22, JN_23, JN_24, B1_s, B2_s, BN_s, CD_t, CD_f, GO_tt, GO_ft, GO_tf, GO_ff, GO_ut, GO_uf, GD2_tt, GD2_ft, GD2_tf, GD2_ff, pk_t, pk_f, nilA_p, nilA_i, fa_p, fd_a, ex_t, iadd_i, isub_i, imul_i, ieq_i, ine_i, ilt_i, ile_i, igt_i, ige_i, seq_s, sne_s, slt_s, lens_s, lenx_0, lenx_s, not_b, bb_e, bb_n, cv_i, pe_00, pe_0p, pe_p0, eqB_e, eqB_n, List.getElem?_cons_zero, List.getElem?_cons_succ, Nat.zero_add, Bool.not_true, Bool.not_false, decide_true, decide_false, Int.reduceBEq, Int.reduceBNe, Int.reduceLT, Int.reduceLE, Int.reduceGT, Int.reduceGE, Int.reduceNeg, BEq.rfl, bne_self_eq_false, ge_iff_le, gt_iff_lt]
    rw [ql_wal_Open]
    simp only [e2, s1, JN_0, JN_1, JN_2, JN_3, JN_4, JN_5, JN_6, JN_7, JN_8, JN_9, JN_10, JN_11, JN_12, JN_13, JN_14, JN_15, JN_16, JN_17, JN_18, JN_19, JN_20, JN_21, JN_22, JN_23, JN_24, B1_s, B2_s, BN_s, CD_t, CD_f, GO_tt, GO_ft, GO_tf, GO_ff, GO_ut, GO_uf, GD2_tt, GD2_ft, GD2_tf, GD2_ff, pk_t, pk_f, nilA_p, nilA_i, fa_p, fd_a, ex_t, iadd_i, isub_i, imul_i, ieq_i, ine_i, ilt_i, ile_i, igt_i, ige_i, seq_s, sne_s, slt_s, lens_s, lenx_0, lenx_s, not_b, bb_e, bb_n, cv_i, pe_00, pe_0p, pe_p0, eqB_e, eqB_n, List.getElem?_cons_zero, List.getElem?_cons_succ, Nat.zero_add, Bool.not_true, Bool.not_false, decide_true, decide_false, Int.reduceBEq, Int.reduceBNe, Int.reduceLT, Int.reduceLE, Int.reduceGT, Int.reduceGE, Int.reduceNeg, BEq.rfl, bne_self_eq_false, ge_iff_le, gt_iff_lt]
  · rcases lf_cases hj with rfl | hj | hj | hj
    · exact .inl (Nat.le_refl _)
    · cases hj
    · cases hj
    · exact .inr hj
theorem begun_c {H : Hp} (hT : hasT H begin0) (hn : 11 ≤ H.next) {most : Int} (h1 : 64 ≤ most) (h2 : most ≤ 1048576) :
    ∃ lp p l H', cK (.func (.func 7) [] []) [.int .i64 most] H = some (.tuple [.ptr lp 0, .ptr p 0], H') ∧ Lg H' lp p (newM 65536 most) l ∧ Out [] H H' ∧ (∀ j ∈ lf lp p l, H.next ≤ j) := by
  obtain ⟨H1, p, L, n1, n2, n3, n4⟩ := (new_c H 65536).2 65536 rfl (by omega) (by omega)
  obtain ⟨lp, l, H2, o1, o2, o3, o4⟩ := open_new n2 (hasT_out hT hn n3) (Nat.le_trans hn n3.1) h1 h2
  refine ⟨lp, p, l, H2, c_outriderlaw7_begun ?_, o2, n3.trans o3, fun j hj => (o4 j hj).elim (fun q => Nat.le_trans n3.1 q) (n4 j)⟩
  unfold s_outriderlaw7_begun
  simp only [n1, o1, JN_0, JN_1, JN_2, JN_3, JN_4, JN_5, JN_6, JN_7, JN_8, JN_9, JN_10, JN_11, JN_12, JN_13, JN_14, JN_15, JN_16, JN_17, JN_18, JN_19, JN_20, JN_21, JN_22, JN_23, JN_24, B1_s, B2_s, BN_s, CD_t, CD_f, GO_tt, GO_ft, GO_tf, GO_ff, GO_ut, GO_uf, GD2_tt, GD2_ft, GD2_tf, GD2_ff, pk_t, pk_f, nilA_p, nilA_i, fa_p, fd_a, ex_t, iadd_i, isub_i, imul_i, ieq_i, ine_i, ilt_i, ile_i, igt_i, ige_i, seq_s, sne_s, slt_s, lens_s, lenx_0, lenx_s, not_b, bb_e, bb_n, cv_i, pe_00, pe_0p, pe_p0, eqB_e, eqB_n, List.getElem?_cons_zero, List.getElem?_cons_succ, Nat.zero_add, Bool.not_true, Bool.not_false, decide_true, decide_false, Int.reduceBEq, Int.reduceBNe, Int.reduceLT, Int.reduceLE, Int.reduceGT, Int.reduceGE, Int.reduceNeg, BEq.rfl, bne_self_eq_false, ge_iff_le, gt_iff_lt]
/-- a row of rows of bytes -/
def Bl (H : Hp) (x : AV) (ls : List (List Nat)) : Prop := ∃ cs, Rw H 1 x cs ∧ cs.length = ls.length ∧ ∀ (j : Nat) (b : List Nat), ls[j]? = some b → ∃ y, cs[j]? = some y ∧ Rw H 1 y (bs b)
theorem bl_of {H : Hp} {x : AV} {d : D} (h : Is H (.slice 1 (.slice 1 (.int .u8))) [x] d) : ∃ ls, Bl H x ls ∧ ∀ b ∈ ls, ∀ v ∈ b, v < 256 := by
  cases h with
  | @slice _ _ _ cs ds hr hl hd =>
    obtain ⟨ls, h1, h2⟩ := pick_list (fun j (b : List Nat) => (∃ y, cs[j]? = some y ∧ Rw H 1 y (bs b)) ∧ ∀ v ∈ b, v < 256) ds.length (fun j hj => by
      have hs := hd j _ (List.getElem?_eq_getElem hj)
      obtain ⟨y, b, e, h2, h3⟩ := is_b hs
      refine ⟨b, ⟨y, ?_, h2⟩, h3⟩
      have := congrArg (fun z => z[0]?) e
      simp only [List.getElem?_cons_zero, List.getElem?_take, List.getElem?_drop, Nat.mul_one, Nat.add_zero] at this
      split at this
      · exact this.symm
      · cases this)
    refine ⟨ls, ⟨cs, hr, by rw [hl, h1, Nat.mul_one], fun j b hb => (h2 j b hb).1⟩, fun b hb => ?_⟩
    obtain ⟨j, hj⟩ := List.mem_iff_getElem?.1 hb
    exact (h2 j b hj).2
theorem Bl.out {H H' : Hp} {x : AV} {ls : List (List Nat)} (h : Bl H x ls) (k : Out [] H H') : Bl H' x ls := by
  obtain ⟨cs, h1, h2, h3⟩ := h
  refine ⟨cs, h1.out k (fun j _ q => by cases q), h2, fun j b hb => ?_⟩
  obtain ⟨y, a, c⟩ := h3 j b hb
  exact ⟨y, a, c.out k fun j _ q => by cases q⟩
theorem Bl.lenc {H : Hp} {x : AV} {ls : List (List Nat)} (h : Bl H x ls) : lenx x = some (.int .i64 (ls.length : Nat)) := by
  obtain ⟨cs, h1, h2, h3⟩ := h
  rw [h1.len1, h2]
theorem Bl.at {H : Hp} {x : AV} {ls : List (List Nat)} (h : Bl H x ls) {j : Nat} {b : List Nat} (hj : ls[j]? = some b) : ∃ q y, ia 1 x (.int .i64 (j : Nat)) = some q ∧ ld q H = some y ∧ Rw H 1 y (bs b) := by
  obtain ⟨cs, h1, h2, h3⟩ := h
  obtain ⟨y, a, c⟩ := h3 j b hj
  obtain ⟨q, u1, u2⟩ := h1.ia1 a .i64
  exact ⟨q, y, u1, u2, c⟩
/-- records of an epoch, from a place on -/
def rcE (e : Nat) : Nat → List (List Nat) → List (Nat × List Nat)
  | _, [] => []
  | i, b :: r => (e * 17592186044416 + i, b) :: rcE e (i + 1) r
theorem rcE_len (e : Nat) : ∀ (i : Nat) (l : List (List Nat)), (rcE e i l).length = l.length
  | i, [] => rfl
  | i, b :: r => by rw [rcE, List.length_cons, rcE_len e (i + 1) r, List.length_cons]
theorem rcE_app (e : Nat) : ∀ (l : List (List Nat)) (i : Nat) (b : List Nat), rcE e i (l ++ [b]) = rcE e i l ++ [(e * 17592186044416 + (i + l.length), b)]
  | [], i, b => rfl
  | c :: l, i, b => by
    rw [List.cons_append, rcE, rcE_app e l (i + 1) b, rcE, List.cons_append, List.length_cons, show i + 1 + l.length = i + (l.length + 1) by omega]
theorem rcE_mem (e : Nat) : ∀ (l : List (List Nat)) (i : Nat) (r : Nat × List Nat), r ∈ rcE e i l → ∃ k, r.1 = e * 17592186044416 + k ∧ k < i + l.length ∧ r.2 ∈ l
  | [], i, r, h => by cases h
  | c :: l, i, r, h => by
    rcases List.mem_cons.1 h with rfl | h
    · exact ⟨i, rfl, by simp, .head _⟩
    · obtain ⟨k, h1, h2, h3⟩ := rcE_mem e l (i + 1) r h
      exact ⟨k, h1, by rw [List.length_cons]; omega, .tail _ h3⟩
theorem rcE_get (e : Nat) : ∀ (l : List (List Nat)) (i j : Nat) (b : List Nat), l[j]? = some b → (rcE e i l)[j]? = some (e * 17592186044416 + (i + j), b)
  | c :: l, i, 0, b, h => by cases h; rfl
  | c :: l, i, j + 1, b, h => by
    rw [rcE, List.getElem?_cons_succ, rcE_get e l (i + 1) j b h, show i + 1 + j = i + (j + 1) by omega]
/-- what holds of a log behind some Appends of small records -/
structure Inv (m : LM) (i : Nat) (R : List (Nat × List Nat)) : Prop where
  first : m.first = 0
  recs : m.recs = R
  len : R.length = i
  off : m.m.off = false
  fuse : m.m.fuse = 0
  room : m.m.room = 65536
  sum : sumB m.m.fs ≤ i * 116
  files : m.m.fs.length ≤ i
  parts : m.parts.length ≤ i
  part : ∀ q ∈ m.parts, (0 ≤ q.1 ∧ q.1 ≤ i) ∧ 0 ≤ q.2 ∧ q.2 ≤ i * 116
theorem Inv.small {m : LM} {i : Nat} {R : List (Nat × List Nat)} (h : Inv m i R) (hi : i ≤ 100) (hR : ∀ r ∈ R, r.1 < 18446744073709551616) : Small m :=
  ⟨by rw [h.first]; omega, by rw [h.recs, h.len]; omega, fun r hr => hR r (h.recs ▸ hr), by have := h.parts; omega, fun q hq => by have := h.part q hq; omega⟩
theorem inv_step {H : Hp} {lp p : Nat} {m : LM} {l : LP} {i : Nat} {R : List (Nat × List Nat)} (h : Lg H lp p m l) (hI : Inv m i R) (hi : i ≤ 25) {a : Nat} {b : List Nat} (hb : b.length ≤ 100) : Inv (apM m a b) (i + 1) (R ++ [(a, b)]) := by
  have frl := fr_len a b
  have h1 := hI.sum
  have h2 := hI.files
  have hE : endM m = (i : Nat) := by unfold endM; rw [hI.first, hI.recs, hI.len]; omega
  have key : ∀ f : Int, inN f = true → ∃ m', (appM m.m (nms f) (fr a b)).2 = m' ∧ m'.off = false ∧ m'.fuse = 0 ∧ m'.room = m.m.room ∧ sumB m'.fs = sumB m.m.fs + (16 + b.length) ∧ m'.fs.length ≤ m.m.fs.length + 1 := by
    intro f hf
    obtain ⟨m', s0, s1, s2, s3, s4, s5⟩ := app_some h.st (at' := nms f) (b := fr a b) hI.off hI.fuse (okName_nms hf) (by rw [frl, hI.room]; omega) (by omega)
    exact ⟨m', by rw [s0], s1, s2, s3, by rw [s4, frl], s5⟩
  unfold apM
  split
  · obtain ⟨m', s0, s1, s2, s3, s4, s5⟩ := key (endM m) (by rw [hE]; exact inN_t (by omega) (by omega))
    rw [s0]
    refine ⟨hI.first, by simp [hI.recs], by simp [hI.len], s1, s2, s3.trans hI.room, by rw [s4]; omega, by show m'.fs.length ≤ i + 1; omega, ?_, fun q hq => ?_⟩
    · have := hI.parts
      simp; omega
    · rcases List.mem_append.1 hq with hq | hq
      · have := hI.part q hq; omega
      · rw [List.mem_singleton] at hq
        subst hq
        simp only [hE]; omega
  · rename_i hn
    have hne : 1 ≤ m.parts.length := by
      cases hq : m.parts with
      | nil => exact absurd (.inl hq) hn
      | cons q r => simp
    have hlast : lastP m ∈ m.parts := by
      unfold lastP
      rw [List.getLast?_eq_getElem?, List.getElem?_eq_getElem (by omega)]
      exact List.getElem_mem _
    have hp := hI.part _ hlast
    obtain ⟨m', s0, s1, s2, s3, s4, s5⟩ := key (lastP m).1 (inN_t hp.1.1 (by omega))
    rw [s0]
    refine ⟨hI.first, by simp [hI.recs], by simp [hI.len], s1, s2, s3.trans hI.room, by rw [s4]; omega, by show m'.fs.length ≤ i + 1; omega, ?_, fun q hq => ?_⟩
    · have := hI.parts
      rw [List.length_set]; omega
    · rcases List.mem_or_eq_of_mem_set hq with hq | rfl
      · have := hI.part q hq; omega
      · simp only; omega
theorem take_s {α : Type} {l : List α} {i : Nat} {b : α} (h : l[i]? = some b) : l.take (i + 1) = l.take i ++ [b] := by
  rw [List.take_add_one, h]; rfl
theorem ws_loop {H0 : Hp} {x a1 a2 : AV} {ls : List (List Nat)} {lp p : Nat} (hx : Bl H0 x ls) (hb : ∀ b ∈ ls, ∀ v ∈ b, v < 256) (hl : ls.length ≤ 20) (hT : hasT H0 begin0) (hn : 11 ≤ H0.next) :
    ∀ (r : List (List Nat)) (i : Nat) (m : LM) (l : LP) (H : Hp), ls.drop i = r → i ≤ ls.length → Out [] H0 H → Lg H lp p m l → (∀ j ∈ lf lp p l, H0.next ≤ j) → Inv m i (rcE 1 0 (ls.take i)) →
    (∃ H', ∀ k : K.Fn 4, l_outriderlaw7_WalSince JN GO cK k x a1 a2 (.ptr lp 0) (.int .i64 (i : Nat)) H = some (.bool true, H')) ∨
    ∃ m' l' H', (∀ k : K.Fn 4, l_outriderlaw7_WalSince JN GO cK k x a1 a2 (.ptr lp 0) (.int .i64 (i : Nat)) H = k x a1 a2 (.ptr lp 0) H') ∧ Out [] H0 H' ∧ Lg H' lp p m' l' ∧ Inv m' ls.length (rcE 1 0 ls) ∧ ∀ b ∈ r, b.length ≤ 100
  | [], i, m, l, H, hr, hi, ho, h, hf, hI => by
    have hil : i = ls.length := by have : ls.length ≤ i := by simpa using hr
                                   omega
    have hxl := (hx.out ho).lenc
    have d : decide (((i : Nat) : Int) < ((ls.length : Nat) : Int)) = false := decide_eq_false (by omega)
    refine .inr ⟨m, l, H, fun k => ?_, ho, h, ?_, fun b hb => by cases hb⟩
    · rw [ql_outriderlaw7_WalSince]
      simp only [hxl, d, JN_0, JN_1, JN_2, JN_3, JN_4, JN_5, JN_6, JN_7, JN_8, JN_9, JN_10, JN_11, JN_12, JN_13, JN_14, JN_15, JN_16, JN_17, JN_18, JN_19, JN_20, JN_21, JN_22, JN_23, JN_24, B1_s, B2_s, BN_s, CD_t, CD_f, GO_tt, GO_ft, GO_tf, GO_ff, GO_ut, GO_uf, GD2_tt, GD2_ft, GD2_tf, GD2_ff, pk_t, pk_f, nilA_p, nilA_i, fa_p, fd_a, ex_t, iadd_i, isub_i, imul_i, ieq_i, ine_i, ilt_i, ile_i, igt_i, ige_i, seq_s, sne_s, slt_s, lens_s, lenx_0, lenx_s, not_b, bb_e, bb_n, cv_i, pe_00, pe_0p, pe_p0, eqB_e, eqB_n, List.getElem?_cons_zero, List.getElem?_cons_succ, Nat.zero_add, Bool.not_true, Bool.not_false, decide_true, decide_false, Int.reduceBEq, Int.reduceBNe, Int.reduceLT, Int.reduceLE, Int.reduceGT, Int.reduceGE, Int.reduceNeg, BEq.rfl, bne_self_eq_false, ge_iff_le, gt_iff_lt]
    · rw [hil, List.take_length] at hI
      exact hI
  | b :: r, i, m, l, H, hr, hi, ho, h, hf, hI => by
    obtain ⟨hi', hv, hr'⟩ := K.hd_drop hr
    have hx1 := hx.out ho
    have hxl := hx1.lenc
    have d : decide (((i : Nat) : Int) < ((ls.length : Nat) : Int)) = true := decide_eq_true (by omega)
    obtain ⟨q, y, u1, u2, u3⟩ := hx1.at hv
    have hyl := u3.len1
    rw [bs_len] at hyl
    by_cases hbig : 100 < b.length
    · have d2 : decide ((100 : Int) < ((b.length : Nat) : Int)) = true := decide_eq_true (by omega)
      refine .inl ⟨H, fun k => ?_⟩
      rw [ql_outriderlaw7_WalSince]
      simp only [hxl, d, u1, u2, hyl, d2, JN_0, JN_1, JN_2, JN_3, JN_4, JN_5, JN_6, JN_7, JN_8, JN_9, JN_10, JN_11, JN_12, JN_13, JN_14, JN_15, JN_16, JN_17, JN_18, JN_19, JN_20, JN_21, JN_22, JN_23, JN_24, B1_s, B2_s, BN_s, CD_t, CD_f, GO_tt, GO_ft, GO_tf, GO_ff, GO_ut, GO_uf, GD2_tt, GD2_ft, GD2_tf, GD2_ff, pk_t, pk_f, nilA_p, nilA_i, fa_p, fd_a, ex_t, iadd_i, isub_i, imul_i, ieq_i, ine_i, ilt_i, ile_i, igt_i, ige_i, seq_s, sne_s, slt_s, lens_s, lenx_0, lenx_s, not_b, bb_e, bb_n, cv_i, pe_00, pe_0p, pe_p0, eqB_e, eqB_n, List.getElem?_cons_zero, List.getElem?_cons_succ, Nat.zero_add, Bool.not_true, Bool.not_false, decide_true, decide_false, Int.reduceBEq, Int.reduceBNe, Int.reduceLT, Int.reduceLE, Int.reduceGT, Int.reduceGE, Int.reduceNeg, BEq.rfl, bne_self_eq_false, ge_iff_le, gt_iff_lt]
    · have d2 : decide ((100 : Int) < ((b.length : Nat) : Int)) = false := decide_eq_false (by omega)
      have hmem : ∀ r ∈ rcE 1 0 (ls.take i), r.1 / 17592186044416 = 1 ∧ r.1 < 18446744073709551616 := by
        intro r hr
        obtain ⟨k, k1, k2, k3⟩ := rcE_mem 1 _ _ r hr
        rw [List.length_take] at k2
        omega
      have hs := hI.small (by omega) fun r hr => (hmem r hr).2
      have hE : endM m = (i : Nat) := by unfold endM; rw [hI.first, hI.recs, hI.len]; omega
      have hep : epM m ≤ ((1 : Nat) : Int) := by
        unfold epM
        rw [hI.recs]
        cases hq : (rcE 1 0 (ls.take i)).getLast? with
        | none => simp
        | some z => have := (hmem z (List.mem_of_getLast? hq)).1; simp only; omega
      have hh1 := hI.sum
      have hh2 := hI.files
      have hylt := u3.lt
      obtain ⟨H1, l1, a1', a2', a3'⟩ := append_c h hs (hasT_out hT hn ho) (Nat.le_trans hn ho.1) (ep := 1) (E := i) u3 (hb b (List.mem_of_getElem? hv)) (by omega) hep (by decide) hE (by omega) hI.off hI.fuse (by rw [hI.room]; omega) (by omega) (fun q hq => by have := hI.part q hq; exact inN_t this.1.1 (by omega))
      have hI1 := inv_step h hI (by omega) (a := 1 * 17592186044416 + i) (b := b) (by omega)
      have hR : rcE 1 0 (ls.take i) ++ [(1 * 17592186044416 + i, b)] = rcE 1 0 (ls.take (i + 1)) := by
        rw [take_s hv, rcE_app, List.length_take, Nat.min_eq_left (by omega), Nat.zero_add]
      rw [hR] at hI1
      have ho1 : Out [] H0 H1 := ho.then a3'.1 fun j hj => .inr (hf j hj)
      have hf1 : ∀ j ∈ lf lp p l1, H0.next ≤ j := fun j hj => (a3'.2 j hj).elim (hf j) fun q => Nat.le_trans ho.1 q
      have e3 : IntKind.wrap .i64 (((i : Nat) : Int) + 1) = ((i + 1 : Nat) : Int) := by rw [wrap_i64 (by omega) (by omega)]; rfl
      rw [show (((1 : Nat) : Int)) = 1 from rfl] at a1'
      rcases ws_loop hx hb hl hT hn r (i + 1) _ l1 H1 hr' (by omega) ho1 a2' hf1 hI1 with ⟨H2, k1⟩ | ⟨m2, l2, H2, k1, k2, k3, k4, k5⟩
      · refine .inl ⟨H2, fun k => ?_⟩
        rw [ql_outriderlaw7_WalSince]
        (simp only [hxl, d, u1, u2, hyl, d2, a1', e3, JN_0, JN_1, JN_2, JN_3, JN_4, JN_5, JN_6, JN_7, JN_8, JN_9, JN_10, JN_11, JN_12, JN_13, JN_14, JN_15, JN_16, JN_17, JN_18, JN_19, JN_20, JN_21, JN_22, JN_23, JN_24, B1_s, B2_s, BN_s, CD_t, CD_f, GO_tt, GO_ft, GO_tf, GO_ff, GO_ut, GO_uf, GD2_tt, GD2_ft, GD2_tf, GD2_ff, pk_t, pk_f, nilA_p, nilA_i, fa_p, fd_a, ex_t, iadd_i, isub_i, imul_i, ieq_i, ine_i, ilt_i, ile_i, igt_i, ige_i, seq_s, sne_s, slt_s, lens_s, lenx_0, lenx_s, not_b, bb_e, bb_n, cv_i, pe_00, pe_0p, pe_p0, eqB_e, eqB_n, List.getElem?_cons_zero, List.getElem?_cons_succ, Nat.zero_add, Bool.not_true, Bool.not_false, decide_true, decide_false, Int.reduceBEq, Int.reduceBNe, Int.reduceLT, Int.reduceLE, Int.reduceGT, Int.reduceGE, Int.reduceNeg, BEq.rfl, bne_self_eq_false, ge_iff_le, gt_iff_lt]; exact k1 k)
      · refine .inr ⟨m2, l2, H2, fun k => ?_, k2, k3, k4, fun c hc => ?_⟩
        · rw [ql_outriderlaw7_WalSince]
          (simp only [hxl, d, u1, u2, hyl, d2, a1', e3, JN_0, JN_1, JN_2, JN_3, JN_4, JN_5, JN_6, JN_7, JN_8, JN_9, JN_10, JN_11, JN_12, JN_13, JN_14, JN_15, JN_16, JN_17, JN_18, JN_19, JN_20, JN_21, JN_22, JN_23, JN_24, B1_s, B2_s, BN_s, CD_t, CD_f, GO_tt, GO_ft, GO_tf, GO_ff, GO_ut, GO_uf, GD2_tt, GD2_ft, GD2_tf, GD2_ff, pk_t, pk_f, nilA_p, nilA_i, fa_p, fd_a, ex_t, iadd_i, isub_i, imul_i, ieq_i, ine_i, ilt_i, ile_i, igt_i, ige_i, seq_s, sne_s, slt_s, lens_s, lenx_0, lenx_s, not_b, bb_e, bb_n, cv_i, pe_00, pe_0p, pe_p0, eqB_e, eqB_n, List.getElem?_cons_zero, List.getElem?_cons_succ, Nat.zero_add, Bool.not_true, Bool.not_false, decide_true, decide_false, Int.reduceBEq, Int.reduceBNe, Int.reduceLT, Int.reduceLE, Int.reduceGT, Int.reduceGE, Int.reduceNeg, BEq.rfl, bne_self_eq_false, ge_iff_le, gt_iff_lt]; exact k1 k)
        · rcases List.mem_cons.1 hc with rfl | hc
          · omega
          · exact k5 c hc
theorem ws_loop1 {x xs : AV} {ls : List (List Nat)} {lp p f : Nat} {m : LM} {l : LP} {rs : List (Nat × List Nat)} {ys : List AV} (hb : ∀ b ∈ ls, ∀ v ∈ b, v < 256) (hl : ls.length ≤ 20) (hs : Small m) (hm : m.first = 0) (hR : m.recs = rcE 1 0 ls) (hle : ∀ b ∈ ls, b.length ≤ 100)
    (hrs : ∀ i r, rs[i]? = some r → m.recs[f + i]? = some r) (hrl : rs.length ≤ 30) : ∀ (n i : Nat) (H : Hp), n = rs.length - i → Lg H lp p m l → Rs H xs rs ys → Bl H x ls →
    ∃ H', ∀ k : K.Fn 0, l_outriderlaw7_WalSince1 JN GO cK k x (.ptr lp 0) xs (.int .i64 (f : Nat)) (.int .i64 (i : Nat)) H = k H'
  | n, i, H, hn, h, hx, hB => by
    have hxl := hx.lenc
    by_cases hi : rs.length ≤ i
    · have d : decide (((i : Nat) : Int) < ((rs.length : Nat) : Int)) = false := decide_eq_false (by omega)
      refine ⟨H, fun k => ?_⟩
      rw [ql_outriderlaw7_WalSince1]
      simp only [hxl, d, JN_0, JN_1, JN_2, JN_3, JN_4, JN_5, JN_6, JN_7, JN_8, JN_9, JN_10, JN_11, JN_12, JN_13, JN_14, JN_15, JN_16, JN_17, JN_18, JN_19, JN_20, JN_21, JN_22, JN_23, JN_24, B1_s, B2_s, BN_s, CD_t, CD_f, GO_tt, GO_ft, GO_tf, GO_ff, GO_ut, GO_uf, GD2_tt, GD2_ft, GD2_tf, GD2_ff, pk_t, pk_f, nilA_p, nilA_i, fa_p, fd_a, ex_t, iadd_i, isub_i, imul_i, ieq_i, ine_i, ilt_i, ile_i, igt_i, ige_i, seq_s, sne_s, slt_s, lens_s, lenx_0, lenx_s, not_b, bb_e, bb_n, cv_i, pe_00, pe_0p, pe_p0, eqB_e, eqB_n, List.getElem?_cons_zero, List.getElem?_cons_succ, Nat.zero_add, Bool.not_true, Bool.not_false, decide_true, decide_false, Int.reduceBEq, Int.reduceBNe, Int.reduceLT, Int.reduceLE, Int.reduceGT, Int.reduceGE, Int.reduceNeg, BEq.rfl, bne_self_eq_false, ge_iff_le, gt_iff_lt]
    · have d : decide (((i : Nat) : Int) < ((rs.length : Nat) : Int)) = true := decide_eq_true (by omega)
      obtain ⟨r, hj⟩ : ∃ r, rs[i]? = some r := ⟨_, List.getElem?_eq_getElem (by omega)⟩
      have hj2 := hrs i r hj
      have hfl := (List.getElem?_eq_some_iff.1 hj2).1
      rw [hR, rcE_len] at hfl
      obtain ⟨b, hbv⟩ : ∃ b, ls[f + i]? = some b := ⟨_, List.getElem?_eq_getElem hfl⟩
      have hrr : r = (1 * 17592186044416 + (0 + (f + i)), b) := by
        have := rcE_get 1 ls 0 (f + i) b hbv
        rw [← hR, hj2] at this
        exact Option.some.inj this
      have hrb : r.2 = b := by rw [hrr]
      have hby := hb b (List.mem_of_getElem? hbv)
      have hbl := hle b (List.mem_of_getElem? hbv)
      obtain ⟨xg, H1, g1, g2, g3, g4⟩ := wget_c h hs hj2 (by rw [hrb]; omega)
      rw [hm, Int.zero_add] at g1
      have w1 : IntKind.wrap .i64 (((f : Nat) : Int) + ((i : Nat) : Int)) = ((f + i : Nat) : Int) := by rw [wrap_i64 (by omega) (by omega)]; rfl
      obtain ⟨H2, n1, n2, n3, n4⟩ := newCells_ok H1 [.int .u64 0, .slice0] 37 0 (by simp)
      obtain ⟨H3, t1, t2, t3, t4⟩ := st_all (n := 2) n2 (by omega) (cells_rec g2 ((r.1 : Nat) : Int)) rfl rfl (by
        intro v hv
        rcases List.mem_cons.1 hv with rfl | hv
        · rfl
        · rcases List.mem_cons.1 hv with rfl | hv
          · exact one_rw g2
          · cases hv)
      have o3 : Out [] H1 H3 := n3.then t3 fun j hj => by rw [List.mem_singleton] at hj; exact .inr (by omega)
      have oH : Out [] H H3 := g3.trans o3
      have l0 : ld (.ptr H1.next 0) H3 = some (.int .u64 ((r.1 : Nat) : Int)) := t2.ld rfl
      have l1 : ld (.ptr H1.next 1) H3 = some xg := t2.ld rfl
      have hx3 := hx.out oH
      have hB3 := hB.out oH
      obtain ⟨bb, o, y, u1, u2, u3, u4, u5, u6⟩ := hx3.lda hj
      have u1' := u1 .i64
      rw [Nat.add_zero] at u3
      have sg := b2s_ok (g2.out o3 fun j _ q => by cases q) (by rw [hrb]; exact hby)
      have sy := b2s_ok u5 (by rw [hrb]; exact hby)
      obtain ⟨q, yl, v1, v2, v3⟩ := hB3.at hbv
      have sl := b2s_ok v3 hby
      rw [hrb] at sg sy
      have e3 : IntKind.wrap .i64 (((i : Nat) : Int) + 1) = ((i + 1 : Nat) : Int) := by rw [wrap_i64 (by omega) (by omega)]; rfl
      obtain ⟨H4, k1⟩ := ws_loop1 hb hl hs hm hR hle hrs hrl (n - 1) (i + 1) H3 (by omega) (h.out0 oH) hx3 hB3
      refine ⟨H4, fun k => ?_⟩
      rw [ql_outriderlaw7_WalSince1]
      simp only [hxl, d, w1, g1, n1, t1, l0, u1', u3, l1, sg, u4, sy, v1, v2, sl, e3, Nat.add_zero, k1, JN_0, JN_1, JN_2, JN_3, JN_4, JN_5, JN_6, JN_7, JN_8, JN_9, JN_10, JN_11, JN_12, JN_13, JN_14, JN_15, JN_16, JN_17, JN_18, JN_19, JN_20, JN_21, JN_22, JN_23, JN_24, B1_s, B2_s, BN_s, CD_t, CD_f, GO_tt, GO_ft, GO_tf, GO_ff, GO_ut, GO_uf, GD2_tt, GD2_ft, GD2_tf, GD2_ff, pk_t, pk_f, nilA_p, nilA_i, fa_p, fd_a, ex_t, iadd_i, isub_i, imul_i, ieq_i, ine_i, ilt_i, ile_i, igt_i, ige_i, seq_s, sne_s, slt_s, lens_s, lenx_0, lenx_s, not_b, bb_e, bb_n, cv_i, pe_00, pe_0p, pe_p0, eqB_e, eqB_n, List.getElem?_cons_zero, List.getElem?_cons_succ, Nat.zero_add, Bool.not_true, Bool.not_false, decide_true, decide_false, Int.reduceBEq, Int.reduceBNe, Int.reduceLT, Int.reduceLE, Int.reduceGT, Int.reduceGE, Int.reduceNeg, BEq.rfl, bne_self_eq_false, ge_iff_le, gt_iff_lt]
termination_by n i H hn => rs.length - i
theorem ws_law {H : Hp} {x : AV} {ls : List (List Nat)} {off most : Int} (hx : Bl H x ls) (hb : ∀ b ∈ ls, ∀ v ∈ b, v < 256) (ho1 : -9223372036854775808 ≤ off) (ho2 : off ≤ 9223372036854775807) (hT : hasT H begin0) (hn : 11 ≤ H.next) :
    ∃ H', cK (.func (.func 3) [] []) [x, .int .i64 off, .int .i64 most] H = some (.bool true, H') := by
  have hA := awake_c an hT hn
  have hxl := hx.lenc
  by_cases h1 : 20 < ls.length
  · have d1 : decide ((20 : Int) < ((ls.length : Nat) : Int)) = true := decide_eq_true (by omega)
    refine ⟨H, c_outriderlaw7_WalSince ?_⟩
    unfold s_outriderlaw7_WalSince
    simp only [hA, hxl, d1, JN_0, JN_1, JN_2, JN_3, JN_4, JN_5, JN_6, JN_7, JN_8, JN_9, JN_10, JN_11, JN_12, JN_13, JN_14, JN_15, JN_16, JN_17, JN_18, JN_19, JN_20, JN_21, JN_22, JN_23, JN_24, B1_s, B2_s, BN_s, CD_t, CD_f, GO_tt, GO_ft, GO_tf, GO_ff, GO_ut, GO_uf, GD2_tt, GD2_ft, GD2_tf, GD2_ff, pk_t, pk_f, nilA_p, nilA_i, fa_p, fd_a, ex_t, iadd_i, isub_i, imul_i, ieq_i, ine_i, ilt_i, ile_i, igt_i, ige_i, seq_s, sne_s, slt_s, lens_s, lenx_0, lenx_s, not_b, bb_e, bb_n, cv_i, pe_00, pe_0p, pe_p0, eqB_e, eqB_n, List.getElem?_cons_zero, List.getElem?_cons_succ, Nat.zero_add, Bool.not_true, Bool.not_false, decide_true, decide_false, Int.reduceBEq, Int.reduceBNe, Int.reduceLT, Int.reduceLE, Int.reduceGT, Int.reduceGE, Int.reduceNeg, BEq.rfl, bne_self_eq_false, ge_iff_le, gt_iff_lt]
  have d1 : decide ((20 : Int) < ((ls.length : Nat) : Int)) = false := decide_eq_false (by omega)
  by_cases h2 : most < 0
  · have d2 : decide (most < 0) = true := decide_eq_true h2
    refine ⟨H, c_outriderlaw7_WalSince ?_⟩
    unfold s_outriderlaw7_WalSince
    simp only [hA, hxl, d1, d2, JN_0, JN_1, JN_2, JN_3, JN_4, JN_5, JN_6, JN_7, JN_8, JN_9, JN_10, JN_11, JN_12, JN_13, JN_14, JN_15, JN_16, JN_17, JN_18, JN_19, JN_20, JN_21, JN_22, JN_23, JN_24, B1_s, B2_s, BN_s, CD_t, CD_f, GO_tt, GO_ft, GO_tf, GO_ff, GO_ut, GO_uf, GD2_tt, GD2_ft, GD2_tf, GD2_ff, pk_t, pk_f, nilA_p, nilA_i, fa_p, fd_a, ex_t, iadd_i, isub_i, imul_i, ieq_i, ine_i, ilt_i, ile_i, igt_i, ige_i, seq_s, sne_s, slt_s, lens_s, lenx_0, lenx_s, not_b, bb_e, bb_n, cv_i, pe_00, pe_0p, pe_p0, eqB_e, eqB_n, List.getElem?_cons_zero, List.getElem?_cons_succ, Nat.zero_add, Bool.not_true, Bool.not_false, decide_true, decide_false, Int.reduceBEq, Int.reduceBNe, Int.reduceLT, Int.reduceLE, Int.reduceGT, Int.reduceGE, Int.reduceNeg, BEq.rfl, bne_self_eq_false, ge_iff_le, gt_iff_lt]
  have d2 : decide (most < 0) = false := decide_eq_false h2
  by_cases h3 : 30 < most
  · have d3 : decide ((30 : Int) < most) = true := decide_eq_true h3
    refine ⟨H, c_outriderlaw7_WalSince ?_⟩
    unfold s_outriderlaw7_WalSince
    simp only [hA, hxl, d1, d2, d3, JN_0, JN_1, JN_2, JN_3, JN_4, JN_5, JN_6, JN_7, JN_8, JN_9, JN_10, JN_11, JN_12, JN_13, JN_14, JN_15, JN_16, JN_17, JN_18, JN_19, JN_20, JN_21, JN_22, JN_23, JN_24, B1_s, B2_s, BN_s, CD_t, CD_f, GO_tt, GO_ft, GO_tf, GO_ff, GO_ut, GO_uf, GD2_tt, GD2_ft, GD2_tf, GD2_ff, pk_t, pk_f, nilA_p, nilA_i, fa_p, fd_a, ex_t, iadd_i, isub_i, imul_i, ieq_i, ine_i, ilt_i, ile_i, igt_i, ige_i, seq_s, sne_s, slt_s, lens_s, lenx_0, lenx_s, not_b, bb_e, bb_n, cv_i, pe_00, pe_0p, pe_p0, eqB_e, eqB_n, List.getElem?_cons_zero, List.getElem?_cons_succ, Nat.zero_add, Bool.not_true, Bool.not_false, decide_true, decide_false, Int.reduceBEq, Int.reduceBNe, Int.reduceLT, Int.reduceLE, Int.reduceGT, Int.reduceGE, Int.reduceNeg, BEq.rfl, bne_self_eq_false, ge_iff_le, gt_iff_lt]
  have d3 : decide ((30 : Int) < most) = false := decide_eq_false h3
  obtain ⟨lp, p, l, H1, b1, b2, b3, b4⟩ := begun_c hT hn (most := 100) (by decide) (by decide)
  have hI0 : Inv (newM 65536 100) 0 (rcE 1 0 (ls.take 0)) := ⟨rfl, rfl, rfl, rfl, rfl, rfl, Nat.zero_le _, Nat.zero_le _, Nat.zero_le _, fun q hq => by cases hq⟩
  rcases ws_loop (a1 := .int .i64 off) (a2 := .int .i64 most) hx hb (by omega) hT hn ls 0 _ l H1 rfl (Nat.zero_le _) b3 b2 b4 hI0 with ⟨H2, k1⟩ | ⟨m, l2, H2, k1, k2, k3, k4, k5⟩
  · rw [show (((0 : Nat) : Int)) = 0 from rfl] at k1
    refine ⟨H2, c_outriderlaw7_WalSince ?_⟩
    unfold s_outriderlaw7_WalSince
    simp only [hA, hxl, d1, d2, d3, b1, k1, JN_0, JN_1, JN_2, JN_3, JN_4, JN_5, JN_6, JN_7, JN_8, JN_9, JN_10, JN_11, JN_12, JN_13, JN_14, JN_15, JN_16, JN_17, JN_18, JN_19, JN_20, JN_21, JN_22, JN_23, JN_24, B1_s, B2_s, BN_s, CD_t, CD_f, GO_tt, GO_ft, GO_tf, GO_ff, GO_ut, GO_uf, GD2_tt, GD2_ft, GD2_tf, GD2_ff, pk_t, pk_f, nilA_p, nilA_i, fa_p, fd_a, ex_t, iadd_i, isub_i, imul_i, ieq_i, ine_i, ilt_i, ile_i, igt_i, ige_i, seq_s, sne_s, slt_s, lens_s, lenx_0, lenx_s, not_b, bb_e, bb_n, cv_i, pe_00, pe_0p, pe_p0, eqB_e, eqB_n, List.getElem?_cons_zero, List.getElem?_cons_succ, Nat.zero_add, Bool.not_true, Bool.not_false, decide_true, decide_false, Int.reduceBEq, Int.reduceBNe, Int.reduceLT, Int.reduceLE, Int.reduceGT, Int.reduceGE, Int.reduceNeg, BEq.rfl, bne_self_eq_false, ge_iff_le, gt_iff_lt]
  rw [show (((0 : Nat) : Int)) = 0 from rfl] at k1
  have hmem : ∀ r ∈ rcE 1 0 ls, r.1 < 18446744073709551616 ∧ r.2.length ≤ 100 := by
    intro r hr
    obtain ⟨k, q1, q2, q3⟩ := rcE_mem 1 _ _ r hr
    have := k5 _ q3
    omega
  have hs := k4.small (by omega) fun r hr => (hmem r hr).1
  obtain ⟨xs, ys, H3, s1, s2, s3, s4⟩ := since_c k3 hs (fun r hr => by have := (hmem r (k4.recs ▸ hr)).2; omega) off most
  rw [k4.first] at s4
  have o3 : Out [] H H3 := k2.trans s3
  have hB3 := hx.out o3
  have hsl := s4.lenc
  have hRl : m.recs.length = ls.length := by rw [k4.recs, rcE_len]
  generalize hF : (if off < 0 then (0 : Int) else off) = F at *
  have hF0 : 0 ≤ F := by subst hF; split <;> omega
  have hF2 : F ≤ 9223372036854775807 := by subst hF; split <;> omega
  rw [Int.sub_zero] at s4 hsl
  have hlen : (((m.recs.drop F.toNat).take most.toNat).length : Nat) = min most.toNat (ls.length - F.toNat) := by rw [List.length_take, List.length_drop, hRl]
  rw [hlen] at hsl
  have w : IntKind.wrap .i64 (((ls.length : Nat) : Int) - F) = ((ls.length : Nat) : Int) - F := wrap_i64 (by omega) (by omega)
  have hxl3 := hB3.lenc
  -- the last loop
  obtain ⟨H4, e1⟩ : ∃ H4, ∀ k : K.Fn 0, l_outriderlaw7_WalSince1 JN GO cK k x (.ptr lp 0) xs (.int .i64 F) (.int .i64 0) H3 = k H4 := by
    by_cases hbig : ls.length ≤ F.toNat
    · have hz : min most.toNat (ls.length - F.toNat) = 0 := by omega
      rw [hz] at hsl
      refine ⟨H3, fun k => ?_⟩
      rw [ql_outriderlaw7_WalSince1]
      simp only [hsl, Int.natCast_zero, show (((0 : Nat) : Int)) = 0 from rfl, JN_0, JN_1, JN_2, JN_3, JN_4, JN_5, JN_6, JN_7, JN_8, JN_9, JN_10, JN_11, JN_12, JN_13, JN_14, JN_15, JN_16, JN_17, JN_18, JN_19, JN_20, JN_21, JN_22, JN_23, JN_24, B1_s, B2_s, BN_s, CD_t, CD_f, GO_tt, GO_ft, GO_tf, GO_ff, GO_ut, GO_uf, GD2_tt, GD2_ft, GD2_tf, GD2_ff, pk_t, pk_f, nilA_p, nilA_i, fa_p, fd_a, ex_t, iadd_i, isub_i, imul_i, ieq_i, ine_i, ilt_i, ile_i, igt_i, ige_i, seq_s, sne_s, slt_s, lens_s, lenx_0, lenx_s, not_b, bb_e, bb_n, cv_i, pe_00, pe_0p, pe_p0, eqB_e, eqB_n, List.getElem?_cons_zero, List.getElem?_cons_succ, Nat.zero_add, Bool.not_true, Bool.not_false, decide_true, decide_false, Int.reduceBEq, Int.reduceBNe, Int.reduceLT, Int.reduceLE, Int.reduceGT, Int.reduceGE, Int.reduceNeg, BEq.rfl, bne_self_eq_false, ge_iff_le, gt_iff_lt]
    · obtain ⟨H4, e1⟩ := ws_loop1 (f := F.toNat) (x := x) hb (by omega) hs k4.first k4.recs k5 (fun i r hi => by
        rw [List.getElem?_take] at hi
        split at hi
        · rw [List.getElem?_drop] at hi; exact hi
        · cases hi) (by rw [hlen]; omega) _ 0 H3 rfl s2 s4 hB3
      rw [show (((F.toNat : Nat) : Int)) = F by omega, show (((0 : Nat) : Int)) = 0 from rfl] at e1
      exact ⟨H4, e1⟩
  refine ⟨H4, c_outriderlaw7_WalSince ?_⟩
  unfold s_outriderlaw7_WalSince
  have head : ∀ k : K.Fn 4, True := fun _ => trivial
  by_cases c1 : off < 0
  · have q1 : decide (off < 0) = true := decide_eq_true c1
    have hF' : F = 0 := by rw [← hF, if_pos c1]
    subst hF'
    rw [Int.sub_zero] at w
    have q2 : decide (((ls.length : Nat) : Int) < 0) = false := decide_eq_false (by omega)
    by_cases c3 : most < ((ls.length : Nat) : Int)
    · have q3 : decide (most < ((ls.length : Nat) : Int)) = true := decide_eq_true c3
      have q4 : ((((min most.toNat (ls.length - (0 : Int).toNat) : Nat) : Int)) != most) = false := by rw [bne_eq_false_iff_eq]; simp; omega
      simp only [hA, hxl, d1, d2, d3, b1, k1, s1, q1, hxl3, Int.sub_zero, w, q2, q3, hsl, q4, e1, JN_0, JN_1, JN_2, JN_3, JN_4, JN_5, JN_6, JN_7, JN_8, JN_9, JN_10, JN_11, JN_12, JN_13, JN_14, JN_15, JN_16, JN_17, JN_18, JN_19, JN_20, JN_21, JN_22, JN_23, JN_24, B1_s, B2_s, BN_s, CD_t, CD_f, GO_tt, GO_ft, GO_tf, GO_ff, GO_ut, GO_uf, GD2_tt, GD2_ft, GD2_tf, GD2_ff, pk_t, pk_f, nilA_p, nilA_i, fa_p, fd_a, ex_t, iadd_i, isub_i, imul_i, ieq_i, ine_i, ilt_i, ile_i, igt_i, ige_i, seq_s, sne_s, slt_s, lens_s, lenx_0, lenx_s, not_b, bb_e, bb_n, cv_i, pe_00, pe_0p, pe_p0, eqB_e, eqB_n, List.getElem?_cons_zero, List.getElem?_cons_succ, Nat.zero_add, Bool.not_true, Bool.not_false, decide_true, decide_false, Int.reduceBEq, Int.reduceBNe, Int.reduceLT, Int.reduceLE, Int.reduceGT, Int.reduceGE, Int.reduceNeg, BEq.rfl, bne_self_eq_false, ge_iff_le, gt_iff_lt]
    · have q3 : decide (most < ((ls.length : Nat) : Int)) = false := decide_eq_false c3
      have q4 : ((((min most.toNat (ls.length - (0 : Int).toNat) : Nat) : Int)) != ((ls.length : Nat) : Int)) = false := by rw [bne_eq_false_iff_eq]; simp; omega
      simp only [hA, hxl, d1, d2, d3, b1, k1, s1, q1, hxl3, Int.sub_zero, w, q2, q3, hsl, q4, e1, JN_0, JN_1, JN_2, JN_3, JN_4, JN_5, JN_6, JN_7, JN_8, JN_9, JN_10, JN_11, JN_12, JN_13, JN_14, JN_15, JN_16, JN_17, JN_18, JN_19, JN_20, JN_21, JN_22, JN_23, JN_24, B1_s, B2_s, BN_s, CD_t, CD_f, GO_tt, GO_ft, GO_tf, GO_ff, GO_ut, GO_uf, GD2_tt, GD2_ft, GD2_tf, GD2_ff, pk_t, pk_f, nilA_p, nilA_i, fa_p, fd_a, ex_t, iadd_i, isub_i, imul_i, ieq_i, ine_i, ilt_i, ile_i, igt_i, ige_i, seq_s, sne_s, slt_s, lens_s, lenx_0, lenx_s, not_b, bb_e, bb_n, cv_i, pe_00, pe_0p, pe_p0, eqB_e, eqB_n, List.getElem?_cons_zero, List.getElem?_cons_succ, Nat.zero_add, Bool.not_true, Bool.not_false, decide_true, decide_false, Int.reduceBEq, Int.reduceBNe, Int.reduceLT, Int.reduceLE, Int.reduceGT, Int.reduceGE, Int.reduceNeg, BEq.rfl, bne_self_eq_false, ge_iff_le, gt_iff_lt]
  · have q1 : decide (off < 0) = false := decide_eq_false c1
    have hF' : F = off := by rw [← hF, if_neg c1]
    subst hF'
    by_cases c2 : ((ls.length : Nat) : Int) - F < 0
    · have q2 : decide (((ls.length : Nat) : Int) - F < 0) = true := decide_eq_true c2
      have q3 : decide (most < 0) = false := d2
      have q4 : ((((min most.toNat (ls.length - F.toNat) : Nat) : Int)) != 0) = false := by rw [bne_eq_false_iff_eq]; omega
      simp only [hA, hxl, d1, d2, d3, b1, k1, s1, q1, hxl3, w, q2, q3, hsl, q4, e1, JN_0, JN_1, JN_2, JN_3, JN_4, JN_5, JN_6, JN_7, JN_8, JN_9, JN_10, JN_11, JN_12, JN_13, JN_14, JN_15, JN_16, JN_17, JN_18, JN_19, JN_20, JN_21, JN_22, JN_23, JN_24, B1_s, B2_s, BN_s, CD_t, CD_f, GO_tt, GO_ft, GO_tf, GO_ff, GO_ut, GO_uf, GD2_tt, GD2_ft, GD2_tf, GD2_ff, pk_t, pk_f, nilA_p, nilA_i, fa_p, fd_a, ex_t, iadd_i, isub_i, imul_i, ieq_i, ine_i, ilt_i, ile_i, igt_i, ige_i, seq_s, sne_s, slt_s, lens_s, lenx_0, lenx_s, not_b, bb_e, bb_n, cv_i, pe_00, pe_0p, pe_p0, eqB_e, eqB_n, List.getElem?_cons_zero, List.getElem?_cons_succ, Nat.zero_add, Bool.not_true, Bool.not_false, decide_true, decide_false, Int.reduceBEq, Int.reduceBNe, Int.reduceLT, Int.reduceLE, Int.reduceGT, Int.reduceGE, Int.reduceNeg, BEq.rfl, bne_self_eq_false, ge_iff_le, gt_iff_lt]
    · have q2 : decide (((ls.length : Nat) : Int) - F < 0) = false := decide_eq_false c2
      by_cases c3 : most < ((ls.length : Nat) : Int) - F
      · have q3 : decide (most < ((ls.length : Nat) : Int) - F) = true := decide_eq_true c3
        have q4 : ((((min most.toNat (ls.length - F.toNat) : Nat) : Int)) != most) = false := by rw [bne_eq_false_iff_eq]; omega
        simp only [hA, hxl, d1, d2, d3, b1, k1, s1, q1, hxl3, w, q2, q3, hsl, q4, e1, JN_0, JN_1, JN_2, JN_3, JN_4, JN_5, JN_6, JN_7, JN_8, JN_9, JN_10, JN_11, JN_12, JN_13, JN_14, JN_15, JN_16, JN_17, JN_18, JN_19, JN_20, JN_21, JN_22, JN_23, JN_24, B1_s, B2_s, BN_s, CD_t, CD_f, GO_tt, GO_ft, GO_tf, GO_ff, GO_ut, GO_uf, GD2_tt, GD2_ft, GD2_tf, GD2_ff, pk_t, pk_f, nilA_p, nilA_i, fa_p, fd_a, ex_t, iadd_i, isub_i, imul_i, ieq_i, ine_i, ilt_i, ile_i, igt_i, ige_i, seq_s, sne_s, slt_s, lens_s, lenx_0, lenx_s, not_b, bb_e, bb_n, cv_i, pe_00, pe_0p, pe_p0, eqB_e, eqB_n, List.getElem?_cons_zero, List.getElem?_cons_succ, Nat.zero_add, Bool.not_true, Bool.not_false, decide_true, decide_false, Int.reduceBEq, Int.reduceBNe, Int.reduceLT, Int.reduceLE, Int.reduceGT, Int.reduceGE, Int.reduceNeg, BEq.rfl, bne_self_eq_false, ge_iff_le, gt_iff_lt]
      · have q3 : decide (most < ((ls.length : Nat) : Int) - F) = false := decide_eq_false c3
        have q4 : ((((min most.toNat (ls.length - F.toNat) : Nat) : Int)) != (((ls.length : Nat) : Int) - F)) = false := by rw [bne_eq_false_iff_eq]; omega
        simp only [hA, hxl, d1, d2, d3, b1, k1, s1, q1, hxl3, w, q2, q3, hsl, q4, e1, JN_0, JN_1, JN_2, JN_3, JN_4, JN_5, JN_6, JN_7, JN_8, JN_9, JN_10, JN_11, JN_12, JN_13, JN_14, JN_15, JN_16, JN_17, JN_18, JN_19, JN_20, JN_21, JN_22, JN_23, JN_24, B1_s, B2_s, BN_s, CD_t, CD_f, GO_tt, GO_ft, GO_tf, GO_ff, GO_ut, GO_uf, GD2_tt, GD2_ft, GD2_tf, GD2_ff, pk_t, pk_f, nilA_p, nilA_i, fa_p, fd_a, ex_t, iadd_i, isub_i, imul_i, ieq_i, ine_i, ilt_i, ile_i, igt_i, ige_i, seq_s, sne_s, slt_s, lens_s, lenx_0, lenx_s, not_b, bb_e, bb_n, cv_i, pe_00, pe_0p, pe_p0, eqB_e, eqB_n, List.getElem?_cons_zero, List.getElem?_cons_succ, Nat.zero_add, Bool.not_true, Bool.not_false, decide_true, decide_false, Int.reduceBEq, Int.reduceBNe, Int.reduceLT, Int.reduceLE, Int.reduceGT, Int.reduceGE, Int.reduceNeg, BEq.rfl, bne_self_eq_false, ge_iff_le, gt_iff_lt]
theorem since_top {H : Hp} {as' : List AV} {ds : List D} (h : ArgsIs H [.slice 1 (.slice 1 (.int .u8)), .int .i64, .int .i64] as' ds) (hT : hasT H begin0) (hn : 11 ≤ H.next) :
    ∃ H', cK (.func (.func 3) [] []) as' H = some (.bool true, H') := by
  cases h with
  | cons h0 h =>
  cases h with
  | cons h1 h =>
  cases h with
  | cons h2 h =>
  cases h
  obtain ⟨ls, hx, hb⟩ := bl_of (isA_row h0)
  obtain ⟨off, rfl, ho⟩ := isA_int h1
  obtain ⟨most, rfl, _⟩ := isA_int h2
  exact ws_law hx hb ho.1 ho.2 hT hn
end Go.Proofs.YtbdlbhlhnpblpaaGreatDoor.WlK
namespace Go.Proofs.YtbdlbhlhnpblpaaGreatDoor.Hand
open Go
set_option linter.unusedVariables false

theorem size_open {P : Program} {w : World} (h : w.ShapedOpen P) {g : Nat} (hg : g + 1 = P.globals.size) (hr : (((begin P (fun _ _ => 0) default).world.heap[g]?).bind Obj.row?).isSome = true) : P.globals.size ≤ w.heap.size := by
  obtain ⟨⟨zero, t⟩, hr⟩ := Option.isSome_iff_exists.1 hr
  obtain ⟨cs, hc, _⟩ := h.1 g zero t (by omega) hr
  have := (Array.getElem?_eq_some_iff.1 hc).1
  omega

variable {H : Type} {enc : TypeId × Value → H}
theorem handed {a : Assume} {C : Checked} {os : Os} {f : FuncId} {fn : Func} {s : ChangeSpec} {conds : List PathCond} {apart fresh handsOn again : Bool} {X : World → Array Value → Prop} {g : Nat}
    (hg : g + 1 = C.prog.globals.size) (hr : (((begin C.prog (fun _ _ => 0) default).world.heap[g]?).bind Obj.row?).isSome = true)
    (hX : ∀ (w w' : World) (args : Array Value), w.heap = w'.heap → X w args → X w' args)
    (own : ownKnob C.prog.godebug = none) (started : os.Started) (noInit : C.prog.inits.idxOf? f = none) (hfn : C.prog.funcs[f]? = some fn)
    (witness : ∃ (w : World) (tape : Tape) (i : Input), w.os = os ∧ (w.forCall tape i).Shaped C.prog ∧ i.vars = [] ∧ Input.okWide C.prog (w.forCall tape i) .any w.heap.size f i ∧
      ((s.pre enc C.prog fn conds apart (w.forCall tape i).memory i.args ∧ X (w.forCall tape i).memory i.args) ∧ sizedMet enc C.prog fn (OpenSpec.ofChange s) apart (w.forCall tape i).memory i.args) ∧ a.holds C.prog (lone (Frame.enter C.prog f i.args .normal) [] (w.forCall tape i)))
    (contract : ∀ (W : World) (base : Nat) (args : Array Value) (ds gs : List (DataW H)) (before : List MemPlace), C.prog.globals.size ≤ W.heap.size →
      (∀ (j : Nat) t v, fn.params[j]? = some t → args[j]? = some v → Value.okWide C.prog W .any base t v) →
      DataW.Whole enc C.prog fn.params.toList s.vars apart W args.toList ds gs before →
      conds.all (PathCond.test C.prog ⟨fn.params.toList, ds, s.plain.varTypes C.prog, gs⟩) = true →
      (DataW.weightsEach C.prog (fn.params.toList ++ s.plain.varTypes C.prog) (ds ++ gs)).all (· ≤ reachBytes) = true → X W args →
      a.holds C.prog (lone (Frame.enter C.prog f args .normal) [] W) →
      Calls C.prog f args W fun e W' => ∃ v, e = .returned v ∧ s.post enc C.prog fn apart fresh handsOn again W args v W') :
    ReturnsInHanded a C os f .any (fun w args => (s.pre enc C.prog fn conds apart w args ∧ X w args) ∧ sizedMet enc C.prog fn (OpenSpec.ofChange s) apart w args) (s.post enc C.prog fn apart fresh handsOn again) :=
  returnsInHanded_of_calls own started noInit witness fun w tape i _ hsh _ hok hpre hholds => by
    obtain ⟨_, _, _, fn', hfn', _, _, _, _, hval⟩ := hok
    obtain rfl : fn' = fn := Option.some.inj (hfn'.symm.trans hfn)
    obtain ⟨⟨⟨ds, gs, before, hw, hc⟩, hx⟩, hz⟩ := hpre
    refine (contract (w.forCall tape i) w.heap.size i.args ds gs before (size_open hsh hg hr) hval (DataW.Whole.of_heap (w' := w.forCall tape i) (by rfl) hw) hc (hz.weights hw) (hX _ _ _ (by rfl) hx) hholds).mono fun e W' hp => ?_
    obtain ⟨v, rfl, hp⟩ := hp
    exact ChangeSpec.post_blind hp
end Go.Proofs.YtbdlbhlhnpblpaaGreatDoor.Hand
