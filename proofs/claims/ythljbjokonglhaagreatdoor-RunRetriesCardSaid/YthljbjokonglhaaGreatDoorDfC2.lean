/- What package graph does, as contracts over the symbolic heap: Ahead, Behind, far, Cycle. Conditions: the graph may be so. -/
import Derived.Test.YthljbjokonglhaaGreatDoorDfC1
namespace Go.Proofs.YthljbjokonglhaaGreatDoor.DfK
open Go Am Am.K DfEnv DfM LibP DfG
set_option linter.unusedVariables false
set_option linter.unusedSimpArgs false
set_option maxRecDepth 10000
theorem sort_c {H : Hp} {x : AV} {zs : List Int} (hx : Ow H 3 1 x (ints zs)) (hl : zs.length ≤ 16777216) :
    ∃ H', cK (.func (.func 98) [] []) [x] H = some (.tuple [], H') ∧ Ow H' 3 1 x (ints (LibS.sortZ zs)) ∧ Out (rid x) H H' := by
  generalize hz : ints zs = l at hx
  cases hx with
  | nil =>
    have : zs = [] := by simpa [ints] using hz
    subst this
    refine ⟨H, ck_prim (p := LibS.sortP) (by kernel_rfl) rfl, ?_, Out.refl _ _⟩
    simp [LibS.sortZ, ints]; exact .nil
  | @emp i off =>
    have : zs = [] := by simpa [ints] using hz
    subst this
    refine ⟨H, ck_prim (p := LibS.sortP) (by kernel_rfl) ?_, ?_, Out.refl _ _⟩
    · unfold LibS.sortP
      simp only [if_true]
    · simp [LibS.sortZ, ints]; exact .emp
  | @mk i off n cap ex _ c lo hi fl hi' hg hf hlo hhi hcap hn hc hs h1 he =>
    subst hz
    rw [ints_len, Nat.mul_one] at hn
    by_cases h0 : n = 0
    · subst h0
      have : zs = [] := List.length_eq_zero_iff.1 hn
      subst this
      refine ⟨H, ck_prim (p := LibS.sortP) (by kernel_rfl) ?_, ?_, Out.refl _ _⟩
      · unfold LibS.sortP
        simp only [if_true]
      · exact .mk hi' hg hf hlo hhi hcap (by simp [LibS.sortZ, ints]) (by simp [LibS.sortZ, ints]) hs (by simp [LibS.sortZ, ints]) he
    · have hsl := LibS.sortZ_len zs
      have hro : Ro H i off (ints zs) := ⟨hi', c, lo, hi, 3, fl, hg, hlo, by rw [ints_len]; omega, hc⟩
      have hcells := hro.cellsAt
      rw [ints_len, hn] at hcells
      have hbind : (Am.cellsAt H i off n).bind LibS.zsOf = some zs := by rw [hcells]; exact LibS.zsOf_nums zs
      have hrun : LibS.sortP [.slice i off n cap ex 1] H = some (.tuple [], { H with h := H.h.upd i (.cells (c.puts off (LibS.nums (LibS.sortZ zs))) lo hi 3 fl) }) := by
        unfold LibS.sortP
        simp only
        rw [if_neg h0, if_pos ⟨trivial, by omega⟩, hg, Option.bind_some]
        unfold LibS.sort2
        simp only
        rw [if_pos ⟨hlo, by omega, hf⟩, hbind]
        rfl
      have hget : ∀ j, (H.h.upd i (AO.cells (c.puts off (LibS.nums (LibS.sortZ zs))) lo hi 3 fl)).get j = if j = i then some (AO.cells (c.puts off (LibS.nums (LibS.sortZ zs))) lo hi 3 fl) else H.h.get j := fun j => Tr.get_upd _ _ _ _ (by rw [hg]; rfl)
      refine ⟨_, ck_prim (p := LibS.sortP) (by kernel_rfl) hrun, ?_, ⟨Nat.le_refl _, fun j hj hn' => ?_⟩⟩
      · refine .mk (c := c.puts off (ints (LibS.sortZ zs))) hi' ?_ hf hlo hhi hcap (by rw [ints_len]; omega) (fun k v hk => ?_) (fun k hk => ?_) (ints_one _) he
        · show (H.h.upd i _).get i = _
          rw [hget, if_pos rfl]
          rfl
        · have hk' := (List.getElem?_eq_some_iff.1 hk).1
          rw [Tr.get_putsA, if_pos ⟨by omega, by omega⟩, Nat.add_sub_cancel_left]
          exact hk
        · rw [Tr.get_putsA]
          split
          · rename_i hin
            rw [List.getElem?_eq_getElem (by omega)]
            rfl
          · exact hs k hk
      · show (H.h.upd i _).get j = _
        rw [hget, if_neg (fun q => hn' (by subst q; rw [rid_s he]; exact .head _))]
def sortN (l : List Nat) : List Nat := l.mergeSort fun x y => decide (x ≤ y)
theorem sortN_len (l : List Nat) : (sortN l).length = l.length := (List.mergeSort_perm l _).length_eq
theorem sortN_mem {l : List Nat} {x : Nat} : x ∈ sortN l ↔ x ∈ l := (List.mergeSort_perm l _).mem_iff
theorem sortZ_nats (l : List Nat) : LibS.sortZ (nats l) = nats (sortN l) := by
  unfold LibS.sortZ nats sortN
  rw [List.map_mergeSort]
  intro a _ b _
  simp
/-- the nodes beside one, in order -/
def bes (E : List Ed) (n : Nat) (b : Bool) : List Nat := sortN (besN E n b)
theorem bes_len (E : List Ed) (n : Nat) (b : Bool) : (bes E n b).length ≤ E.length := by unfold bes; rw [sortN_len]; exact besN_le E n b
theorem mem_bes {E : List Ed} {n x : Nat} : (x ∈ bes E n false ↔ (n, x) ∈ E) ∧ (x ∈ bes E n true ↔ (x, n) ∈ E) := by
  unfold bes besN
  rw [sortN_mem, sortN_mem, List.mem_filterMap, List.mem_filterMap]
  constructor
  · constructor
    · rintro ⟨e, he, h⟩
      simp only [cond_false] at h
      split at h
      · rename_i h1; cases h; subst h1; exact he
      · cases h
    · intro h; exact ⟨_, h, by simp⟩
  · constructor
    · rintro ⟨e, he, h⟩
      simp only [cond_true] at h
      split at h
      · rename_i h1; cases h; subst h1; exact he
      · cases h
    · intro h; exact ⟨_, h, by simp⟩
theorem beside_c {N : Nat} {E : List Ed} {x : AV} {H : Hp} (b : Bool) (n : Nat) (hE : GoodE N E) (hx : RL H 2 x (edg E)) :
    ∃ y H', cK (.func (.func 71) [] []) [gv N x, .int .i64 n, .int .i64 (bif b then 1 else 0)] H = some (y, H') ∧ Ow H' 3 1 y (ints (nats (bes E n b))) ∧ Out [] H H' ∧ ∀ j ∈ rid y, H.next ≤ j := by
  have hx1 := hx.one
  have ho1 := al_out H [.int .i64 N, x] 39 0
  obtain ⟨H2, g1, g2⟩ := good_c hE (hx.out0 ho1)
  have hn2 := g2.nx
  rw [al_nx] at hn2
  have ho2 := ho1.trans g2
  have hx2 := hx.out0 ho2
  obtain ⟨y, H3, i1, i2, i3, i4⟩ := bes_loop (N := N) b (n := n) hE.len hx2 E 0 H2 .slice0 [] [] (Nat.zero_le _) List.drop_zero (Out.refl _ _) (fun j hj => by cases hj) .nil (fun j hj => by cases hj) (Nat.le_refl _)
  rw [List.nil_append] at i2
  have hr : ∀ j ∈ rid y, H2.next ≤ j := fun j hj => (i4 j hj).elim (fun q => by cases q) id
  obtain ⟨H4, s1, s2, s3⟩ := sort_c i2 (by rw [nats_len]; have := besN_le E n b; have := hE.len; omega)
  rw [sortZ_nats] at s2
  refine ⟨y, H4, c_graph_beside ?_, s2, ho2.trans ((i3.mono fun j hj => by cases hj).then s3 fun j hj => .inr (hr j hj)), fun j hj => by have := hr j hj; omega⟩
  have hl := hx2.len (by decide)
  rw [edg_len] at hl
  have hc2 : cellAt H2 H.next 1 = some x := by
    rw [g2.cellAt (by rw [al_nx]; omega) (by simp)]
    exact (al_cs H [.int .i64 N, x] 39 0).cellAt rfl
  rw [show (((0 : Nat) : Int)) = 0 from rfl] at i1
  unfold s_graph_beside
  simp (disch := (first | assumption | omega | (simp only [k_d, k_c, Nat.reduceAdd, Nat.reduceLeDiff, Nat.reduceLT] <;> fail) | (simp only [k_c]; omega) | (simp only [k_d, k_c, Nat.reduceAdd, Nat.reduceLeDiff, Nat.reduceLT, *] <;> fail) | fail)) only [g1, hc2, hl, i1, s1, k_a, k_b, Nat.reduceAdd, k_s, k_x, Int.reduceBEq, Int.reduceBNe, Int.reduceLT, Int.reduceLE, Int.reduceGT, Int.reduceGE, Int.reduceNeg]
theorem behind_c {N : Nat} {E : List Ed} {x : AV} {H : Hp} (n : Nat) (hE : GoodE N E) (hx : RL H 2 x (edg E)) :
    ∃ y H', cK (.func (.func 41) [] []) [gv N x, .int .i64 n] H = some (y, H') ∧ Ow H' 3 1 y (ints (nats (bes E n false))) ∧ Out [] H H' ∧ ∀ j ∈ rid y, H.next ≤ j := by
  have hx1 := hx.one
  have ho1 := al_out H [.int .i64 N, x] 39 0
  obtain ⟨y, H', h1, h2, h3, h4⟩ := beside_c false n hE (hx.out0 ho1)
  refine ⟨y, H', c_graph_Behind ?_, h2, ho1.trans h3, fun j hj => by have := h4 j hj; rw [al_nx] at this; omega⟩
  simp only [cond_false] at h1
  unfold s_graph_Behind
  simp (disch := (first | assumption | omega | (simp only [k_d, k_c, Nat.reduceAdd, Nat.reduceLeDiff, Nat.reduceLT] <;> fail) | (simp only [k_c]; omega) | (simp only [k_d, k_c, Nat.reduceAdd, Nat.reduceLeDiff, Nat.reduceLT, *] <;> fail) | fail)) only [h1, k_a, k_b, Nat.reduceAdd, k_s, k_x, Int.reduceBEq, Int.reduceBNe, Int.reduceLT, Int.reduceLE, Int.reduceGT, Int.reduceGE, Int.reduceNeg]
/-! far: the innermost loop marks the nodes behind one -/
theorem nats_get {l : List Nat} {i n : Nat} (h : l[i]? = some n) : (ints (nats l))[i]? = some (.int .i64 (n : Int)) := ints_get (by simp [nats, h])
theorem far2_loop {N steps : Nat} {bl : List Nat} {bx : AV} {A : Nat} (hst : 0 < steps) (hbl : ∀ b ∈ bl, b < N) (hbn : bl.length ≤ 300) (x25 x29 x30 x31 : AV) (hA : A ∉ rid bx) :
    ∀ (r : List Nat) (i : Nat) (H : Hp) (out nx : List Nat) (ny : AV), i ≤ bl.length → bl.drop i = r → Rw H 1 bx (ints (nats bl)) → (∀ j ∈ rid ny, j ∉ rid bx ∧ j ≠ A) → out.length = N → nx.length + r.length ≤ 100000 → Cs H A (ints (nats out)) 3 0 → Ow H 3 1 ny (ints (nats nx)) →
    ∃ ny' H', (∀ (j10 : K.Fn 1) (j20 j23 : K.Fn 4) (j35 j54 : K.Fn 7), l_graph_far2 JN GO cK j10 j20 j23 j35 j54 x25 (.slice A 0 N N true 1) (.int .i64 steps) ny x29 x30 x31 bx (.int .i64 (bl.length : Nat)) (.int .i64 (i : Nat)) H = j54 x25 (.slice A 0 N N true 1) (.int .i64 steps) ny' x29 x30 x31 H') ∧
      Cs H' A (ints (nats (expd steps r (out, nx)).1)) 3 0 ∧ Ow H' 3 1 ny' (ints (nats (expd steps r (out, nx)).2)) ∧ Out (A :: rid ny) H H' ∧ ∀ j ∈ rid ny', j ∈ rid ny ∨ H.next ≤ j
  | [], i, H, out, nx, ny, hi, h, hb, hd, hol, hnl, hC, hO => by
    obtain rfl := drop_nil hi h
    refine ⟨ny, H, fun j10 j20 j23 j35 j54 => ?_, hC, hO, Out.refl _ _, fun j hj => .inl hj⟩
    rw [ql_graph_far2]
    simp only [bl_graph_far2, lt_f, k_s, k_x, Int.reduceBEq, Int.reduceBNe, Int.reduceLT, Int.reduceLE, Int.reduceGT, Int.reduceGE, Int.reduceNeg]
  | b :: r, i, H, out, nx, ny, hi, h, hb, hd, hol, hnl, hC, hO => by
    obtain ⟨h1, h2, h3⟩ := hd_drop h
    obtain ⟨q, q1, q2⟩ := hb.ia1 (nats_get h2) .i64
    have hbN := hbl b (List.mem_of_getElem? h2)
    have es := wrap_s h1 (by omega)
    have hov : out[b]? = some (out[b]'(by omega)) := List.getElem?_eq_getElem (by omega)
    have hld := hC.ld (nats_get hov)
    have hia : ia 1 (.slice A 0 N N true 1) (.int .i64 (b : Int)) = some (.ptr A b) := by rw [ia_s hbN]; simp
    simp only [List.length_cons] at hnl
    by_cases h0 : out[b]'(by omega) = 0
    · rw [h0] at hov hld
      obtain ⟨H1, w1, w2, w3, w4⟩ := st1 hC (by decide) (o := b) (by rw [ints_len, nats_len]; omega) (v := .int .i64 (steps : Int)) rfl
      have hset : (ints (nats out)).set b (.int .i64 (steps : Int)) = ints (nats (out.set b steps)) := by simp [ints, nats, List.map_set]
      rw [hset] at w2
      have hO1 := hO.out w3 fun j hj => by rw [List.mem_singleton]; exact (hd j hj).2
      obtain ⟨ny1, H2, p1, p2, p3, p4, p5⟩ := push_ok (el2 := 3) (z := [(.int .i64 0)]) (vs := [.int .i64 (b : Int)]) hO1 rfl rfl (by decide) (by rw [ints_len, nats_len]; simp; omega)
      have hp2 : ints (nats nx) ++ [.int .i64 (b : Int)] = ints (nats (nx ++ [b])) := by rw [nats_app, ints_app]; rfl
      rw [hp2] at p2
      have hne : A ∉ rid ny := fun q => (hd A q).2 rfl
      have hCl := hC.1
      have hbl' := hb.lt
      obtain ⟨ny', H', i1, i2, i3, i4, i5⟩ := far2_loop (N := N) hst hbl hbn x25 x29 x30 x31 hA r (i + 1) H2 (out.set b steps) (nx ++ [b]) ny1 h1 h3 ((hb.out w3 fun j hj => by rw [List.mem_singleton]; intro e; subst e; exact hA hj).out p3 fun j hj q => (hd j q).1 hj)
        (fun j hj => (p4 j hj).elim (hd j) fun q => ⟨fun z => by have := hbl' j z; omega, by omega⟩) (by rw [List.length_set]; exact hol) (by simp; omega) (w2.out p3 hne) p2
      have hex : expd steps (b :: r) (out, nx) = expd steps r (out.set b steps, nx ++ [b]) := by
        show expd steps r (exp1 steps (out, nx) b) = _
        unfold exp1
        rw [if_pos hov]
      have o2 : Out (A :: rid ny) H H2 := (w3.mono fun j hj => by rw [List.mem_singleton] at hj; subst hj; exact .head _).trans (p3.mono fun j hj => .tail _ hj)
      have hn1 := p3.nx
      rw [hex]
      refine ⟨ny', H', fun j10 j20 j23 j35 j54 => ?_, i2, i3, o2.then i4 fun j hj => ?_, fun j hj => (i5 j hj).elim (fun q => (p4 j q).imp id fun q => by omega) fun q => .inr (by omega)⟩
      · have p1' := p1 _ rfl
        rw [ql_graph_far2]
        simp (disch := (first | assumption | omega | (simp only [k_d, k_c, Nat.reduceAdd, Nat.reduceLeDiff, Nat.reduceLT] <;> fail) | (simp only [k_c]; omega) | (simp only [k_d, k_c, Nat.reduceAdd, Nat.reduceLeDiff, Nat.reduceLT, *] <;> fail) | fail)) only [bl_graph_far2, lt_t h1, q1, q2, hia, hld, Int.natCast_zero, w1, p1', es, i1, k_a, k_b, Nat.reduceAdd, k_s, k_x, Int.reduceBEq, Int.reduceBNe, Int.reduceLT, Int.reduceLE, Int.reduceGT, Int.reduceGE, Int.reduceNeg]
      · rcases List.mem_cons.1 hj with rfl | hj
        · exact .inl (.head _)
        · exact (p4 j hj).imp (fun q => .tail _ q) fun q => by omega
    · have hov0 : out[b]? ≠ some 0 := fun q => h0 (by rw [hov] at q; exact Option.some.inj q)
      have hex : expd steps (b :: r) (out, nx) = expd steps r (out, nx) := by
        show expd steps r (exp1 steps (out, nx) b) = _
        unfold exp1
        rw [if_neg hov0]
      obtain ⟨ny', H', i1, i2⟩ := far2_loop (N := N) hst hbl hbn x25 x29 x30 x31 hA r (i + 1) H out nx ny h1 h3 hb hd hol (by omega) hC hO
      rw [hex]
      refine ⟨ny', H', fun j10 j20 j23 j35 j54 => ?_, i2⟩
      have hne : (((out[b]'(by omega) : Nat) : Int) == 0) = false := beq_false_of_ne (by omega)
      rw [ql_graph_far2]
      simp (disch := (first | assumption | omega | (simp only [k_d, k_c, Nat.reduceAdd, Nat.reduceLeDiff, Nat.reduceLT] <;> fail) | (simp only [k_c]; omega) | (simp only [k_d, k_c, Nat.reduceAdd, Nat.reduceLeDiff, Nat.reduceLT, *] <;> fail) | fail)) only [bl_graph_far2, lt_t h1, q1, q2, hia, hld, hne, es, i1, k_a, k_b, Nat.reduceAdd, k_s, k_x, Int.reduceBEq, Int.reduceBNe, Int.reduceLT, Int.reduceLE, Int.reduceGT, Int.reduceGE, Int.reduceNeg]
theorem far1_loop {N steps : Nat} {E : List Ed} {x : AV} {g : Nat} {l : List Nat} {lx : AV} {A : Nat} (hE : GoodE N E) (hst : 0 < steps) (hln : l.length ≤ 100) (hA : A ∉ rid lx ∧ A ∉ rid x ∧ A ≠ g) :
    ∀ (r : List Nat) (i : Nat) (H : Hp) (out nx : List Nat) (ny : AV), i ≤ l.length → l.drop i = r → Rw H 1 lx (ints (nats l)) → RL H 2 x (edg E) → Cs H g [.int .i64 N, x] 39 0 → (∀ j ∈ rid ny, j ∉ rid lx ∧ j ∉ rid x ∧ j ≠ g ∧ j ≠ A) → out.length = N → nx.length + r.length * 300 ≤ 90000 → Cs H A (ints (nats out)) 3 0 → Ow H 3 1 ny (ints (nats nx)) →
    ∃ ny' H', (∀ (j10 : K.Fn 1) (j20 j23 : K.Fn 4), l_graph_far1 JN GO cK j10 j20 j23 (.ptr g 0) (.slice A 0 N N true 1) (.int .i64 steps) ny lx (.int .i64 (l.length : Nat)) (.int .i64 (i : Nat)) H = j23 (.ptr g 0) (.slice A 0 N N true 1) (.int .i64 steps) ny' H') ∧
      Cs H' A (ints (nats (lev (fun n => bes E n false) steps r (out, nx)).1)) 3 0 ∧ Ow H' 3 1 ny' (ints (nats (lev (fun n => bes E n false) steps r (out, nx)).2)) ∧ Out (A :: rid ny) H H' ∧ ∀ j ∈ rid ny', j ∈ rid ny ∨ H.next ≤ j
  | [], i, H, out, nx, ny, hi, h, hlx, hx, hg, hd, hol, hnl, hC, hO => by
    obtain rfl := drop_nil hi h
    refine ⟨ny, H, fun j10 j20 j23 => ?_, hC, hO, Out.refl _ _, fun j hj => .inl hj⟩
    rw [ql_graph_far1]
    simp only [bl_graph_far1, lt_f, k_s, k_x, Int.reduceBEq, Int.reduceBNe, Int.reduceLT, Int.reduceLE, Int.reduceGT, Int.reduceGE, Int.reduceNeg]
  | a :: r, i, H, out, nx, ny, hi, h, hlx, hx, hg, hd, hol, hnl, hC, hO => by
    obtain ⟨h1, h2, h3⟩ := hd_drop h
    obtain ⟨q, q1, q2⟩ := hlx.ia1 (nats_get h2) .i64
    have es := wrap_s h1 (by omega)
    have hx1 := hx.one
    have hg2 := hg.cellsAt 2 0 (by simp)
    have hg2' : cellsAt H g 0 2 = some [.int .i64 N, x] := hg2
    obtain ⟨bx, H1, b1, b2, b3, b4⟩ := behind_c a hE hx
    have hbl : ∀ b ∈ bes E a false, b < N := fun b hb => (hE.lt _ (mem_bes.1.1 hb)).2.1
    have hbn := bes_len E a false
    have hEl := hE.len
    have hCl := hC.1
    have hnyl := hO.rw.lt
    simp only [List.length_cons, Nat.add_mul, Nat.one_mul] at hnl
    obtain ⟨ny1, H2, i1, i2, i3, i4, i5⟩ := far2_loop (N := N) hst hbl (by omega) (.ptr g 0) lx (.int .i64 (l.length : Nat)) (.int .i64 (i : Nat)) (fun q => by have := b4 A q; omega) (bes E a false) 0 H1 out nx ny (Nat.zero_le _) List.drop_zero b2.rw (fun j hj => ⟨fun q => by have := b4 j q; have := hnyl j hj; omega, (hd j hj).2.2.2⟩) hol (by omega) (hC.out b3 (by simp)) (hO.out b3 (by simp))
    have hn1 := b3.nx
    have hlxl := hlx.lt
    have hxl := hx.1.lt
    have hgl := hg.1
    have key : ∀ j, j < H.next → j ≠ A → j ∉ rid ny → H2.h.get j = H.h.get j := fun j hj ha hn => by
      rw [i4.2 j (by omega) (by rw [List.mem_cons, not_or]; exact ⟨ha, hn⟩), b3.2 j hj (by simp)]
    have o2 : Out (A :: rid ny) H H2 := (b3.mono fun j hj => by cases hj).trans i4
    have d1 : ∀ j ∈ rid lx, j ∉ A :: rid ny := fun j hj => by rw [List.mem_cons, not_or]; exact ⟨fun e => hA.1 (e ▸ hj), fun q => (hd j q).1 hj⟩
    have d2 : ∀ j ∈ rid x, j ∉ A :: rid ny := fun j hj => by rw [List.mem_cons, not_or]; exact ⟨fun e => hA.2.1 (e ▸ hj), fun q => (hd j q).2.1 hj⟩
    have d3 : g ∉ A :: rid ny := by rw [List.mem_cons, not_or]; exact ⟨fun e => hA.2.2 e.symm, fun q => (hd g q).2.2.1 rfl⟩
    have hsl := (lev_step (sc := fun n => bes E n false) hst [a] (out, nx)).len
    have hl1 : lev (fun n => bes E n false) steps (a :: r) (out, nx) = lev (fun n => bes E n false) steps r (expd steps (bes E a false) (out, nx)) := rfl
    have hst1 := expd_step hst (bes E a false) (out, nx)
    have hz := hst1.zer
    have hlen2 : (expd steps (bes E a false) (out, nx)).2.length ≤ nx.length + (bes E a false).length := by
      have key2 : ∀ (bs : List Nat) (s : List Nat × List Nat), (expd steps bs s).2.length ≤ s.2.length + bs.length := by
        intro bs
        induction bs with
        | nil => intro s; exact Nat.le_refl _
        | cons b bs ih =>
          intro s
          have h5 := ih (exp1 steps s b)
          have h6 : (exp1 steps s b).2.length ≤ s.2.length + 1 := by unfold exp1; split <;> simp
          show (expd steps bs (exp1 steps s b)).2.length ≤ _
          simp only [List.length_cons]; omega
      exact key2 _ _
    obtain ⟨ny', H', k1, k2, k3, k4, k5⟩ := far1_loop hE hst hln hA r (i + 1) H2 _ _ ny1 h1 h3 (hlx.out o2 d1) (hx.out o2 d2) (hg.out o2 d3) (fun j hj => (i5 j hj).elim (fun q => ⟨(hd j q).1, (hd j q).2.1, (hd j q).2.2.1, (hd j q).2.2.2⟩) fun q => ⟨fun z => by have := hlxl j z; omega, fun z => by have := hxl j z; omega, by omega, by omega⟩) (hst1.len.trans hol) (by omega) i2 i3
    rw [hl1]
    refine ⟨ny', H', fun j10 j20 j23 => ?_, k2, k3, o2.then k4 fun j hj => ?_, fun j hj => (k5 j hj).elim (fun q => (i5 j q).imp id fun q => by omega) fun q => .inr (by have := o2.nx; omega)⟩
    · have hyl := b2.rw.len1
      rw [ints_len, nats_len] at hyl
      rw [show (((0 : Nat) : Int)) = 0 from rfl] at i1
      rw [ql_graph_far1]
      simp (disch := (first | assumption | omega | (simp only [k_d, k_c, Nat.reduceAdd, Nat.reduceLeDiff, Nat.reduceLT] <;> fail) | (simp only [k_c]; omega) | (simp only [k_d, k_c, Nat.reduceAdd, Nat.reduceLeDiff, Nat.reduceLT, *] <;> fail) | fail)) only [bl_graph_far1, lt_t h1, q1, q2, hg2', b1, hyl, i1, es, k1, k_a, k_b, Nat.reduceAdd, k_s, k_x, Int.reduceBEq, Int.reduceBNe, Int.reduceLT, Int.reduceLE, Int.reduceGT, Int.reduceGE, Int.reduceNeg]
    · rcases List.mem_cons.1 hj with rfl | hj
      · exact .inl (.head _)
      · exact (i5 j hj).imp (fun q => .tail _ q) fun q => by omega
theorem far_loop {N : Nat} {E : List Ed} {x : AV} {g A : Nat} (hE : GoodE N E) (hA : A ∉ rid x ∧ A ≠ g) : ∀ (f : Nat) (l out : List Nat) (steps : Nat) (lx : AV) (H : Hp), 0 < steps → steps + f ≤ 100 → out.length = N → l.length ≤ 100 → (l = [] ∨ zeros out < f) → Rw H 1 lx (ints (nats l)) → A ∉ rid lx → RL H 2 x (edg E) → Cs H g [.int .i64 N, x] 39 0 → Cs H A (ints (nats out)) 3 0 →
    ∃ H', (∀ k : K.Fn 1, l_graph_far JN GO cK k (.ptr g 0) (.slice A 0 N N true 1) lx (.int .i64 steps) H = k (.slice A 0 N N true 1) H') ∧ Cs H' A (ints (nats (farL (fun n => bes E n false) f l out steps))) 3 0 ∧ Out [A] H H' := by
  have hnil : ∀ (out : List Nat) (steps : Nat) (lx : AV) (H : Hp), Rw H 1 lx (ints (nats [])) → ∀ k : K.Fn 1, l_graph_far JN GO cK k (.ptr g 0) (.slice A 0 N N true 1) lx (.int .i64 steps) H = k (.slice A 0 N N true 1) H := by
    intro out steps lx H hlx k
    have hl := hlx.len1
    have hl' : lenx lx = some (.int .i64 0) := hl
    rw [ql_graph_far]
    simp only [bl_graph_far, hl', k_s, k_x, Int.reduceBEq, Int.reduceBNe, Int.reduceLT, Int.reduceLE, Int.reduceGT, Int.reduceGE, Int.reduceNeg]
  intro f
  induction f with
  | zero =>
    intro l out steps lx H hs hsb hol hll hz hlx hAl hx hg hC
    obtain rfl := hz.resolve_right (by omega)
    exact ⟨H, hnil out steps lx H hlx, hC, Out.refl _ _⟩
  | succ f ih =>
    intro l out steps lx H hs hsb hol hll hz hlx hAl hx hg hC
    by_cases hl0 : l = []
    · subst hl0
      refine ⟨H, hnil out steps lx H hlx, ?_, Out.refl _ _⟩
      unfold farL
      rw [if_pos rfl]; exact hC
    · have hlp : 0 < l.length := List.length_pos_iff.2 hl0
      have S := lev_step (sc := fun n => bes E n false) hs l (out, [])
      have hz0 := S.zer
      simp only [List.length_nil, Nat.add_zero] at hz0
      have hzN : zeros out ≤ N := by unfold zeros; rw [← hol]; exact List.countP_le_length
      have hN := hE.n
      obtain ⟨ny, H1, i1, i2, i3, i4, i5⟩ := far1_loop hE hs hll ⟨hAl, hA.1, hA.2⟩ l 0 H out [] .slice0 (Nat.zero_le _) List.drop_zero hlx hx hg (fun j hj => by cases hj) hol (by simp; omega) hC .nil
      have o1 : Out [A] H H1 := i4.mono fun j hj => by
        rcases List.mem_cons.1 hj with rfl | hj
        · exact .head _
        · cases hj
      have hnr : ∀ j ∈ rid ny, H.next ≤ j := fun j hj => (i5 j hj).elim (fun q => by cases q) id
      obtain ⟨H', k1, k2, k3⟩ := ih _ _ (steps + 1) ny H1 (by omega) (by omega) (S.len.trans hol) (by omega) (by
        have := hz.resolve_left hl0
        cases hx' : (lev (fun n => bes E n false) steps l (out, [])).2 with
        | nil => exact .inl rfl
        | cons p q => rw [hx'] at hz0; simp only [List.length_cons] at hz0; exact .inr (by omega)) i3.rw (fun q => by have := hnr A q; have := hC.1; omega) (hx.out o1 fun j hj => by rw [List.mem_singleton]; intro e; subst e; exact hA.1 hj) (hg.out o1 (by rw [List.mem_singleton]; exact fun e => hA.2 e.symm)) i2
      refine ⟨H', fun k => ?_, ?_, o1.trans k3⟩
      · have hl := hlx.len1
        rw [ints_len, nats_len] at hl
        have d : decide ((0 : Int) < ((l.length : Nat) : Int)) = true := decide_eq_true (by omega)
        have e : IntKind.wrap .i64 ((steps : Int) + 1) = ((steps + 1 : Nat) : Int) := by rw [wrap_i64 (by omega) (by omega)]; rfl
        rw [show (((0 : Nat) : Int)) = 0 from rfl] at i1
        rw [ql_graph_far]
        simp only [bl_graph_far, hl, d, i1, e, k1, k_s, k_x, Int.reduceBEq, Int.reduceBNe, Int.reduceLT, Int.reduceLE, Int.reduceGT, Int.reduceGE, Int.reduceNeg]
      · unfold farL
        rw [if_neg hl0]; exact k2
theorem far_c {N : Nat} {E : List Ed} {x : AV} {H : Hp} {n : Nat} (hE : GoodE N E) (hx : RL H 2 x (edg E)) : ∃ A H', cK (.func (.func 40) [] []) [gv N x, .int .i64 n] H = some (.slice A 0 N N true 1, H') ∧ Cs H' A (ints (nats (far (fun n => bes E n false) N n))) 3 0 ∧ Out [] H H' ∧ H.next ≤ A := by
  have hx1 := hx.one
  have hN := hE.n
  have ho1 := al_out H [.int .i64 N, x] 39 0
  have hm := mks_ok (H := al H [.int .i64 N, x] 39 0) (z := .int .i64 0) (el := 3) (n := N) .i64 .i64 (by omega)
  have hrep : List.replicate N (AV.int .i64 0) = ints (nats (List.replicate N 0)) := by simp [ints, nats]
  rw [al_nx, hrep] at hm
  have ho2 := ho1.al (ints (nats (List.replicate N 0))) 3 0
  have c2 := al_cs (al H [.int .i64 N, x] 39 0) (ints (nats (List.replicate N 0))) 3 0
  have c1 := (al_cs H [.int .i64 N, x] 39 0).out (al_out (al H [.int .i64 N, x] 39 0) (ints (nats (List.replicate N 0))) 3 0) (by simp)
  have o3 := al_out (al (al H [.int .i64 N, x] 39 0) (ints (nats (List.replicate N 0))) 3 0) [.int .i64 (n : Int)] 3 0
  have ho3 := ho2.trans o3
  have c3 := al_cs (al (al H [.int .i64 N, x] 39 0) (ints (nats (List.replicate N 0))) 3 0) [.int .i64 (n : Int)] 3 0
  have hr3 : Rw (al (al (al H [.int .i64 N, x] 39 0) (ints (nats (List.replicate N 0))) 3 0) [.int .i64 (n : Int)] 3 0) 1 (.slice (H.next + 2) 0 1 1 true 1) (ints (nats [n])) := .mk c3.ro rfl (Nat.le_refl _) rfl
  have hxl := hx.1.lt
  obtain ⟨H', i1, i2, i3⟩ := far_loop (g := H.next) (A := H.next + 1) hE ⟨fun q => by have := hxl _ q; omega, by omega⟩ (N + 1) [n] (List.replicate N 0) 1 (.slice (H.next + 2) 0 1 1 true 1) _ (by decide) (by omega) (by simp) (by simp) (.inr (by rw [zeros_rep]; omega)) hr3 (by rw [rid_s (by rfl), List.mem_singleton]; omega) (hx.out0 ho3) (c1.out o3 (by simp)) (c2.out o3 (by simp))
  refine ⟨H.next + 1, H', c_graph_far ?_, i2, ho3.then i3 fun j hj => by rw [List.mem_singleton] at hj; exact .inr (by omega), by omega⟩
  rw [show (((1 : Nat) : Int)) = 1 from rfl] at i1
  unfold s_graph_far
  simp (disch := (first | assumption | omega | (simp only [k_d, k_c, Nat.reduceAdd, Nat.reduceLeDiff, Nat.reduceLT] <;> fail) | (simp only [k_c]; omega) | (simp only [k_d, k_c, Nat.reduceAdd, Nat.reduceLeDiff, Nat.reduceLT, *] <;> fail) | fail)) only [hm, i1, k_a, k_b, Nat.reduceAdd, k_s, k_x, Int.reduceBEq, Int.reduceBNe, Int.reduceLT, Int.reduceLE, Int.reduceGT, Int.reduceGE, Int.reduceNeg]
end Go.Proofs.YthljbjokonglhaaGreatDoor.DfK
