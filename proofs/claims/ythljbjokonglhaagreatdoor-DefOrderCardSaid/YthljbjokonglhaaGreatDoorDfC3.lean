/- What graph.Cycle, topo.Order and def.Graph do, as contracts over the symbolic heap. Conditions: the graph may be so. -/
import Derived.Test.YthljbjokonglhaaGreatDoorDfC2
namespace Go.Proofs.YthljbjokonglhaaGreatDoor.DfK
open Go Am Am.K DfEnv DfM LibP DfG
set_option linter.unusedVariables false
set_option linter.unusedSimpArgs false
set_option maxRecDepth 10000
abbrev fa' (E : List Ed) (N n : Nat) : List Nat := far (fun n => bes E n false) N n
theorem farL_le {sc : Nat → List Nat} {B : Nat} : ∀ (f : Nat) (l out : List Nat) (steps : Nat), steps + f ≤ B → (∀ v ∈ out, v ≤ B) → ∀ v ∈ farL sc f l out steps, v ≤ B := by
  have h1 : ∀ (steps b : Nat) (s : List Nat × List Nat), steps ≤ B → (∀ v ∈ s.1, v ≤ B) → ∀ v ∈ (exp1 steps s b).1, v ≤ B := by
    intro steps b s hs h v hv
    unfold exp1 at hv
    split at hv
    · rcases List.mem_or_eq_of_mem_set hv with hv | rfl
      · exact h v hv
      · exact hs
    · exact h v hv
  have h2 : ∀ (steps : Nat) (bs : List Nat) (s : List Nat × List Nat), steps ≤ B → (∀ v ∈ s.1, v ≤ B) → ∀ v ∈ (expd steps bs s).1, v ≤ B := by
    intro steps bs
    induction bs with
    | nil => intro s hs h; exact h
    | cons b bs ih => intro s hs h; exact ih _ hs (h1 steps b s hs h)
  have h3 : ∀ (steps : Nat) (l : List Nat) (s : List Nat × List Nat), steps ≤ B → (∀ v ∈ s.1, v ≤ B) → ∀ v ∈ (lev sc steps l s).1, v ≤ B := by
    intro steps l
    induction l with
    | nil => intro s hs h; exact h
    | cons b bs ih => intro s hs h; exact ih _ hs (h2 steps _ s hs h)
  intro f
  induction f with
  | zero => intro l out steps hs h; exact h
  | succ f ih =>
    intro l out steps hs h
    unfold farL
    split
    · exact h
    · exact ih _ _ _ (by omega) (h3 steps l _ (by omega) h)
theorem far_le {E : List Ed} {N n : Nat} (hN : N ≤ 16) : ∀ v ∈ fa' E N n, v ≤ 100 := by
  refine farL_le _ _ _ _ (by omega) ?_
  intro v hv
  rw [List.eq_of_mem_replicate hv]; omega
theorem fa_len {N n : Nat} {E : List Ed} (hE : GoodE N E) : (fa' E N n).length = N :=
  (far_end (C := fun _ => True) (fun a b hb => (hE.lt _ (mem_bes.1.1 hb)).2.1) (fun _ _ => trivial) (fun _ _ _ _ => trivial)).1
/-- how far a node is from itself -/
def selfD (E : List Ed) (N n : Nat) : Nat := (fa' E N n).getD n 0
theorem fa_at {N n m : Nat} {E : List Ed} (hE : GoodE N E) (hm : m < N) : (fa' E N n)[m]? = some ((fa' E N n).getD m 0) := by
  rw [List.getD_eq_getElem?_getD, List.getElem?_eq_getElem (by rw [fa_len hE]; exact hm)]; rfl
theorem far_at {N n m : Nat} {E : List Ed} {H' : Hp} {A : Nat} (hE : GoodE N E) (hm : m < N) (hC : Cs H' A (ints (nats (fa' E N n))) 3 0) : ia 1 (.slice A 0 N N true 1) (.int .i64 (m : Int)) = some (.ptr A m) ∧ cellAt H' A m = some (.int .i64 (((fa' E N n).getD m 0 : Nat) : Int)) :=
  ⟨by rw [ia_s hm]; simp, hC.cellAt (nats_get (fa_at hE hm))⟩
theorem getD_le {N n m : Nat} {E : List Ed} (hE : GoodE N E) (hm : m < N) : (fa' E N n).getD m 0 ≤ 100 := far_le hE.n _ (List.mem_of_getElem? (fa_at hE hm))
theorem cyc_loop {N : Nat} {E : List Ed} {x : AV} {g : Nat} (hE : GoodE N E) : ∀ (m i st sp : Nat) (H : Hp), i + m = N → st < N + 1 → (0 < sp → st < N) → sp ≤ 100 → (sp = 0 ↔ ∀ n, n < i → selfD E N n = 0) → RL H 2 x (edg E) → Cs H g [.int .i64 N, x] 39 0 →
    ∃ st' sp' H', (∀ k : K.Fn 3, l_graph_Cycle JN GO cK k (.ptr g 0) (.int .i64 st) (.int .i64 sp) (.int .i64 N) (.int .i64 i) H = k (.ptr g 0) (.int .i64 (st' : Nat)) (.int .i64 (sp' : Nat)) H') ∧ (0 < sp' → st' < N) ∧ sp' ≤ 100 ∧ (sp' = 0 ↔ ∀ n, n < N → selfD E N n = 0) ∧ Out [] H H' := by
  intro m
  induction m with
  | zero =>
    intro i st sp H hi hst hst2 hsp hiff hx hg
    obtain rfl : i = N := by omega
    refine ⟨st, sp, H, fun k => ?_, hst2, hsp, hiff, Out.refl _ _⟩
    rw [ql_graph_Cycle]
    simp only [bl_graph_Cycle, lt_f, k_s, k_x, Int.reduceBEq, Int.reduceBNe, Int.reduceLT, Int.reduceLE, Int.reduceGT, Int.reduceGE, Int.reduceNeg]
  | succ m ih =>
    intro i st sp H hi hst hst2 hsp hiff hx hg
    have hx1 := hx.one
    have hN := hE.n
    have hiN : i < N := by omega
    have hg2 : cellsAt H g 0 2 = some [.int .i64 N, x] := hg.cellsAt 2 0 (by simp)
    obtain ⟨A, H1, f1, f2, f3, f4⟩ := far_c (n := i) hE hx
    obtain ⟨a1, a2⟩ := far_at hE hiN f2
    have hle := getD_le (n := i) hE hiN
    have hd : (fa' E N i).getD i 0 = selfD E N i := rfl
    rw [hd] at a2 hle
    have es : IntKind.wrap .i64 ((i : Int) + 1) = ((i + 1 : Nat) : Int) := by rw [wrap_i64 (by omega) (by omega)]; rfl
    have hlt : decide (((i : Nat) : Int) < ((N : Nat) : Int)) = true := decide_eq_true (by omega)
    by_cases hk : 0 < selfD E N i
    · have dk : decide ((0 : Int) < ((selfD E N i : Nat) : Int)) = true := decide_eq_true (by omega)
      by_cases h0 : sp = 0
      · obtain ⟨st', sp', H', i1, i2, i3, i4, i5⟩ := ih (i + 1) i (selfD E N i) H1 (by omega) (by omega) (fun _ => hiN) hle ⟨fun q => by omega, fun q => by have := q i (by omega); omega⟩ (hx.out0 f3) (hg.out f3 (by simp))
        refine ⟨st', sp', H', fun k => ?_, i2, i3, i4, f3.trans i5⟩
        subst h0
        rw [ql_graph_Cycle]
        simp (disch := (first | assumption | omega | (simp only [k_d, k_c, Nat.reduceAdd, Nat.reduceLeDiff, Nat.reduceLT] <;> fail) | (simp only [k_c]; omega) | (simp only [k_d, k_c, Nat.reduceAdd, Nat.reduceLeDiff, Nat.reduceLT, *] <;> fail) | fail)) only [bl_graph_Cycle, hlt, hg2, f1, a1, a2, dk, Int.natCast_zero, es, i1, k_a, k_b, Nat.reduceAdd, k_s, k_x, Int.reduceBEq, Int.reduceBNe, Int.reduceLT, Int.reduceLE, Int.reduceGT, Int.reduceGE, Int.reduceNeg]
      · have e0 : ((sp : Int) == 0) = false := beq_false_of_ne (by omega)
        by_cases h1 : selfD E N i < sp
        · have dl : decide (((selfD E N i : Nat) : Int) < ((sp : Nat) : Int)) = true := decide_eq_true (by omega)
          obtain ⟨st', sp', H', i1, i2, i3, i4, i5⟩ := ih (i + 1) i (selfD E N i) H1 (by omega) (by omega) (fun _ => hiN) hle ⟨fun q => by omega, fun q => by have := q i (by omega); omega⟩ (hx.out0 f3) (hg.out f3 (by simp))
          refine ⟨st', sp', H', fun k => ?_, i2, i3, i4, f3.trans i5⟩
          rw [ql_graph_Cycle]
          simp (disch := (first | assumption | omega | (simp only [k_d, k_c, Nat.reduceAdd, Nat.reduceLeDiff, Nat.reduceLT] <;> fail) | (simp only [k_c]; omega) | (simp only [k_d, k_c, Nat.reduceAdd, Nat.reduceLeDiff, Nat.reduceLT, *] <;> fail) | fail)) only [bl_graph_Cycle, hlt, hg2, f1, a1, a2, dk, e0, dl, es, i1, k_a, k_b, Nat.reduceAdd, k_s, k_x, Int.reduceBEq, Int.reduceBNe, Int.reduceLT, Int.reduceLE, Int.reduceGT, Int.reduceGE, Int.reduceNeg]
        · have dl : decide (((selfD E N i : Nat) : Int) < ((sp : Nat) : Int)) = false := decide_eq_false (by omega)
          obtain ⟨st', sp', H', i1, i2, i3, i4, i5⟩ := ih (i + 1) st sp H1 (by omega) hst hst2 hsp ⟨fun q => by omega, fun q => by have := q i (by omega); omega⟩ (hx.out0 f3) (hg.out f3 (by simp))
          refine ⟨st', sp', H', fun k => ?_, i2, i3, i4, f3.trans i5⟩
          rw [ql_graph_Cycle]
          simp (disch := (first | assumption | omega | (simp only [k_d, k_c, Nat.reduceAdd, Nat.reduceLeDiff, Nat.reduceLT] <;> fail) | (simp only [k_c]; omega) | (simp only [k_d, k_c, Nat.reduceAdd, Nat.reduceLeDiff, Nat.reduceLT, *] <;> fail) | fail)) only [bl_graph_Cycle, hlt, hg2, f1, a1, a2, dk, e0, dl, es, i1, k_a, k_b, Nat.reduceAdd, k_s, k_x, Int.reduceBEq, Int.reduceBNe, Int.reduceLT, Int.reduceLE, Int.reduceGT, Int.reduceGE, Int.reduceNeg]
    · have hk0 : selfD E N i = 0 := by omega
      have dk : decide ((0 : Int) < ((selfD E N i : Nat) : Int)) = false := decide_eq_false (by omega)
      obtain ⟨st', sp', H', i1, i2, i3, i4, i5⟩ := ih (i + 1) st sp H1 (by omega) hst hst2 hsp (hiff.trans ⟨fun q n hn => by
        by_cases hni : n = i
        · subst hni; exact hk0
        · exact q n (by omega), fun q n hn => q n (by omega)⟩) (hx.out0 f3) (hg.out f3 (by simp))
      refine ⟨st', sp', H', fun k => ?_, i2, i3, i4, f3.trans i5⟩
      rw [ql_graph_Cycle]
      simp (disch := (first | assumption | omega | (simp only [k_d, k_c, Nat.reduceAdd, Nat.reduceLeDiff, Nat.reduceLT] <;> fail) | (simp only [k_c]; omega) | (simp only [k_d, k_c, Nat.reduceAdd, Nat.reduceLeDiff, Nat.reduceLT, *] <;> fail) | fail)) only [bl_graph_Cycle, hlt, hg2, f1, a1, a2, dk, es, i1, k_a, k_b, Nat.reduceAdd, k_s, k_x, Int.reduceBEq, Int.reduceBNe, Int.reduceLT, Int.reduceLE, Int.reduceGT, Int.reduceGE, Int.reduceNeg]
/-- the inner loop of Cycle finds the next node, or none -/
theorem cyc2_loop {N : Nat} {E : List Ed} {x : AV} {g st left : Nat} {bl : List Nat} (hE : GoodE N E) (hst : st < N) (hbl : ∀ b ∈ bl, b < N) (hbn : bl.length ≤ 300) : ∀ (r : List Nat) (i : Nat) (bx y : AV) (out : List Nat) (H : Hp), i ≤ bl.length → bl.drop i = r → Rw H 1 bx (ints (nats bl)) → RL H 2 x (edg E) → Cs H g [.int .i64 N, x] 39 0 → Ow H 3 1 y (ints (nats out)) → out.length ≤ 10000 →
    ∃ y' out' H', (∀ (j97 : K.Fn 1) (j106 j124 : K.Fn 4), l_graph_Cycle2 JN GO cK j97 j106 j124 (.ptr g 0) (.int .i64 st) y (.int .i64 left) bx (.int .i64 (bl.length : Nat)) (.int .i64 (i : Nat)) H = j124 (.ptr g 0) (.int .i64 st) y' (.int .i64 left) H') ∧ Ow H' 3 1 y' (ints (nats out')) ∧ (out' = out ∨ ∃ b, b < N ∧ out' = out ++ [b]) ∧ Out (rid y) H H' ∧ ∀ j ∈ rid y', j ∈ rid y ∨ H.next ≤ j
  | [], i, bx, y, out, H, hi, h, hb, hx, hg, hO, hol => by
    obtain rfl := drop_nil hi h
    refine ⟨y, out, H, fun j97 j106 j124 => ?_, hO, .inl rfl, Out.refl _ _, fun j hj => .inl hj⟩
    rw [ql_graph_Cycle2]
    simp only [bl_graph_Cycle2, lt_f, k_s, k_x, Int.reduceBEq, Int.reduceBNe, Int.reduceLT, Int.reduceLE, Int.reduceGT, Int.reduceGE, Int.reduceNeg]
  | b :: r, i, bx, y, out, H, hi, h, hb, hx, hg, hO, hol => by
    obtain ⟨h1, h2, h3⟩ := hd_drop h
    obtain ⟨q, q1, q2⟩ := hb.ia1 (nats_get h2) .i64
    have hbN := hbl b (List.mem_of_getElem? h2)
    have es := wrap_s h1 (by omega)
    have hx1 := hx.one
    have hg2 : cellsAt H g 0 2 = some [.int .i64 N, x] := hg.cellsAt 2 0 (by simp)
    by_cases hbs : b = st
    · have d : (((b : Nat) : Int) != ((st : Nat) : Int)) = false := by subst hbs; simp
      obtain ⟨y', out', H', i1, i2⟩ := cyc2_loop (left := left) hE hst hbl hbn r (i + 1) bx y out H h1 h3 hb hx hg hO hol
      refine ⟨y', out', H', fun j97 j106 j124 => ?_, i2⟩
      rw [ql_graph_Cycle2]
      simp (disch := (first | assumption | omega | (simp only [k_d, k_c, Nat.reduceAdd, Nat.reduceLeDiff, Nat.reduceLT] <;> fail) | (simp only [k_c]; omega) | (simp only [k_d, k_c, Nat.reduceAdd, Nat.reduceLeDiff, Nat.reduceLT, *] <;> fail) | fail)) only [bl_graph_Cycle2, lt_t h1, q1, q2, d, es, i1, k_a, k_b, Nat.reduceAdd, k_s, k_x, Int.reduceBEq, Int.reduceBNe, Int.reduceLT, Int.reduceLE, Int.reduceGT, Int.reduceGE, Int.reduceNeg]
    · have d : (((b : Nat) : Int) != ((st : Nat) : Int)) = true := by simp; omega
      obtain ⟨A, H1, f1, f2, f3, f4⟩ := far_c (n := b) hE hx
      obtain ⟨a1, a2⟩ := far_at hE hst f2
      by_cases hl : (fa' E N b).getD st 0 = left
      · have d2 : ((((fa' E N b).getD st 0 : Nat) : Int) == ((left : Nat) : Int)) = true := by rw [hl]; simp
        obtain ⟨y1, H2, p1, p2, p3, p4, p5⟩ := push_ok (el2 := 3) (z := [(.int .i64 0)]) (vs := [.int .i64 (b : Int)]) (hO.out f3 (by simp)) rfl rfl (by decide) (by rw [ints_len, nats_len]; simp; omega)
        have hp2 : ints (nats out) ++ [.int .i64 (b : Int)] = ints (nats (out ++ [b])) := by rw [nats_app, ints_app]; rfl
        rw [hp2] at p2
        have hn1 := f3.nx
        refine ⟨y1, out ++ [b], H2, fun j97 j106 j124 => ?_, p2, .inr ⟨b, hbN, rfl⟩, (f3.mono fun j hj => by cases hj).trans p3, fun j hj => (p4 j hj).imp id fun q => by omega⟩
        have p1' := p1 _ rfl
        rw [ql_graph_Cycle2]
        simp (disch := (first | assumption | omega | (simp only [k_d, k_c, Nat.reduceAdd, Nat.reduceLeDiff, Nat.reduceLT] <;> fail) | (simp only [k_c]; omega) | (simp only [k_d, k_c, Nat.reduceAdd, Nat.reduceLeDiff, Nat.reduceLT, *] <;> fail) | fail)) only [bl_graph_Cycle2, lt_t h1, q1, q2, d, hg2, f1, a1, a2, d2, p1', k_a, k_b, Nat.reduceAdd, k_s, k_x, Int.reduceBEq, Int.reduceBNe, Int.reduceLT, Int.reduceLE, Int.reduceGT, Int.reduceGE, Int.reduceNeg]
      · have d2 : ((((fa' E N b).getD st 0 : Nat) : Int) == ((left : Nat) : Int)) = false := beq_false_of_ne (by omega)
        obtain ⟨y', out', H', i1, i2, i3, i4, i5⟩ := cyc2_loop (left := left) hE hst hbl hbn r (i + 1) bx y out H1 h1 h3 (hb.out0 f3) (hx.out0 f3) (hg.out f3 (by simp)) (hO.out f3 (by simp)) hol
        have hn1 := f3.nx
        refine ⟨y', out', H', fun j97 j106 j124 => ?_, i2, i3, (f3.mono fun j hj => by cases hj).trans i4, fun j hj => (i5 j hj).imp id fun q => by omega⟩
        rw [ql_graph_Cycle2]
        simp (disch := (first | assumption | omega | (simp only [k_d, k_c, Nat.reduceAdd, Nat.reduceLeDiff, Nat.reduceLT] <;> fail) | (simp only [k_c]; omega) | (simp only [k_d, k_c, Nat.reduceAdd, Nat.reduceLeDiff, Nat.reduceLT, *] <;> fail) | fail)) only [bl_graph_Cycle2, lt_t h1, q1, q2, d, hg2, f1, a1, a2, d2, es, i1, k_a, k_b, Nat.reduceAdd, k_s, k_x, Int.reduceBEq, Int.reduceBNe, Int.reduceLT, Int.reduceLE, Int.reduceGT, Int.reduceGE, Int.reduceNeg]
theorem cyc1_loop {N : Nat} {E : List Ed} {x : AV} {g st : Nat} (hE : GoodE N E) (hst : st < N) : ∀ (left : Nat) (y : AV) (out : List Nat) (H : Hp), out ≠ [] → (∀ b ∈ out, b < N) → out.length + left ≤ 1000 → RL H 2 x (edg E) → Cs H g [.int .i64 N, x] 39 0 → Ow H 3 1 y (ints (nats out)) → (∀ j ∈ rid y, j ∉ rid x ∧ j ≠ g) →
    ∃ y' out' H', (∀ k : K.Fn 1, l_graph_Cycle1 JN GO cK k (.ptr g 0) (.int .i64 st) y (.int .i64 left) H = k y' H') ∧ Ow H' 3 1 y' (ints (nats out')) ∧ out' ≠ [] ∧ Out (rid y) H H' := by
  intro left
  induction left with
  | zero =>
    intro y out H h0 hlt hn hx hg hO hd
    refine ⟨y, out, H, fun k => ?_, hO, h0, Out.refl _ _⟩
    have d : decide ((0 : Int) < ((0 : Nat) : Int)) = false := rfl
    rw [ql_graph_Cycle1]
    simp only [bl_graph_Cycle1, d, k_s, k_x, Int.reduceBEq, Int.reduceBNe, Int.reduceLT, Int.reduceLE, Int.reduceGT, Int.reduceGE, Int.reduceNeg]
  | succ left ih =>
    intro y out H h0 hlt hn hx hg hO hd
    have hop : 0 < out.length := List.length_pos_iff.2 h0
    have hx1 := hx.one
    have hg2 : cellsAt H g 0 2 = some [.int .i64 N, x] := hg.cellsAt 2 0 (by simp)
    have hyl := hO.rw.len1
    rw [ints_len, nats_len] at hyl
    obtain ⟨a, ha⟩ : ∃ a, out[out.length - 1]? = some a := ⟨_, List.getElem?_eq_getElem (by omega)⟩
    obtain ⟨q, q1, q2⟩ := hO.rw.ia1 (nats_get ha) .i64
    have hEl := hE.len
    have hbl : ∀ b ∈ bes E a false, b < N := fun b hb => (hE.lt _ (mem_bes.1.1 hb)).2.1
    have hbn := bes_len E a false
    obtain ⟨bx, H1, b1, b2, b3, b4⟩ := behind_c a hE hx
    have hbl2 := b2.rw.len1
    rw [ints_len, nats_len] at hbl2
    have hyr := hO.rw.lt
    obtain ⟨y1, out1, H2, i1, i2, i3, i4, i5⟩ := cyc2_loop (left := left + 1) hE hst hbl (by omega) (bes E a false) 0 bx y out H1 (Nat.zero_le _) List.drop_zero b2.rw (hx.out0 b3) (hg.out b3 (by simp)) (hO.out b3 (by simp)) (by omega)
    have hn1 := b3.nx
    have o2 : Out (rid y) H H2 := (b3.mono fun j hj => by cases hj).trans i4
    have hxl := hx.1.lt
    have hgl := hg.1
    have hr1 : ∀ j ∈ rid y1, j ∈ rid y ∨ H.next ≤ j := fun j hj => (i5 j hj).imp id fun q => by omega
    have hprop : out1 ≠ [] ∧ (∀ b ∈ out1, b < N) ∧ out1.length ≤ out.length + 1 := by
      rcases i3 with rfl | ⟨b, hb, rfl⟩
      · exact ⟨h0, hlt, by omega⟩
      · refine ⟨by simp, fun c hc => ?_, by simp⟩
        rcases List.mem_append.1 hc with hc | hc
        · exact hlt c hc
        · rw [List.mem_singleton] at hc; subst hc; exact hb
    obtain ⟨y', out', H', k1, k2, k3, k4⟩ := ih y1 out1 H2 hprop.1 hprop.2.1 (by have := hprop.2.2; omega) (hx.out o2 fun j hj q => (hd j q).1 hj) (hg.out o2 fun q => (hd g q).2 rfl) i2 (fun j hj => (hr1 j hj).elim (hd j) fun q => ⟨fun z => by have := hxl j z; omega, by omega⟩)
    refine ⟨y', out', H', fun k => ?_, k2, k3, o2.then k4 hr1⟩
    have d : decide ((0 : Int) < ((left + 1 : Nat) : Int)) = true := decide_eq_true (by omega)
    have e1 : IntKind.wrap .i64 (((out.length : Nat) : Int) - 1) = ((out.length - 1 : Nat) : Int) := by rw [wrap_i64 (by omega) (by omega)]; omega
    have e2 : IntKind.wrap .i64 (((left + 1 : Nat) : Int) - 1) = ((left : Nat) : Int) := by rw [wrap_i64 (by omega) (by omega)]; omega
    rw [show (((0 : Nat) : Int)) = 0 from rfl] at i1
    rw [ql_graph_Cycle1]
    simp (disch := (first | assumption | omega | (simp only [k_d, k_c, Nat.reduceAdd, Nat.reduceLeDiff, Nat.reduceLT] <;> fail) | (simp only [k_c]; omega) | (simp only [k_d, k_c, Nat.reduceAdd, Nat.reduceLeDiff, Nat.reduceLT, *] <;> fail) | fail)) only [bl_graph_Cycle1, d, hg2, hyl, e1, q1, q2, b1, hbl2, i1, e2, k1, k_a, k_b, Nat.reduceAdd, k_s, k_x, Int.reduceBEq, Int.reduceBNe, Int.reduceLT, Int.reduceLE, Int.reduceGT, Int.reduceGE, Int.reduceNeg]
/-- has the graph no cycle? -/
def noCyc (N : Nat) (E : List Ed) : Prop := ∀ n, n < N → selfD E N n = 0
theorem cycle_c {N : Nat} {E : List Ed} {x : AV} {H : Hp} (hE : GoodE N E) (hx : RL H 2 x (edg E)) : ∃ (y : AV) (k : Nat) (H' : Hp), cK (.func (.func 14) [] []) [gv N x] H = some (y, H') ∧ lenx y = some (.int .i64 k) ∧ (k = 0 ↔ noCyc N E) ∧ Out [] H H' := by
  have hx1 := hx.one
  have hN := hE.n
  have ho1 := al_out H [.int .i64 N, x] 39 0
  have c1 := al_cs H [.int .i64 N, x] 39 0
  obtain ⟨H2, g1, g2⟩ := good_c hE (hx.out0 ho1)
  have hn2 := g2.nx
  rw [al_nx] at hn2
  have ho2 := ho1.trans g2
  have c2 := c1.out g2 (by simp)
  obtain ⟨st, sp, H3, i1, i2, i3, i4, i5⟩ := cyc_loop (g := H.next) hE N 0 0 0 H2 (by omega) (by omega) (by omega) (by omega) ⟨fun _ n hn => by omega, fun _ => rfl⟩ (hx.out0 ho2) c2
  rw [show (((0 : Nat) : Int)) = 0 from rfl] at i1
  have hc0 : cellAt H2 H.next 0 = some (.int .i64 N) := c2.cellAt rfl
  have ho3 := ho2.trans i5
  have c3 := c2.out i5 (by simp)
  have hn3 := i5.nx
  by_cases h0 : sp = 0
  · refine ⟨.slice0, 0, H3, c_graph_Cycle ?_, rfl, ⟨fun _ => i4.1 h0, fun _ => rfl⟩, ho3⟩
    subst h0
    unfold s_graph_Cycle
    simp (disch := (first | assumption | omega | (simp only [k_d, k_c, Nat.reduceAdd, Nat.reduceLeDiff, Nat.reduceLT] <;> fail) | (simp only [k_c]; omega) | (simp only [k_d, k_c, Nat.reduceAdd, Nat.reduceLeDiff, Nat.reduceLT, *] <;> fail) | fail)) only [g1, hc0, i1, Int.natCast_zero, k_a, k_b, Nat.reduceAdd, k_s, k_x, Int.reduceBEq, Int.reduceBNe, Int.reduceLT, Int.reduceLE, Int.reduceGT, Int.reduceGE, Int.reduceNeg]
  · have hstN := i2 (by omega)
    have c4 := al_cs H3 [.int .i64 (st : Int)] 3 0
    have o4 := al_out H3 [.int .i64 (st : Int)] 3 0
    have hO : Ow (al H3 [.int .i64 (st : Int)] 3 0) 3 1 (.slice H3.next 0 1 1 true 1) (ints (nats [st])) := c4.ow (by decide) rfl (by intro v hv; rw [List.mem_singleton] at hv; subst hv; rfl) true
    have hxl := hx.1.lt
    obtain ⟨y, out, H5, k1, k2, k3, k4⟩ := cyc1_loop (g := H.next) hE hstN (sp - 1) _ [st] _ (by simp) (by intro b hb; rw [List.mem_singleton] at hb; subst hb; exact hstN) (by simp; omega) (hx.out0 (ho3.trans o4)) (c3.out o4 (by simp)) hO (fun j hj => by
      rw [rid_s (by rfl), List.mem_singleton] at hj
      exact ⟨fun q => by have := hxl j q; omega, by omega⟩)
    have hyl := k2.rw.len1
    rw [ints_len, nats_len] at hyl
    have hop : 0 < out.length := List.length_pos_iff.2 k3
    refine ⟨y, out.length, H5, c_graph_Cycle ?_, hyl, ⟨fun q => by omega, fun q => absurd (i4.2 q) h0⟩, (ho3.trans o4).then k4 fun j hj => ?_⟩
    · have d : (((sp : Nat) : Int) == 0) = false := beq_false_of_ne (by omega)
      have e : IntKind.wrap .i64 (((sp : Nat) : Int) - 1) = ((sp - 1 : Nat) : Int) := by rw [wrap_i64 (by omega) (by omega)]; omega
      unfold s_graph_Cycle
      simp (disch := (first | assumption | omega | (simp only [k_d, k_c, Nat.reduceAdd, Nat.reduceLeDiff, Nat.reduceLT] <;> fail) | (simp only [k_c]; omega) | (simp only [k_d, k_c, Nat.reduceAdd, Nat.reduceLeDiff, Nat.reduceLT, *] <;> fail) | fail)) only [g1, hc0, i1, d, e, k1, k_a, k_b, Nat.reduceAdd, k_s, k_x, Int.reduceBEq, Int.reduceBNe, Int.reduceLT, Int.reduceLE, Int.reduceGT, Int.reduceGE, Int.reduceNeg]
    · rw [rid_s (by rfl), List.mem_singleton] at hj; exact .inr (by omega)
/-! topo.Order -/
def freeN (E : List Ed) (out : List Nat) (n : Nat) : Bool := (bes E n true).all (fun a => out.any (fun b => a == b)) && !(out.any (fun b => n == b))
/-- the least free node below a bound, else what was found -/
def nextB (E : List Ed) (out : List Nat) : Nat → Int → Int
  | 0, nx => nx
  | n + 1, nx => nextB E out n (if freeN E out n then (n : Int) else nx)
def ordM (E : List Ed) (N : Nat) : Nat → List Nat → Option (List Nat)
  | 0, out => some out
  | k + 1, out => if nextB E out N (-1) < 0 then none else ordM E N k (out ++ [(nextB E out N (-1)).toNat])
theorem any_nats (l : List Nat) (a : Nat) : (nats l).any (fun b => (a : Int) == b) = l.any (fun b => a == b) := by
  unfold nats
  rw [List.any_map]
  congr 1
  funext b
  show ((a : Int) == (b : Int)) = (a == b)
  by_cases h : a = b
  · subst h; simp
  · rw [beq_false_of_ne h, beq_false_of_ne (by omega)]
theorem ord_inner {N : Nat} {E : List Ed} {x ox : AV} {g p : Nat} {out : List Nat} (hE : GoodE N E) (hol : out.length ≤ 100) : ∀ (n : Nat) (nx : Int) (H : Hp) (k5 : AV), n ≤ N → RL H 2 x (edg E) → Cs H g [.int .i64 N, x] 39 0 → Cs H p [ox] 35 0 → Rw H 1 ox (ints (nats out)) →
    ∃ H', (∀ (j23 : K.Fn 1) (j32 : K.Fn 4) (j37 : K.Fn 5), l_topo_Order1 JN GO cK j23 j32 j37 (.ptr g 0) (.ptr p 0) (.int .i64 nx) (.int .i64 ((n : Int) - 1)) (.int .i64 N) k5 H = j37 (.ptr g 0) (.ptr p 0) (.int .i64 (nextB E out n nx)) (.int .i64 N) k5 H') ∧ Out [] H H' := by
  intro n
  induction n with
  | zero =>
    intro nx H k5 hn hx hg hp ho
    refine ⟨H, fun j23 j32 j37 => ?_, Out.refl _ _⟩
    have d : decide ((0 : Int) ≤ ((0 : Nat) : Int) - 1) = false := rfl
    rw [ql_topo_Order1]
    simp only [bl_topo_Order1, d, nextB, k_s, k_x, Int.reduceBEq, Int.reduceBNe, Int.reduceLT, Int.reduceLE, Int.reduceGT, Int.reduceGE, Int.reduceNeg]
  | succ n ih =>
    intro nx H k5 hn hx hg hp ho
    have hN := hE.n
    have hx1 := hx.one
    have hg2 : cellsAt H g 0 2 = some [.int .i64 N, x] := hg.cellsAt 2 0 (by simp)
    obtain ⟨y, H1, a1, a2, a3, a4⟩ := ahead_c n hE hx
    have hbl := bes_len E n true
    have hEl := hE.len
    have ho1 := ho.out0 a3
    have hp1 := hp.out a3 (by simp)
    obtain ⟨H2, c1, c2⟩ := containsFuncint_c (fv := .func (.func 50) [] [.ptr p 0]) (p := fun a => !((nats out).any (fun b => a == b))) a2.rw (by rw [nats_len]; omega) (fun H' hH a ha => ⟨H', ord1_c ((hp1.out hH (by simp)).cellAt (o := 0) rfl) (ho1.out0 hH) (by rw [nats_len]; omega) a, Out.refl _ _⟩)
    have hany : (nats (bes E n true)).any (fun a => !((nats out).any (fun b => a == b))) = !((bes E n true).all (fun a => out.any (fun b => a == b))) := by
      unfold nats
      rw [List.any_map, List.all_eq_not_any_not, Bool.not_not]
      congr 1
      funext a
      exact congrArg _ (any_nats out a)
    rw [hany] at c1
    have o12 := a3.trans c2
    have hp2 := hp.out o12 (by simp)
    have ho2 := ho.out0 o12
    have hcc : cellAt H2 p 0 = some ox := hp2.cellAt rfl
    have hct := containsint_c ho2 (by rw [nats_len]; omega) (n : Int)
    rw [any_nats] at hct
    obtain ⟨H', i1, i2⟩ := ih (if freeN E out n then (n : Int) else nx) H2 k5 (by omega) (hx.out0 o12) (hg.out o12 (by simp)) hp2 ho2
    refine ⟨H', fun j23 j32 j37 => ?_, o12.trans i2⟩
    have d : decide ((0 : Int) ≤ ((n + 1 : Nat) : Int) - 1) = true := decide_eq_true (by omega)
    have e0 : ((n + 1 : Nat) : Int) - 1 = (n : Int) := by omega
    have e1 : IntKind.wrap .i64 ((n : Int) - 1) = (n : Int) - 1 := wrap_i64 (by omega) (by omega)
    have d' : decide ((0 : Int) ≤ (n : Int)) = true := decide_eq_true (by omega)
    have hnb : nextB E out (n + 1) nx = nextB E out n (if freeN E out n then (n : Int) else nx) := rfl
    rw [hnb, e0, ql_topo_Order1]
    unfold freeN at i1 ⊢
    cases h1 : (bes E n true).all (fun a => out.any (fun b => a == b)) with
    | false =>
      rw [h1] at i1 c1
      simp only [Bool.false_and, Bool.false_eq_true, if_false] at i1 ⊢
      simp (disch := (first | assumption | omega | (simp only [k_d, k_c, Nat.reduceAdd, Nat.reduceLeDiff, Nat.reduceLT] <;> fail) | (simp only [k_c]; omega) | (simp only [k_d, k_c, Nat.reduceAdd, Nat.reduceLeDiff, Nat.reduceLT, *] <;> fail) | fail)) only [bl_topo_Order1, d', hg2, a1, c1, e1, i1, k_a, k_b, Nat.reduceAdd, k_s, k_x, Int.reduceBEq, Int.reduceBNe, Int.reduceLT, Int.reduceLE, Int.reduceGT, Int.reduceGE, Int.reduceNeg]
    | true =>
      rw [h1] at i1 c1
      cases h2 : out.any (fun b => n == b) with
      | true =>
        rw [h2] at i1 hct
        simp only [Bool.not_true, Bool.and_false, Bool.false_eq_true, if_false] at i1 ⊢
        simp (disch := (first | assumption | omega | (simp only [k_d, k_c, Nat.reduceAdd, Nat.reduceLeDiff, Nat.reduceLT] <;> fail) | (simp only [k_c]; omega) | (simp only [k_d, k_c, Nat.reduceAdd, Nat.reduceLeDiff, Nat.reduceLT, *] <;> fail) | fail)) only [bl_topo_Order1, d', hg2, a1, c1, hcc, hct, e1, i1, k_a, k_b, Nat.reduceAdd, k_s, k_x, Int.reduceBEq, Int.reduceBNe, Int.reduceLT, Int.reduceLE, Int.reduceGT, Int.reduceGE, Int.reduceNeg]
      | false =>
        rw [h2] at i1 hct
        simp only [Bool.not_false, Bool.and_self, if_true] at i1 ⊢
        simp (disch := (first | assumption | omega | (simp only [k_d, k_c, Nat.reduceAdd, Nat.reduceLeDiff, Nat.reduceLT] <;> fail) | (simp only [k_c]; omega) | (simp only [k_d, k_c, Nat.reduceAdd, Nat.reduceLeDiff, Nat.reduceLT, *] <;> fail) | fail)) only [bl_topo_Order1, d', hg2, a1, c1, hcc, hct, e1, i1, k_a, k_b, Nat.reduceAdd, k_s, k_x, Int.reduceBEq, Int.reduceBNe, Int.reduceLT, Int.reduceLE, Int.reduceGT, Int.reduceGE, Int.reduceNeg]
theorem ord_outer {N : Nat} {E : List Ed} {x : AV} {g p : Nat} (hE : GoodE N E) (hgp : g ≠ p) (hxp : p ∉ rid x) : ∀ (k i : Nat) (out : List Nat) (ox : AV) (H : Hp), i + k = N → out.length ≤ i → RL H 2 x (edg E) → Cs H g [.int .i64 N, x] 39 0 → Cs H p [ox] 35 0 → Ow H 3 1 ox (ints (nats out)) → (∀ j ∈ rid ox, j ∉ rid x ∧ j ≠ g ∧ j ≠ p) →
    ∃ y H' S, (∀ k5 : K.Fn 1, l_topo_Order JN GO cK k5 (.ptr g 0) (.ptr p 0) (.int .i64 N) (.int .i64 i) H = match ordM E N k out with | some l => k5 (.ptr p 0) H' | none => some (.tuple [.slice0, .bool false], H')) ∧ (∀ l, ordM E N k out = some l → cellAt H' p 0 = some y ∧ Rw H' 1 y (ints (nats l)) ∧ ∀ j ∈ rid y, j ∈ rid ox ∨ H.next ≤ j) ∧ Out S H H' ∧ (∀ j ∈ S, j = p ∨ j ∈ rid ox ∨ H.next ≤ j) := by
  intro k
  induction k with
  | zero =>
    intro i out ox H hi hol hx hg hp hO hd
    obtain rfl : i = N := by omega
    refine ⟨ox, H, [], fun k5 => ?_, fun l hl => ?_, Out.refl _ _, fun j hj => by cases hj⟩
    · rw [ql_topo_Order]
      simp only [bl_topo_Order, lt_f, ordM, k_s, k_x, Int.reduceBEq, Int.reduceBNe, Int.reduceLT, Int.reduceLE, Int.reduceGT, Int.reduceGE, Int.reduceNeg]
    · cases hl
      exact ⟨hp.cellAt rfl, hO.rw, fun j hj => .inl hj⟩
  | succ k ih =>
    intro i out ox H hi hol hx hg hp hO hd
    have hN := hE.n
    obtain ⟨H1, i1, i2⟩ := ord_inner hE (by omega) N (-1) H (.int .i64 i) (Nat.le_refl _) hx hg hp hO.rw
    have hgc : cellAt H g 0 = some (.int .i64 N) := hg.cellAt rfl
    have hlt : decide (((i : Nat) : Int) < ((N : Nat) : Int)) = true := decide_eq_true (by omega)
    have e0 : IntKind.wrap .i64 ((N : Int) - 1) = (N : Int) - 1 := wrap_i64 (by omega) (by omega)
    have es : IntKind.wrap .i64 ((i : Int) + 1) = ((i + 1 : Nat) : Int) := by rw [wrap_i64 (by omega) (by omega)]; rfl
    by_cases hneg : nextB E out N (-1) < 0
    · have d : decide (nextB E out N (-1) < 0) = true := decide_eq_true hneg
      refine ⟨ox, H1, [], fun k5 => ?_, fun l hl => ?_, i2, fun j hj => by cases hj⟩
      · rw [ql_topo_Order]
        simp (disch := (first | assumption | omega | (simp only [k_d, k_c, Nat.reduceAdd, Nat.reduceLeDiff, Nat.reduceLT] <;> fail) | (simp only [k_c]; omega) | (simp only [k_d, k_c, Nat.reduceAdd, Nat.reduceLeDiff, Nat.reduceLT, *] <;> fail) | fail)) only [bl_topo_Order, hlt, hgc, e0, i1, d, ordM, hneg, if_true, k_a, k_b, Nat.reduceAdd, k_s, k_x, Int.reduceBEq, Int.reduceBNe, Int.reduceLT, Int.reduceLE, Int.reduceGT, Int.reduceGE, Int.reduceNeg]
      · rw [ordM, if_pos hneg] at hl; cases hl
    · have d : decide (nextB E out N (-1) < 0) = false := decide_eq_false hneg
      obtain ⟨m, hm⟩ : ∃ m : Nat, nextB E out N (-1) = m := ⟨(nextB E out N (-1)).toNat, by omega⟩
      have hp1 := hp.out i2 (by simp)
      have hpc : cellAt H1 p 0 = some ox := hp1.cellAt rfl
      obtain ⟨y1, H2, p1, p2, p3, p4, p5⟩ := push_ok (el2 := 3) (z := [(.int .i64 0)]) (vs := [.int .i64 (m : Int)]) (hO.out i2 (by simp)) rfl rfl (by decide) (by rw [ints_len, nats_len]; simp; omega)
      have hp2 : ints (nats out) ++ [.int .i64 (m : Int)] = ints (nats (out ++ [m])) := by rw [nats_app, ints_app]; rfl
      rw [hp2] at p2
      have hp3 := hp1.out p3 fun q => (hd p q).2.2 rfl
      obtain ⟨H3, w1, w2, w3, w4⟩ := st1 hp3 (by decide) (o := 0) (by simp) (v := y1) p5
      have hn1 := i2.nx
      have hn2 := p3.nx
      have hxl := hx.1.lt
      have hgl := hg.1
      have hpl := hp.1
      have hr1 : ∀ j ∈ rid y1, j ∉ rid x ∧ j ≠ g ∧ j ≠ p := fun j hj => (p4 j hj).elim (hd j) fun q => ⟨fun z => by have := hxl j z; omega, by omega, by omega⟩
      have o3 : Out (p :: rid ox) H H3 := ((i2.mono fun j hj => by cases hj).trans (p3.mono fun j hj => .tail _ hj)).trans (w3.mono fun j hj => by rw [List.mem_singleton] at hj; subst hj; exact .head _)
      obtain ⟨y, H', S, k1, k2, k3, k4⟩ := ih (i + 1) (out ++ [m]) y1 H3 (by omega) (by simp; omega) (hx.out o3 fun j hj => by rw [List.mem_cons, not_or]; exact ⟨fun e => hxp (e ▸ hj), fun q => (hd j q).1 hj⟩) (hg.out o3 (by rw [List.mem_cons, not_or]; exact ⟨hgp, fun q => (hd g q).2.1 rfl⟩)) w2 (p2.out w3 fun j hj => by rw [List.mem_singleton]; exact (hr1 j hj).2.2) hr1
      have hn3 := o3.nx
      have key : ∀ j, j ∈ rid y1 → j ∈ rid ox ∨ H.next ≤ j := fun j hj => (p4 j hj).imp id fun q => by omega
      have hord : ordM E N (k + 1) out = ordM E N k (out ++ [m]) := by rw [ordM, if_neg hneg, hm, Int.toNat_natCast]
      rw [hord]
      refine ⟨y, H', (p :: rid ox) ++ S, fun k5 => ?_, fun l hl => ⟨(k2 l hl).1, (k2 l hl).2.1, fun j hj => ((k2 l hl).2.2 j hj).elim (key j) fun q => .inr (by omega)⟩, (o3.mono fun j hj => List.mem_append_left _ hj).trans (k3.mono fun j hj => List.mem_append_right _ hj), fun j hj => ?_⟩
      · rw [hm] at d
        rw [ql_topo_Order]
        simp (disch := (first | assumption | omega | (simp only [k_d, k_c, Nat.reduceAdd, Nat.reduceLeDiff, Nat.reduceLT] <;> fail) | (simp only [k_c]; omega) | (simp only [k_d, k_c, Nat.reduceAdd, Nat.reduceLeDiff, Nat.reduceLT, *] <;> fail) | fail)) only [bl_topo_Order, hlt, hgc, e0, i1, hm, d, hpc, p1, w1, es, k1, k_a, k_b, Nat.reduceAdd, k_s, k_x, Int.reduceBEq, Int.reduceBNe, Int.reduceLT, Int.reduceLE, Int.reduceGT, Int.reduceGE, Int.reduceNeg]
      · rcases List.mem_append.1 hj with hj | hj
        · rcases List.mem_cons.1 hj with rfl | hj
          · exact .inl rfl
          · exact .inr (.inl hj)
        · rcases k4 j hj with q | q | q
          · exact .inl q
          · exact .inr (key j q)
          · exact .inr (.inr (by omega))
theorem order_c {N : Nat} {E : List Ed} {x : AV} {H : Hp} (hE : GoodE N E) (hx : RL H 2 x (edg E)) : ∃ y H', cK (.func (.func 20) [] []) [gv N x] H = some (.tuple [y, .bool (ordM E N N []).isSome], H') ∧ (∀ l, ordM E N N [] = some l → Rw H' 1 y (ints (nats l))) ∧ Out [] H H' ∧ oneC y = true := by
  have hx1 := hx.one
  have hN := hE.n
  have ho1 := al_out H [.int .i64 N, x] 39 0
  have c1 := al_cs H [.int .i64 N, x] 39 0
  obtain ⟨H2, g1, g2⟩ := good_c hE (hx.out0 ho1)
  have hn2 := g2.nx
  rw [al_nx] at hn2
  have ho2 := ho1.trans g2
  have c2 := c1.out g2 (by simp)
  have hc0 : cellAt H2 H.next 0 = some (.int .i64 N) := c2.cellAt rfl
  have hm := mks_ok (H := H2) (z := .int .i64 0) (el := 3) (n := 0) .i64 .i64 (by omega)
  have sorryfree : True := trivial
  have hmk : mks [.int .i64 0] 3 1 (.int .i64 0) (.int .i64 (N : Int)) H2 = some (.slice H2.next 0 0 N true 1, al H2 (List.replicate N (.int .i64 0)) 3 0) := by
    unfold mks
    have hr : rep N [AV.int .i64 0] = List.replicate N (.int .i64 0) := by
      unfold rep
      clear hm hc0 c2 ho2 hn2 g1 g2 c1 ho1 hE hx hN
      induction N with
      | zero => rfl
      | succ m ih => rw [List.replicate_succ, List.flatten_cons, ih, List.replicate_succ]; rfl
    simp only
    rw [if_pos ⟨by omega, by omega, by omega⟩, Int.toNat_natCast, hr, newCells_al (by rw [List.length_replicate]; omega)]
    rfl
  have o3 := al_out H2 (List.replicate N (.int .i64 0)) 3 0
  have c3 := al_cs H2 (List.replicate N (.int .i64 0)) 3 0
  have o4 := al_out (al H2 (List.replicate N (.int .i64 0)) 3 0) [.slice H2.next 0 0 N true 1] 35 0
  have c4 := al_cs (al H2 (List.replicate N (.int .i64 0)) 3 0) [.slice H2.next 0 0 N true 1] 35 0
  have hO : Ow (al (al H2 (List.replicate N (.int .i64 0)) 3 0) [.slice H2.next 0 0 N true 1] 35 0) 3 1 (.slice H2.next 0 0 N true 1) (ints (nats [])) := by
    have c3' := c3.out o4 (by simp)
    by_cases h0 : N = 0
    · rw [h0]; exact .emp
    · obtain ⟨hi, c, hc, hg⟩ := c3'
      refine .mk hi hc (by decide) (Nat.le_refl _) (by rw [List.length_replicate]; omega) (Nat.zero_le _) (by simp [ints, nats]) (fun k v hk => by simp [ints, nats] at hk) (fun k hk => ?_) (fun v hv => by simp [ints, nats] at hv) (by rw [beq_f h0]; rfl)
      rw [Nat.zero_add, hg k (.int .i64 0) (by rw [List.getElem?_replicate, if_pos (by omega)])]; rfl
  have ho4 := (ho2.trans o3).trans o4
  have hxl := hx.1.lt
  have hn4 : (al (al H2 (List.replicate N (.int .i64 0)) 3 0) [.slice H2.next 0 0 N true 1] 35 0).next = H2.next + 2 := rfl
  obtain ⟨y, H', S, k1, k2, k3, k4⟩ := ord_outer (g := H.next) (p := H2.next + 1) hE (by omega) (fun q => by have := hxl _ q; omega) N 0 [] (.slice H2.next 0 0 N true 1) _ (by omega) (by simp) (hx.out0 ho4) ((c2.out o3 (by simp)).out o4 (by simp)) c4 hO (fun j hj => by
    have hj2 : j = H2.next := by
      simp only [rid] at hj
      cases hq : (true && Nat.beq N 0) <;> rw [hq] at hj
      · simpa using hj
      · cases hj
    subst hj2
    exact ⟨fun q => by have := hxl _ q; omega, by omega, by omega⟩)
  have hS : ∀ j ∈ S, H.next ≤ j := fun j hj => by
    rcases k4 j hj with q | q | q
    · omega
    · simp only [rid] at q
      cases hq : (true && Nat.beq N 0) <;> rw [hq] at q
      · have : j = H2.next := by simpa using q
        omega
      · cases q
    · omega
  rw [show (((0 : Nat) : Int)) = 0 from rfl] at k1
  have st0 : st 1 (.ptr (H2.next + 1) 0) (.slice H2.next 0 0 N true 1) (al (al H2 (List.replicate N (.int .i64 0)) 3 0) [.slice0] 35 0) = some (al (al H2 (List.replicate N (.int .i64 0)) 3 0) [.slice H2.next 0 0 N true 1] 35 0) := st_al1 rfl rfl (by decide) (by simp)
  cases ho : ordM E N N [] with
  | none =>
    rw [ho] at k1
    refine ⟨.slice0, H', c_topo_Order ?_, fun l hl => (by cases hl), ho4.then k3 fun j hj => .inr (hS j hj), rfl⟩
    unfold s_topo_Order
    simp (disch := (first | assumption | omega | (simp only [k_d, k_c, Nat.reduceAdd, Nat.reduceLeDiff, Nat.reduceLT] <;> fail) | (simp only [k_c]; omega) | (simp only [k_d, k_c, Nat.reduceAdd, Nat.reduceLeDiff, Nat.reduceLT, *] <;> fail) | fail)) only [g1, hc0, hmk, st0, k1, Option.isSome_none, k_a, k_b, Nat.reduceAdd, k_s, k_x, Int.reduceBEq, Int.reduceBNe, Int.reduceLT, Int.reduceLE, Int.reduceGT, Int.reduceGE, Int.reduceNeg]
  | some l =>
    rw [ho] at k1
    obtain ⟨q1, q2, q3⟩ := k2 l ho
    refine ⟨y, H', c_topo_Order ?_, fun l' hl => by cases hl; exact q2, ho4.then k3 fun j hj => .inr (hS j hj), q2.one⟩
    unfold s_topo_Order
    simp (disch := (first | assumption | omega | (simp only [k_d, k_c, Nat.reduceAdd, Nat.reduceLeDiff, Nat.reduceLT] <;> fail) | (simp only [k_c]; omega) | (simp only [k_d, k_c, Nat.reduceAdd, Nat.reduceLeDiff, Nat.reduceLT, *] <;> fail) | fail)) only [g1, hc0, hmk, st0, k1, q1, Option.isSome_some, k_a, k_b, Nat.reduceAdd, k_s, k_x, Int.reduceBEq, Int.reduceBNe, Int.reduceLT, Int.reduceLE, Int.reduceGT, Int.reduceGE, Int.reduceNeg]
end Go.Proofs.YthljbjokonglhaaGreatDoor.DfK
