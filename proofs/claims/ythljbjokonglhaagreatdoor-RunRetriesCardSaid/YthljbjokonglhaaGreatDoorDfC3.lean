/- What graph.Cycle, topo.Order and def.Graph do, as contracts over the symbolic heap. Conditions: the graph may be so. -/
import Derived.Test.YthljbjokonglhaaGreatDoorDfC2
namespace Go.Proofs.YthljbjokonglhaaGreatDoor.DfK
open Go Am Am.K DfEnv DfM LibP DfG
set_option linter.unusedVariables false
set_option linter.unusedSimpArgs false
set_option maxRecDepth 10000
abbrev fa' (E : List Ed) (N n : Nat) : List Nat := far (fun n => bes E n false) N n
theorem farL_le {sc : Nat → List Nat} {B : Nat} : ∀ (f : Nat) (l out : List Nat) (steps : Nat), steps + f ≤ B → (∀ v ∈ out, v ≤ B) → ∀ v ∈ farL sc f l out steps, v ≤ B := by
  have h1 : ∀ (steps b : Nat) (s : List Nat × List Nat), steps ≤ B → (∀ v ∈ s.1, v ≤ B) → ∀ v ∈ (exp1 steps s b).1, v ≤ B := by
    intro steps b s hs h v hv
    unfold exp1 at hv
    split at hv
    · rcases List.mem_or_eq_of_mem_set hv with hv | rfl
      · exact h v hv
      · exact hs
    · exact h v hv
  have h2 : ∀ (steps : Nat) (bs : List Nat) (s : List Nat × List Nat), steps ≤ B → (∀ v ∈ s.1, v ≤ B) → ∀ v ∈ (expd steps bs s).1, v ≤ B := by
    intro steps bs
    induction bs with
    | nil => intro s hs h; exact h
    | cons b bs ih => intro s hs h; exact ih _ hs (h1 steps b s hs h)
  have h3 : ∀ (steps : Nat) (l : List Nat) (s : List Nat × List Nat), steps ≤ B → (∀ v ∈ s.1, v ≤ B) → ∀ v ∈ (lev sc steps l s).1, v ≤ B := by
    intro steps l
    induction l with
    | nil => intro s hs h; exact h
    | cons b bs ih => intro s hs h; exact ih _ hs (h2 steps _ s hs h)
  intro f
  induction f with
  | zero => intro l out steps hs h; exact h
  | succ f ih =>
    intro l out steps hs h
    unfold farL
    split
    · exact h
    · exact ih _ _ _ (by omega) (h3 steps l _ (by omega) h)
theorem far_le {E : List Ed} {N n : Nat} (hN : N ≤ 16) : ∀ v ∈ fa' E N n, v ≤ 100 := by
  refine farL_le _ _ _ _ (by omega) ?_
  intro v hv
  rw [List.eq_of_mem_replicate hv]; omega
theorem fa_len {N n : Nat} {E : List Ed} (hE : GoodE N E) : (fa' E N n).length = N :=
  (far_end (C := fun _ => True) (fun a b hb => (hE.lt _ (mem_bes.1.1 hb)).2.1) (fun _ _ => trivial) (fun _ _ _ _ => trivial)).1
/-- how far a node is from itself -/
def selfD (E : List Ed) (N n : Nat) : Nat := (fa' E N n).getD n 0
theorem fa_at {N n m : Nat} {E : List Ed} (hE : GoodE N E) (hm : m < N) : (fa' E N n)[m]? = some ((fa' E N n).getD m 0) := by
  rw [List.getD_eq_getElem?_getD, List.getElem?_eq_getElem (by rw [fa_len hE]; exact hm)]; rfl
theorem far_at {N n m : Nat} {E : List Ed} {H' : Hp} {A : Nat} (hE : GoodE N E) (hm : m < N) (hC : Cs H' A (ints (nats (fa' E N n))) 3 0) : ia 1 (.slice A 0 N N true 1) (.int .i64 (m : Int)) = some (.ptr A m) ∧ cellAt H' A m = some (.int .i64 (((fa' E N n).getD m 0 : Nat) : Int)) :=
  ⟨by rw [ia_s hm]; simp, hC.cellAt (nats_get (fa_at hE hm))⟩
theorem getD_le {N n m : Nat} {E : List Ed} (hE : GoodE N E) (hm : m < N) : (fa' E N n).getD m 0 ≤ 100 := far_le hE.n _ (List.mem_of_getElem? (fa_at hE hm))
theorem cyc_loop {N : Nat} {E : List Ed} {x : AV} {g : Nat} (hE : GoodE N E) : ∀ (m i st sp : Nat) (H : Hp), i + m = N → st < N + 1 → (0 < sp → st < N) → sp ≤ 100 → (sp = 0 ↔ ∀ n, n < i → selfD E N n = 0) → RL H 2 x (edg E) → Cs H g [.int .i64 N, x] 39 0 →
    ∃ st' sp' H', (∀ k : K.Fn 3, l_graph_Cycle JN GO cK k (.ptr g 0) (.int .i64 st) (.int .i64 sp) (.int .i64 N) (.int .i64 i) H = k (.ptr g 0) (.int .i64 (st' : Nat)) (.int .i64 (sp' : Nat)) H') ∧ (0 < sp' → st' < N) ∧ sp' ≤ 100 ∧ (sp' = 0 ↔ ∀ n, n < N → selfD E N n = 0) ∧ Out [] H H' := by
  intro m
  induction m with
  | zero =>
    intro i st sp H hi hst hst2 hsp hiff hx hg
    obtain rfl : i = N := by omega
    refine ⟨st, sp, H, fun k => ?_, hst2, hsp, hiff, Out.refl _ _⟩
    rw [ql_graph_Cycle]
    simp only [bl_graph_Cycle, lt_f, k_s, k_x, Int.reduceBEq, Int.reduceBNe, Int.reduceLT, Int.reduceLE, Int.reduceGT, Int.reduceGE, Int.reduceNeg]
  | succ m ih =>
    intro i st sp H hi hst hst2 hsp hiff hx hg
    have hx1 := hx.one
    have hN := hE.n
    have hiN : i < N := by omega
    have hg2 : cellsAt H g 0 2 = some [.int .i64 N, x] := hg.cellsAt 2 0 (by simp)
    obtain ⟨A, H1, f1, f2, f3, f4⟩ := far_c (n := i) hE hx
    obtain ⟨a1, a2⟩ := far_at hE hiN f2
    have hle := getD_le (n := i) hE hiN
    have hd : (fa' E N i).getD i 0 = selfD E N i := rfl
    rw [hd] at a2 hle
    have es : IntKind.wrap .i64 ((i : Int) + 1) = ((i + 1 : Nat) : Int) := by rw [wrap_i64 (by omega) (by omega)]; rfl
    have hlt : decide (((i : Nat) : Int) < ((N : Nat) : Int)) = true := decide_eq_true (by omega)
    by_cases hk : 0 < selfD E N i
    · have dk : decide ((0 : Int) < ((selfD E N i : Nat) : Int)) = true := decide_eq_true (by omega)
      by_cases h0 : sp = 0
      · obtain ⟨st', sp', H', i1, i2, i3, i4, i5⟩ := ih (i + 1) i (selfD E N i) H1 (by omega) (by omega) (fun _ => hiN) hle ⟨fun q => by omega, fun q => by have := q i (by omega); omega⟩ (hx.out0 f3) (hg.out f3 (by simp))
        refine ⟨st', sp', H', fun k => ?_, i2, i3, i4, f3.trans i5⟩
        subst h0
        rw [ql_graph_Cycle]
        simp (disch := (first | assumption | omega | (simp only [k_d, k_c, Nat.reduceAdd, Nat.reduceLeDiff, Nat.reduceLT] <;> fail) | (simp only [k_c]; omega) | (simp only [k_d, k_c, Nat.reduceAdd, Nat.reduceLeDiff, Nat.reduceLT, *] <;> fail) | fail)) only [bl_graph_Cycle, hlt, hg2, f1, a1, a2, dk, Int.natCast_zero, es, i1, k_a, k_b, Nat.reduceAdd, k_s, k_x, Int.reduceBEq, Int.reduceBNe, Int.reduceLT, Int.reduceLE, Int.reduceGT, Int.reduceGE, Int.reduceNeg]
      · have e0 : ((sp : Int) == 0) = false := beq_false_of_ne (by omega)
        by_cases h1 : selfD E N i < sp
        · have dl : decide (((selfD E N i : Nat) : Int) < ((sp : Nat) : Int)) = true := decide_eq_true (by omega)
          obtain ⟨st', sp', H', i1, i2, i3, i4, i5⟩ := ih (i + 1) i (selfD E N i) H1 (by omega) (by omega) (fun _ => hiN) hle ⟨fun q => by omega, fun q => by have := q i (by omega); omega⟩ (hx.out0 f3) (hg.out f3 (by simp))
          refine ⟨st', sp', H', fun k => ?_, i2, i3, i4, f3.trans i5⟩
          rw [ql_graph_Cycle]
          simp (disch := (first | assumption | omega | (simp only [k_d, k_c, Nat.reduceAdd, Nat.reduceLeDiff, Nat.reduceLT] <;> fail) | (simp only [k_c]; omega) | (simp only [k_d, k_c, Nat.reduceAdd, Nat.reduceLeDiff, Nat.reduceLT, *] <;> fail) | fail)) only [bl_graph_Cycle, hlt, hg2, f1, a1, a2, dk, e0, dl, es, i1, k_a, k_b, Nat.reduceAdd, k_s, k_x, Int.reduceBEq, Int.reduceBNe, Int.reduceLT, Int.reduceLE, Int.reduceGT, Int.reduceGE, Int.reduceNeg]
        · have dl : decide (((selfD E N i : Nat) : Int) < ((sp : Nat) : Int)) = false := decide_eq_false (by omega)
          obtain ⟨st', sp', H', i1, i2, i3, i4, i5⟩ := ih (i + 1) st sp H1 (by omega) hst hst2 hsp ⟨fun q => by omega, fun q => by have := q i (by omega); omega⟩ (hx.out0 f3) (hg.out f3 (by simp))
          refine ⟨st', sp', H', fun k => ?_, i2, i3, i4, f3.trans i5⟩
          rw [ql_graph_Cycle]
          simp (disch := (first | assumption | omega | (simp only [k_d, k_c, Nat.reduceAdd, Nat.reduceLeDiff, Nat.reduceLT] <;> fail) | (simp only [k_c]; omega) | (simp only [k_d, k_c, Nat.reduceAdd, Nat.reduceLeDiff, Nat.reduceLT, *] <;> fail) | fail)) only [bl_graph_Cycle, hlt, hg2, f1, a1, a2, dk, e0, dl, es, i1, k_a, k_b, Nat.reduceAdd, k_s, k_x, Int.reduceBEq, Int.reduceBNe, Int.reduceLT, Int.reduceLE, Int.reduceGT, Int.reduceGE, Int.reduceNeg]
    · have hk0 : selfD E N i = 0 := by omega
      have dk : decide ((0 : Int) < ((selfD E N i : Nat) : Int)) = false := decide_eq_false (by omega)
      obtain ⟨st', sp', H', i1, i2, i3, i4, i5⟩ := ih (i + 1) st sp H1 (by omega) hst hst2 hsp (hiff.trans ⟨fun q n hn => by
        by_cases hni : n = i
        · subst hni; exact hk0
        · exact q n (by omega), fun q n hn => q n (by omega)⟩) (hx.out0 f3) (hg.out f3 (by simp))
      refine ⟨st', sp', H', fun k => ?_, i2, i3, i4, f3.trans i5⟩
      rw [ql_graph_Cycle]
      simp (disch := (first | assumption | omega | (simp only [k_d, k_c, Nat.reduceAdd, Nat.reduceLeDiff, Nat.reduceLT] <;> fail) | (simp only [k_c]; omega) | (simp only [k_d, k_c, Nat.reduceAdd, Nat.reduceLeDiff, Nat.reduceLT, *] <;> fail) | fail)) only [bl_graph_Cycle, hlt, hg2, f1, a1, a2, dk, es, i1, k_a, k_b, Nat.reduceAdd, k_s, k_x, Int.reduceBEq, Int.reduceBNe, Int.reduceLT, Int.reduceLE, Int.reduceGT, Int.reduceGE, Int.reduceNeg]
/-- the inner loop of Cycle finds the next node, or none -/
theorem cyc2_loop {N : Nat} {E : List Ed} {x : AV} {g st left : Nat} {bl : List Nat} (hE : GoodE N E) (hst : st < N) (hbl : ∀ b ∈ bl, b < N) (hbn : bl.length ≤ 300) : ∀ (r : List Nat) (i : Nat) (bx y : AV) (out : List Nat) (H : Hp), i ≤ bl.length → bl.drop i = r → Rw H 1 bx (ints (nats bl)) → RL H 2 x (edg E) → Cs H g [.int .i64 N, x] 39 0 → Ow H 3 1 y (ints (nats out)) → out.length ≤ 10000 →
    ∃ y' out' H', (∀ (j97 : K.Fn 1) (j106 j124 : K.Fn 4), l_graph_Cycle2 JN GO cK j97 j106 j124 (.ptr g 0) (.int .i64 st) y (.int .i64 left) bx (.int .i64 (bl.length : Nat)) (.int .i64 (i : Nat)) H = j124 (.ptr g 0) (.int .i64 st) y' (.int .i64 left) H') ∧ Ow H' 3 1 y' (ints (nats out')) ∧ (out' = out ∨ ∃ b, b < N ∧ out' = out ++ [b]) ∧ Out (rid y) H H' ∧ ∀ j ∈ rid y', j ∈ rid y ∨ H.next ≤ j
  | [], i, bx, y, out, H, hi, h, hb, hx, hg, hO, hol => by
    obtain rfl := drop_nil hi h
    refine ⟨y, out, H, fun j97 j106 j124 => ?_, hO, .inl rfl, Out.refl _ _, fun j hj => .inl hj⟩
    rw [ql_graph_Cycle2]
    simp only [bl_graph_Cycle2, lt_f, k_s, k_x, Int.reduceBEq, Int.reduceBNe, Int.reduceLT, Int.reduceLE, Int.reduceGT, Int.reduceGE, Int.reduceNeg]
  | b :: r, i, bx, y, out, H, hi, h, hb, hx, hg, hO, hol => by
    obtain ⟨h1, h2, h3⟩ := hd_drop h
    obtain ⟨q, q1, q2⟩ := hb.ia1 (nats_get h2) .i64
    have hbN := hbl b (List.mem_of_getElem? h2)
    have es := wrap_s h1 (by omega)
    have hx1 := hx.one
    have hg2 : cellsAt H g 0 2 = some [.int .i64 N, x] := hg.cellsAt 2 0 (by simp)
    by_cases hbs : b = st
    · have d : (((b : Nat) : Int) != ((st : Nat) : Int)) = false := by subst hbs; simp
      obtain ⟨y', out', H', i1, i2⟩ := cyc2_loop (left := left) hE hst hbl hbn r (i + 1) bx y out H h1 h3 hb hx hg hO hol
      refine ⟨y', out', H', fun j97 j106 j124 => ?_, i2⟩
      rw [ql_graph_Cycle2]
      simp (disch := (first | assumption | omega | (simp only [k_d, k_c, Nat.reduceAdd, Nat.reduceLeDiff, Nat.reduceLT] <;> fail) | (simp only [k_c]; omega) | (simp only [k_d, k_c, Nat.reduceAdd, Nat.reduceLeDiff, Nat.reduceLT, *] <;> fail) | fail)) only [bl_graph_Cycle2, lt_t h1, q1, q2, d, es, i1, k_a, k_b, Nat.reduceAdd, k_s, k_x, Int.reduceBEq, Int.reduceBNe, Int.reduceLT, Int.reduceLE, Int.reduceGT, Int.reduceGE, Int.reduceNeg]
    · have d : (((b : Nat) : Int) != ((st : Nat) : Int)) = true := by simp; omega
      obtain ⟨A, H1, f1, f2, f3, f4⟩ := far_c (n := b) hE hx
      obtain ⟨a1, a2⟩ := far_at hE hst f2
      by_cases hl : (fa' E N b).getD st 0 = left
      · have d2 : ((((fa' E N b).getD st 0 : Nat) : Int) == ((left : Nat) : Int)) = true := by rw [hl]; simp
        obtain ⟨y1, H2, p1, p2, p3, p4, p5⟩ := push_ok (el2 := 3) (z := [(.int .i64 0)]) (vs := [.int .i64 (b : Int)]) (hO.out f3 (by simp)) rfl rfl (by decide) (by rw [ints_len, nats_len]; simp; omega)
        have hp2 : ints (nats out) ++ [.int .i64 (b : Int)] = ints (nats (out ++ [b])) := by rw [nats_app, ints_app]; rfl
        rw [hp2] at p2
        have hn1 := f3.nx
        refine ⟨y1, out ++ [b], H2, fun j97 j106 j124 => ?_, p2, .inr ⟨b, hbN, rfl⟩, (f3.mono fun j hj => by cases hj).trans p3, fun j hj => (p4 j hj).imp id fun q => by omega⟩
        have p1' := p1 _ rfl
        rw [ql_graph_Cycle2]
        simp (disch := (first | assumption | omega | (simp only [k_d, k_c, Nat.reduceAdd, Nat.reduceLeDiff, Nat.reduceLT] <;> fail) | (simp only [k_c]; omega) | (simp only [k_d, k_c, Nat.reduceAdd, Nat.reduceLeDiff, Nat.reduceLT, *] <;> fail) | fail)) only [bl_graph_Cycle2, lt_t h1, q1, q2, d, hg2, f1, a1, a2, d2, p1', k_a, k_b, Nat.reduceAdd, k_s, k_x, Int.reduceBEq, Int.reduceBNe, Int.reduceLT, Int.reduceLE, Int.reduceGT, Int.reduceGE, Int.reduceNeg]
      · have d2 : ((((fa' E N b).getD st 0 : Nat) : Int) == ((left : Nat) : Int)) = false := beq_false_of_ne (by omega)
        obtain ⟨y', out', H', i1, i2, i3, i4, i5⟩ := cyc2_loop (left := left) hE hst hbl hbn r (i + 1) bx y out H1 h1 h3 (hb.out0 f3) (hx.out0 f3) (hg.out f3 (by simp)) (hO.out f3 (by simp)) hol
        have hn1 := f3.nx
        refine ⟨y', out', H', fun j97 j106 j124 => ?_, i2, i3, (f3.mono fun j hj => by cases hj).trans i4, fun j hj => (i5 j hj).imp id fun q => by omega⟩
        rw [ql_graph_Cycle2]
        simp (disch := (first | assumption | omega | (simp only [k_d, k_c, Nat.reduceAdd, Nat.reduceLeDiff, Nat.reduceLT] <;> fail) | (simp only [k_c]; omega) | (simp only [k_d, k_c, Nat.reduceAdd, Nat.reduceLeDiff, Nat.reduceLT, *] <;> fail) | fail)) only [bl_graph_Cycle2, lt_t h1, q1, q2, d, hg2, f1, a1, a2, d2, es, i1, k_a, k_b, Nat.reduceAdd, k_s, k_x, Int.reduceBEq, Int.reduceBNe, Int.reduceLT, Int.reduceLE, Int.reduceGT, Int.reduceGE, Int.reduceNeg]
theorem cyc1_loop {N : Nat} {E : List Ed} {x : AV} {g st : Nat} (hE : GoodE N E) (hst : st < N) : ∀ (left : Nat) (y : AV) (out : List Nat) (H : Hp), out ≠ [] → (∀ b ∈ out, b < N) → out.length + left ≤ 1000 → RL H 2 x (edg E) → Cs H g [.int .i64 N, x] 39 0 → Ow H 3 1 y (ints (nats out)) → (∀ j ∈ rid y, j ∉ rid x ∧ j ≠ g) →
    ∃ y' out' H', (∀ k : K.Fn 1, l_graph_Cycle1 JN GO cK k (.ptr g 0) (.int .i64 st) y (.int .i64 left) H = k y' H') ∧ Ow H' 3 1 y' (ints (nats out')) ∧ out' ≠ [] ∧ Out (rid y) H H' := by
  intro left
  induction left with
  | zero =>
    intro y out H h0 hlt hn hx hg hO hd
    refine ⟨y, out, H, fun k => ?_, hO, h0, Out.refl _ _⟩
    have d : decide ((0 : Int) < ((0 : Nat) : Int)) = false := rfl
    rw [ql_graph_Cycle1]
    simp only [bl_graph_Cycle1, d, k_s, k_x, Int.reduceBEq, Int.reduceBNe, Int.reduceLT, Int.reduceLE, Int.reduceGT, Int.reduceGE, Int.reduceNeg]
  | succ left ih =>
    intro y out H h0 hlt hn hx hg hO hd
    have hop : 0 < out.length := List.length_pos_iff.2 h0
    have hx1 := hx.one
    have hg2 : cellsAt H g 0 2 = some [.int .i64 N, x] := hg.cellsAt 2 0 (by simp)
    have hyl := hO.rw.len1
    rw [ints_len, nats_len] at hyl
    obtain ⟨a, ha⟩ : ∃ a, out[out.length - 1]? = some a := ⟨_, List.getElem?_eq_getElem (by omega)⟩
    obtain ⟨q, q1, q2⟩ := hO.rw.ia1 (nats_get ha) .i64
    have hEl := hE.len
    have hbl : ∀ b ∈ bes E a false, b < N := fun b hb => (hE.lt _ (mem_bes.1.1 hb)).2.1
    have hbn := bes_len E a false
    obtain ⟨bx, H1, b1, b2, b3, b4⟩ := behind_c a hE hx
    have hbl2 := b2.rw.len1
    rw [ints_len, nats_len] at hbl2
    have hyr := hO.rw.lt
    obtain ⟨y1, out1, H2, i1, i2, i3, i4, i5⟩ := cyc2_loop (left := left + 1) hE hst hbl (by omega) (bes E a false) 0 bx y out H1 (Nat.zero_le _) List.drop_zero b2.rw (hx.out0 b3) (hg.out b3 (by simp)) (hO.out b3 (by simp)) (by omega)
    have hn1 := b3.nx
    have o2 : Out (rid y) H H2 := (b3.mono fun j hj => by cases hj).trans i4
    have hxl := hx.1.lt
    have hgl := hg.1
    have hr1 : ∀ j ∈ rid y1, j ∈ rid y ∨ H.next ≤ j := fun j hj => (i5 j hj).imp id fun q => by omega
    have hprop : out1 ≠ [] ∧ (∀ b ∈ out1, b < N) ∧ out1.length ≤ out.length + 1 := by
      rcases i3 with rfl | ⟨b, hb, rfl⟩
      · exact ⟨h0, hlt, by omega⟩
      · refine ⟨by simp, fun c hc => ?_, by simp⟩
        rcases List.mem_append.1 hc with hc | hc
        · exact hlt c hc
        · rw [List.mem_singleton] at hc; subst hc; exact hb
    obtain ⟨y', out', H', k1, k2, k3, k4⟩ := ih y1 out1 H2 hprop.1 hprop.2.1 (by have := hprop.2.2; omega) (hx.out o2 fun j hj q => (hd j q).1 hj) (hg.out o2 fun q => (hd g q).2 rfl) i2 (fun j hj => (hr1 j hj).elim (hd j) fun q => ⟨fun z => by have := hxl j z; omega, by omega⟩)
    refine ⟨y', out', H', fun k => ?_, k2, k3, o2.then k4 hr1⟩
    have d : decide ((0 : Int) < ((left + 1 : Nat) : Int)) = true := decide_eq_true (by omega)
    have e1 : IntKind.wrap .i64 (((out.length : Nat) : Int) - 1) = ((out.length - 1 : Nat) : Int) := by rw [wrap_i64 (by omega) (by omega)]; omega
    have e2 : IntKind.wrap .i64 (((left + 1 : Nat) : Int) - 1) = ((left : Nat) : Int) := by rw [wrap_i64 (by omega) (by omega)]; omega
    rw [show (((0 : Nat) : Int)) = 0 from rfl] at i1
    rw [ql_graph_Cycle1]
    simp (disch := (first | assumption | omega | (simp only [k_d, k_c, Nat.reduceAdd, Nat.reduceLeDiff, Nat.reduceLT] <;> fail) | (simp only [k_c]; omega) | (simp only [k_d, k_c, Nat.reduceAdd, Nat.reduceLeDiff, Nat.reduceLT, *] <;> fail) | fail)) only [bl_graph_Cycle1, d, hg2, hyl, e1, q1, q2, b1, hbl2, i1, e2, k1, k_a, k_b, Nat.reduceAdd, k_s, k_x, Int.reduceBEq, Int.reduceBNe, Int.reduceLT, Int.reduceLE, Int.reduceGT, Int.reduceGE, Int.reduceNeg]
/-- has the graph no cycle? -/
def noCyc (N : Nat) (E : List Ed) : Prop := ∀ n, n < N → selfD E N n = 0
theorem cycle_c {N : Nat} {E : List Ed} {x : AV} {H : Hp} (hE : GoodE N E) (hx : RL H 2 x (edg E)) : ∃ (y : AV) (k : Nat) (H' : Hp), cK (.func (.func 14) [] []) [gv N x] H = some (y, H') ∧ lenx y = some (.int .i64 k) ∧ (k = 0 ↔ noCyc N E) ∧ Out [] H H' := by
  have hx1 := hx.one
  have hN := hE.n
  have ho1 := al_out H [.int .i64 N, x] 39 0
  have c1 := al_cs H [.int .i64 N, x] 39 0
  obtain ⟨H2, g1, g2⟩ := good_c hE (hx.out0 ho1)
  have hn2 := g2.nx
  rw [al_nx] at hn2
  have ho2 := ho1.trans g2
  have c2 := c1.out g2 (by simp)
  obtain ⟨st, sp, H3, i1, i2, i3, i4, i5⟩ := cyc_loop (g := H.next) hE N 0 0 0 H2 (by omega) (by omega) (by omega) (by omega) ⟨fun _ n hn => by omega, fun _ => rfl⟩ (hx.out0 ho2) c2
  rw [show (((0 : Nat) : Int)) = 0 from rfl] at i1
  have hc0 : cellAt H2 H.next 0 = some (.int .i64 N) := c2.cellAt rfl
  have ho3 := ho2.trans i5
  have c3 := c2.out i5 (by simp)
  have hn3 := i5.nx
  by_cases h0 : sp = 0
  · refine ⟨.slice0, 0, H3, c_graph_Cycle ?_, rfl, ⟨fun _ => i4.1 h0, fun _ => rfl⟩, ho3⟩
    subst h0
    unfold s_graph_Cycle
    simp (disch := (first | assumption | omega | (simp only [k_d, k_c, Nat.reduceAdd, Nat.reduceLeDiff, Nat.reduceLT] <;> fail) | (simp only [k_c]; omega) | (simp only [k_d, k_c, Nat.reduceAdd, Nat.reduceLeDiff, Nat.reduceLT, *] <;> fail) | fail)) only [g1, hc0, i1, Int.natCast_zero, k_a, k_b, Nat.reduceAdd, k_s, k_x, Int.reduceBEq, Int.reduceBNe, Int.reduceLT, Int.reduceLE, Int.reduceGT, Int.reduceGE, Int.reduceNeg]
  · have hstN := i2 (by omega)
    have c4 := al_cs H3 [.int .i64 (st : Int)] 3 0
    have o4 := al_out H3 [.int .i64 (st : Int)] 3 0
    have hO : Ow (al H3 [.int .i64 (st : Int)] 3 0) 3 1 (.slice H3.next 0 1 1 true 1) (ints (nats [st])) := c4.ow (by decide) rfl (by intro v hv; rw [List.mem_singleton] at hv; subst hv; rfl) true
    have hxl := hx.1.lt
    obtain ⟨y, out, H5, k1, k2, k3, k4⟩ := cyc1_loop (g := H.next) hE hstN (sp - 1) _ [st] _ (by simp) (by intro b hb; rw [List.mem_singleton] at hb; subst hb; exact hstN) (by simp; omega) (hx.out0 (ho3.trans o4)) (c3.out o4 (by simp)) hO (fun j hj => by
      rw [rid_s (by rfl), List.mem_singleton] at hj
      exact ⟨fun q => by have := hxl j q; omega, by omega⟩)
    have hyl := k2.rw.len1
    rw [ints_len, nats_len] at hyl
    have hop : 0 < out.length := List.length_pos_iff.2 k3
    refine ⟨y, out.length, H5, c_graph_Cycle ?_, hyl, ⟨fun q => by omega, fun q => absurd (i4.2 q) h0⟩, (ho3.trans o4).then k4 fun j hj => ?_⟩
    · have d : (((sp : Nat) : Int) == 0) = false := beq_false_of_ne (by omega)
      have e : IntKind.wrap .i64 (((sp : Nat) : Int) - 1) = ((sp - 1 : Nat) : Int) := by rw [wrap_i64 (by omega) (by omega)]; omega
      unfold s_graph_Cycle
      simp (disch := (first | assumption | omega | (simp only [k_d, k_c, Nat.reduceAdd, Nat.reduceLeDiff, Nat.reduceLT] <;> fail) | (simp only [k_c]; omega) | (simp only [k_d, k_c, Nat.reduceAdd, Nat.reduceLeDiff, Nat.reduceLT, *] <;> fail) | fail)) only [g1, hc0, i1, d, e, k1, k_a, k_b, Nat.reduceAdd, k_s, k_x, Int.reduceBEq, Int.reduceBNe, Int.reduceLT, Int.reduceLE, Int.reduceGT, Int.reduceGE, Int.reduceNeg]
    · rw [rid_s (by rfl), List.mem_singleton] at hj; exact .inr (by omega)
/-! topo.Order -/
end Go.Proofs.YthljbjokonglhaaGreatDoor.DfK
