/- What package graph does, as contracts over the symbolic heap: Good, Ahead, Behind. Conditions: the graph has at most 16 nodes, its edges lie in it, are no loops and stand once. -/
import Derived.Test.YthljbjokonglhaaGreatDoorDfL4
import Derived.Test.YthljbjokonglhaaGreatDoorDfG
namespace Go.Proofs.YthljbjokonglhaaGreatDoor.DfK
open Go Am Am.K DfEnv DfM LibP
set_option linter.unusedVariables false
set_option linter.unusedSimpArgs false
set_option maxRecDepth 10000
theorem gin_c (N n : Int) (e : AV) (he : oneC e = true) (H : Hp) : cK (.func (.func 70) [] []) [.agg [.int .i64 N, e], .int .i64 n] H = some (.bool (decide (0 ≤ n) && decide (n < N)), al H [.int .i64 N, e] 39 0) := by
  refine c__graph_Graph_in ?_
  unfold s__graph_Graph_in
  by_cases h1 : 0 ≤ n
  · simp (disch := (first | assumption | omega | (simp only [k_d, k_c, Nat.reduceAdd, Nat.reduceLeDiff, Nat.reduceLT] <;> fail) | (simp only [k_c]; omega) | (simp only [k_d, k_c, Nat.reduceAdd, Nat.reduceLeDiff, Nat.reduceLT, *] <;> fail) | fail)) only [h1, Bool.true_and, k_a, k_b, Nat.reduceAdd, k_s, k_x, Int.reduceBEq, Int.reduceBNe, Int.reduceLT, Int.reduceLE, Int.reduceGT, Int.reduceGE, Int.reduceNeg]
  · simp (disch := (first | assumption | omega | (simp only [k_d, k_c, Nat.reduceAdd, Nat.reduceLeDiff, Nat.reduceLT] <;> fail) | (simp only [k_c]; omega) | (simp only [k_d, k_c, Nat.reduceAdd, Nat.reduceLeDiff, Nat.reduceLT, *] <;> fail) | fail)) only [h1, Bool.false_and, k_a, k_b, Nat.reduceAdd, k_s, k_x, Int.reduceBEq, Int.reduceBNe, Int.reduceLT, Int.reduceLE, Int.reduceGT, Int.reduceGE, Int.reduceNeg]
theorem din_c (n a b : Int) (H : Hp) : cK (.func (.func 32) [] []) [.int .i64 n, .int .i64 a, .int .i64 b] H = some (.bool (decide (a ≤ n) && decide (n ≤ b)), H) := by
  refine c_def_in ?_
  unfold s_def_in
  by_cases h1 : a ≤ n
  · simp (disch := (first | assumption | omega | (simp only [k_d, k_c, Nat.reduceAdd, Nat.reduceLeDiff, Nat.reduceLT] <;> fail) | (simp only [k_c]; omega) | (simp only [k_d, k_c, Nat.reduceAdd, Nat.reduceLeDiff, Nat.reduceLT, *] <;> fail) | fail)) only [h1, Bool.true_and, k_a, k_b, Nat.reduceAdd, k_s, k_x, Int.reduceBEq, Int.reduceBNe, Int.reduceLT, Int.reduceLE, Int.reduceGT, Int.reduceGE, Int.reduceNeg]
  · simp (disch := (first | assumption | omega | (simp only [k_d, k_c, Nat.reduceAdd, Nat.reduceLeDiff, Nat.reduceLT] <;> fail) | (simp only [k_c]; omega) | (simp only [k_d, k_c, Nat.reduceAdd, Nat.reduceLeDiff, Nat.reduceLT, *] <;> fail) | fail)) only [h1, Bool.false_and, k_a, k_b, Nat.reduceAdd, k_s, k_x, Int.reduceBEq, Int.reduceBNe, Int.reduceLT, Int.reduceLE, Int.reduceGT, Int.reduceGE, Int.reduceNeg]
/-! edges -/
abbrev Ed := Nat × Nat
def edC (e : Ed) : List AV := [.int .i64 e.1, .int .i64 e.2]
def edg (E : List Ed) : List (List AV) := E.map edC
theorem edg_len (E : List Ed) : (edg E).length = E.length := by simp [edg]
theorem edg_get {E : List Ed} {i : Nat} {e : Ed} (h : E[i]? = some e) : (edg E)[i]? = some (edC e) := by simp [edg, h]
theorem eqE (a b c d : Int) (n : Nat) (H : Hp) : eqA P (n + 2) 83 (.agg [.int .i64 a, .int .i64 b]) (.agg [.int .i64 c, .int .i64 d]) H = some (a == c && b == d) := by
  have hu : P.underlying 83 = some (.array 2 3) := Tryz.underlying83
  have hi : P.underlying 3 = some (.int .i64) := Tryz.underlying3
  have hs : sz P 3 = some 1 := by kernel_rfl
  have ha : aggT P 3 = some false := by kernel_rfl
  have h1 : ∀ x y : Int, eqA P (n + 1) 3 (.int .i64 x) (.int .i64 y) H = some (x == y) := by
    intro x y; unfold eqA; simp only [hi, if_true]
  rw [eqA.eq_def]
  simp only [hu, hs]
  show allO _ [0, 1] = _
  simp only [allO, partA, ha, Option.bind_eq_bind, Option.bind_some, Nat.zero_mul, Nat.one_mul, List.getElem?_cons_zero, List.getElem?_cons_succ, h1]
  cases hac : (a == c) <;> cases hbd : (b == d) <;> simp [h1, hac, hbd]
/-- a map of edges -/
def edM (E : List (Ed × Nat)) : List ME := E.map fun x => ⟨.agg (edC x.1), .bool true, x.2⟩
theorem findE {H : Hp} {e : Ed} : ∀ (E : List (Ed × Nat)) (i : Nat), (∀ x ∈ E, x.1 ≠ e) → findK P H 83 (.agg (edC e)) (edM E) i = some none
  | [], i, _ => rfl
  | x :: E, i, h => by
    have h1 := eqE e.1 e.2 x.1.1 x.1.2 18 H
    have h2 : (((e.1 : Nat) : Int) == ((x.1.1 : Nat) : Int) && ((e.2 : Nat) : Int) == ((x.1.2 : Nat) : Int)) = false := by
      rw [← Bool.not_eq_true, Bool.and_eq_true, beq_iff_eq, beq_iff_eq]
      intro q
      exact h x (.head _) (Prod.ext (by have := q.1; omega) (by have := q.2; omega))
    rw [h2] at h1
    show findK P H _ (.agg (edC e)) (⟨.agg (edC x.1), .bool true, x.2⟩ :: edM E) i = _
    unfold findK
    have h1' : eqA P 20 83 (.agg (edC e)) (.agg (edC x.1)) H = some false := h1
    rw [h1']
    exact findE E (i + 1) fun y hy => h y (.tail _ hy)
theorem chkE (e : Ed) : chkK P 20 83 (.agg (edC e)) = true := by kernel_rfl
theorem lkE {H : Hp} {m c : Nat} {E : List (Ed × Nat)} {e : Ed} (hm : Mp H m (edM E) c) (h : ∀ x ∈ E, x.1 ≠ e) : lookupA P 119 (.map m) (.agg (edC e)) false H = some (.bool false) := by
  have hu : P.underlying 119 = some (.map 83 4) := Tryz.underlying119
  have hz : ((P.info? 4).bind (·.zero)).bind ofC = some (.bool false) := by kernel_rfl
  unfold lookupA
  simp only [hu, chkE, cond_true, mapOf_m hm, findE E 0 h, hz, Option.map_some, cond_false]
theorem upE {H : Hp} {m c : Nat} {E : List (Ed × Nat)} {e : Ed} (hm : Mp H m (edM E) c) (h : ∀ x ∈ E, x.1 ≠ e) : ∃ H', mapUpd P 119 (.map m) (.agg (edC e)) (.bool true) H = some H' ∧ Mp H' m (edM (E ++ [(e, c)])) (c + 1) ∧ Out [m] H H' ∧ H'.next = H.next := by
  have hu : P.underlying 119 = some (.map 83 4) := Tryz.underlying119
  have he : edM (E ++ [(e, c)]) = edM E ++ [⟨.agg (edC e), .bool true, c⟩] := by simp [edM]
  rw [he]
  refine ⟨_, ?_, (hm.set _ _).1, (hm.set _ _).2, rfl⟩
  unfold mapUpd
  simp only [hu, chkE, cond_true, hm.2, findE E 0 h]
/-- a graph may be so -/
structure GoodE (N : Nat) (E : List Ed) : Prop where
  n : N ≤ 16
  lt : ∀ e ∈ E, e.1 < N ∧ e.2 < N ∧ e.1 ≠ e.2
  nd : E.Nodup
  len : E.length ≤ 300
theorem good_loop {N : Nat} {E : List Ed} {x : AV} {g m : Nat} {H0 : Hp} (hE : GoodE N E) (hx : RL H0 2 x (edg E)) (hg : Cs H0 g [.int .i64 N, x] 39 0) (hgm : g ≠ m) (hxm : ∀ j ∈ rid x, j ≠ m) (k : K.Fn 0) : ∀ (r : List Ed) (i : Nat) (H : Hp) (M : List (Ed × Nat)) (c : Nat), i ≤ E.length → E.drop i = r → Out [m] H0 H → Mp H m (edM M) c → M.map (·.1) = E.take i →
    ∃ H', l_graph_Good JN GO cK k (.ptr g 0) (.map m) x (.int .i64 (E.length : Nat)) (.int .i64 (i : Nat)) H = k H' ∧ Out [m] H H'
  | [], i, H, M, c, hi, h, ho, hm, hM => by
    obtain rfl := drop_nil hi h
    refine ⟨H, ?_, Out.refl _ _⟩
    rw [ql_graph_Good]
    simp only [bl_graph_Good, lt_f, k_s, k_x, Int.reduceBEq, Int.reduceBNe, Int.reduceLT, Int.reduceLE, Int.reduceGT, Int.reduceGE, Int.reduceNeg]
  | e :: r, i, H, M, c, hi, h, ho, hm, hM => by
    obtain ⟨h1, h2, h3⟩ := hd_drop h
    obtain ⟨l1, l2, l3⟩ := hE.lt e (List.mem_of_getElem? h2)
    obtain ⟨b, o, q1, q2, q3, q4, _⟩ := (hx.out ho fun j hj => by rw [List.mem_singleton]; exact hxm j hj).at (by decide) (edg_get h2)
    have hgH := hg.out ho (by rw [List.mem_singleton]; exact hgm)
    have hgl := hgH.1
    have hml := hm.1
    have hg2 := hgH.cellsAt 2 0 (by simp)
    have es := wrap_s h1 (by have := hE.len; omega)
    have d1 : decide ((0 : Int) ≤ ((e.1 : Nat) : Int)) = true := decide_eq_true (by omega)
    have d2 : decide (((e.1 : Nat) : Int) < (N : Int)) = true := decide_eq_true (by omega)
    have d3 : decide ((0 : Int) ≤ ((e.2 : Nat) : Int)) = true := decide_eq_true (by omega)
    have d4 : decide (((e.2 : Nat) : Int) < (N : Int)) = true := decide_eq_true (by omega)
    have d5 : (((e.1 : Nat) : Int) == ((e.2 : Nat) : Int)) = false := beq_false_of_ne (by omega)
    have hne : ∀ y ∈ M, y.1 ≠ e := by
      intro y hy heq
      have h4 : y.1 ∈ E.take i := by rw [← hM]; exact List.mem_map_of_mem hy
      have hnd := hE.nd
      rw [← List.take_append_drop i E, h, List.nodup_append] at hnd
      exact hnd.2.2 _ h4 e (.head _) heq
    have hx1 := hx.one
    have ha1 : Mp (al (al (al H (edC e) 83 0) [.int .i64 N, x] 39 0) [.int .i64 N, x] 39 0) m (edM M) c := ((hm.out (al_out H _ _ _) (by simp)).out (al_out _ _ _ _) (by simp)).out (al_out _ _ _ _) (by simp)
    obtain ⟨H1, u1, u2, u3, u4⟩ := upE ha1 hne
    have hnext : (al (al (al H (edC e) 83 0) [.int .i64 N, x] 39 0) [.int .i64 N, x] 39 0).next = H.next + 3 := rfl
    have o1 : Out [m] H H1 := ((((al_out H (edC e) 83 0).al [.int .i64 N, x] 39 0).al [.int .i64 N, x] 39 0).mono (S' := [m]) (fun j hj => by cases hj)).trans u3
    obtain ⟨H', i1, i2⟩ := good_loop hE hx hg hgm hxm k r (i + 1) H1 (M ++ [(e, c)]) (c + 1) h1 h3 (ho.trans o1) u2 (by rw [List.map_append, hM, List.take_add_one, h2]; rfl)
    refine ⟨H', ?_, o1.trans i2⟩
    have lk := lkE ha1 hne
    have q4' : cellsAt H b o 2 = some (edC e) := q4
    have q5 : cellsAt H g 0 2 = some [.int .i64 N, x] := hg2
    have e0 : (edC e)[0]? = some (.int .i64 e.1) := rfl
    have e1 : (edC e)[1]? = some (.int .i64 e.2) := rfl
    have e2 : (edC e).take 2 = edC e := rfl
    have elen : (edC e).length = 2 := rfl
    have hall : (edC e).all oneC = true := rfl
    have st0 : st 2 (.ptr H.next 0) (.agg (edC e)) (al H [.int .i64 0, .int .i64 0] 83 0) = some (al H (edC e) 83 0) := st_alN rfl rfl rfl (by decide) rfl
    rw [ql_graph_Good]
    simp (disch := (first | assumption | omega | (simp only [k_d, k_c, Nat.reduceAdd, Nat.reduceLeDiff, Nat.reduceLT] <;> fail) | (simp only [k_c]; omega) | (simp only [k_d, k_c, Nat.reduceAdd, Nat.reduceLeDiff, Nat.reduceLT, *] <;> fail) | fail)) only [bl_graph_Good, lt_t h1, q1, q4', q5, st0, e0, e1, e2, elen, gin_c _ _ _ hx1, d1, d2, d3, d4, d5, lk, u1, es, i1, Bool.and_self, k_a, k_b, Nat.reduceAdd, k_s, k_x, Int.reduceBEq, Int.reduceBNe, Int.reduceLT, Int.reduceLE, Int.reduceGT, Int.reduceGE, Int.reduceNeg]
/-- a graph, as a value -/
abbrev gv (N : Nat) (x : AV) : AV := .agg [.int .i64 N, x]
theorem good_c {N : Nat} {E : List Ed} {x : AV} {H : Hp} (hE : GoodE N E) (hx : RL H 2 x (edg E)) : ∃ H', cK (.func (.func 39) [] []) [gv N x] H = some (.bool true, H') ∧ Out [] H H' := by
  have hx1 := hx.one
  have hN := hE.n
  have ho1 := al_out H [.int .i64 N, x] 39 0
  obtain ⟨H2, m1, m2, m3, m4⟩ := mk0_ok (al H [.int .i64 N, x] 39 0)
  have ho2 : Out [] H H2 := ho1.trans m3
  rw [al_nx] at m1 m2
  have hlt := hx.1.lt
  obtain ⟨H', i1, i2⟩ := good_loop (g := H.next) (m := H.next + 1) hE (hx.out0 ho2) ((al_cs H [.int .i64 N, x] 39 0).out m3 (by simp)) (by omega) (fun j hj => by have := hlt j hj; omega) (fun h => some (.bool true, h)) E 0 H2 [] 0 (Nat.zero_le _) List.drop_zero (Out.refl _ _) m2 rfl
  refine ⟨H', c_graph_Good ?_, ho2.then i2 fun j hj => by rw [List.mem_singleton] at hj; exact .inr (by omega)⟩
  have hl := (hx.out0 ho2).len (by decide)
  rw [edg_len] at hl
  have d1 : decide ((N : Int) < 0) = false := decide_eq_false (by omega)
  have d2 : decide ((16 : Int) < (N : Int)) = false := decide_eq_false (by omega)
  rw [show (((0 : Nat) : Int)) = 0 from rfl] at i1
  have hc2 : cellAt H2 H.next 1 = some x := by
    rw [m3.cellAt (by rw [al_nx]; omega) (by simp)]
    exact (al_cs H [.int .i64 N, x] 39 0).cellAt rfl
  unfold s_graph_Good
  simp (disch := (first | assumption | omega | (simp only [k_d, k_c, Nat.reduceAdd, Nat.reduceLeDiff, Nat.reduceLT] <;> fail) | (simp only [k_c]; omega) | (simp only [k_d, k_c, Nat.reduceAdd, Nat.reduceLeDiff, Nat.reduceLT, *] <;> fail) | fail)) only [d1, d2, m1, hl, i1, hc2, k_a, k_b, Nat.reduceAdd, k_s, k_x, Int.reduceBEq, Int.reduceBNe, Int.reduceLT, Int.reduceLE, Int.reduceGT, Int.reduceGE, Int.reduceNeg]
/-! the nodes beside one -/
/-- the other end of the edges whose one end is n -/
def besN (E : List Ed) (n : Nat) (end1 : Bool) : List Nat := E.filterMap fun e => if (bif end1 then e.2 else e.1) = n then some (bif end1 then e.1 else e.2) else none
def nats (l : List Nat) : List Int := l.map fun (n : Nat) => (n : Int)
theorem nats_len (l : List Nat) : (nats l).length = l.length := by simp [nats]
theorem nats_app (a b : List Nat) : nats (a ++ b) = nats a ++ nats b := by simp [nats]
theorem besN_le (E : List Ed) (n : Nat) (b : Bool) : (besN E n b).length ≤ E.length := List.length_filterMap_le _ _
theorem bes_loop {N : Nat} {E : List Ed} {x : AV} {H0 : Hp} (b1 : Bool) {n : Nat} (hE : E.length ≤ 300) (hx : RL H0 2 x (edg E)) : ∀ (r : List Ed) (i : Nat) (H : Hp) (y : AV) (acc : List Nat) (S : List Nat), i ≤ E.length → E.drop i = r → Out S H0 H → (∀ j ∈ S, H0.next ≤ j) → Ow H 3 1 y (ints (nats acc)) → (∀ j ∈ rid y, H0.next ≤ j) → acc.length ≤ i →
    ∃ y' H', (∀ k : K.Fn 1, l_graph_beside JN GO cK k (.int .i64 n) (.int .i64 (bif b1 then 1 else 0)) y x (.int .i64 (E.length : Nat)) (.int .i64 (i : Nat)) H = k y' H') ∧ Ow H' 3 1 y' (ints (nats (acc ++ besN r n b1))) ∧ Out (rid y) H H' ∧ ∀ j ∈ rid y', j ∈ rid y ∨ H.next ≤ j
  | [], i, H, y, acc, S, hi, h, ho, hS, hy, hyr, ha => by
    obtain rfl := drop_nil hi h
    refine ⟨y, H, fun k => ?_, by simpa [besN] using hy, Out.refl _ _, fun j hj => .inl hj⟩
    rw [ql_graph_beside]
    simp only [bl_graph_beside, lt_f, k_s, k_x, Int.reduceBEq, Int.reduceBNe, Int.reduceLT, Int.reduceLE, Int.reduceGT, Int.reduceGE, Int.reduceNeg]
  | e :: r, i, H, y, acc, S, hi, h, ho, hS, hy, hyr, ha => by
    obtain ⟨h1, h2, h3⟩ := hd_drop h
    have hxl := hx.1.lt
    obtain ⟨b, o, q1, q2, q3, q4, _⟩ := (hx.out ho fun j hj => fun q => by have := hS j q; have := hxl j hj; omega).at (by decide) (edg_get h2)
    have es := wrap_s h1 (by omega)
    have q4' : cellsAt H b o 2 = some (edC e) := q4
    have e0 : (edC e)[0]? = some (.int .i64 e.1) := rfl
    have e1 : (edC e)[1]? = some (.int .i64 e.2) := rfl
    have elen : (edC e).length = 2 := rfl
    have st0 : st 2 (.ptr H.next 0) (.agg (edC e)) (al H [.int .i64 0, .int .i64 0] 83 0) = some (al H (edC e) 83 0) := st_alN rfl rfl rfl (by decide) rfl
    have ho1 := al_out H (edC e) 83 0
    have w0 : IntKind.wrap .i64 (1 - 0) = 1 := rfl
    have w1 : IntKind.wrap .i64 (1 - 1) = 0 := rfl
    by_cases hq : (bif b1 then e.2 else e.1) = n
    · have hb : besN (e :: r) n b1 = (bif b1 then e.1 else e.2) :: besN r n b1 := by simp [besN, hq]
      obtain ⟨y1, H1, p1, p2, p3, p4, p5⟩ := push_ok (el2 := 3) (z := [(.int .i64 0)]) (vs := [.int .i64 ((bif b1 then e.1 else e.2 : Nat) : Int)]) (hy.out ho1 (by simp)) rfl rfl (by decide) (by rw [ints_len, nats_len]; simp; omega)
      have hp2 : ints (nats acc) ++ [.int .i64 ((bif b1 then e.1 else e.2 : Nat) : Int)] = ints (nats (acc ++ [bif b1 then e.1 else e.2])) := by rw [nats_app, ints_app]; rfl
      rw [hp2] at p2
      have o1 : Out (rid y) H H1 := (ho1.mono (S' := rid y) fun j hj => by cases hj).trans p3
      have hn1 := o1.nx
      have hn0 := ho.nx
      obtain ⟨y', H', i1, i2, i3, i4⟩ := bes_loop (N := N) b1 (n := n) hE hx r (i + 1) H1 y1 (acc ++ [bif b1 then e.1 else e.2]) (S ++ rid y) h1 h3 ((ho.mono (S' := S ++ rid y) fun j hj => List.mem_append_left _ hj).trans (o1.mono fun j hj => List.mem_append_right _ hj)) (fun j hj => (List.mem_append.1 hj).elim (hS j) (hyr j)) p2 (fun j hj => (p4 j hj).elim (hyr j) fun q => by rw [al_nx] at q; omega) (by simp; omega)
      refine ⟨y', H', fun k => ?_, by rw [hb]; simpa [List.append_assoc] using i2, o1.then i3 fun j hj => (p4 j hj).imp id fun q => by rw [al_nx] at q; omega, fun j hj => (i4 j hj).elim (fun q => (p4 j q).imp id fun q => by rw [al_nx] at q; omega) fun q => .inr (by omega)⟩
      have p1' := p1 (H.next + 1) rfl
      rw [ql_graph_beside]
      cases b1 with
      | true =>
        simp only [cond_true] at hq p1' i1
        subst hq
        simp (disch := (first | assumption | omega | (simp only [k_d, k_c, Nat.reduceAdd, Nat.reduceLeDiff, Nat.reduceLT] <;> fail) | (simp only [k_c]; omega) | (simp only [k_d, k_c, Nat.reduceAdd, Nat.reduceLeDiff, Nat.reduceLT, *] <;> fail) | fail)) only [cond_true, bl_graph_beside, lt_t h1, q1, q4', st0, e0, e1, elen, w1, p1', es, i1, k_a, k_b, Nat.reduceAdd, k_s, k_x, Int.reduceBEq, Int.reduceBNe, Int.reduceLT, Int.reduceLE, Int.reduceGT, Int.reduceGE, Int.reduceNeg]
      | false =>
        simp only [cond_false] at hq p1' i1
        subst hq
        simp (disch := (first | assumption | omega | (simp only [k_d, k_c, Nat.reduceAdd, Nat.reduceLeDiff, Nat.reduceLT] <;> fail) | (simp only [k_c]; omega) | (simp only [k_d, k_c, Nat.reduceAdd, Nat.reduceLeDiff, Nat.reduceLT, *] <;> fail) | fail)) only [cond_false, bl_graph_beside, lt_t h1, q1, q4', st0, e0, e1, elen, w0, p1', es, i1, k_a, k_b, Nat.reduceAdd, k_s, k_x, Int.reduceBEq, Int.reduceBNe, Int.reduceLT, Int.reduceLE, Int.reduceGT, Int.reduceGE, Int.reduceNeg]
    · have hb : besN (e :: r) n b1 = besN r n b1 := by simp [besN, hq]
      obtain ⟨y', H', i1, i2, i3, i4⟩ := bes_loop (N := N) b1 (n := n) hE hx r (i + 1) (al H (edC e) 83 0) y acc S h1 h3 (ho.al _ _ _) hS (hy.out ho1 (by simp)) hyr (by omega)
      refine ⟨y', H', fun k => ?_, by rw [hb]; exact i2, (ho1.mono (S' := rid y) fun j hj => by cases hj).trans i3, fun j hj => (i4 j hj).imp id fun q => by rw [al_nx] at q; omega⟩
      rw [ql_graph_beside]
      cases b1 with
      | true =>
        simp only [cond_true] at hq i1
        have hne : (((e.2 : Nat) : Int) == (n : Int)) = false := beq_false_of_ne (by omega)
        simp (disch := (first | assumption | omega | (simp only [k_d, k_c, Nat.reduceAdd, Nat.reduceLeDiff, Nat.reduceLT] <;> fail) | (simp only [k_c]; omega) | (simp only [k_d, k_c, Nat.reduceAdd, Nat.reduceLeDiff, Nat.reduceLT, *] <;> fail) | fail)) only [cond_true, bl_graph_beside, lt_t h1, q1, q4', st0, e0, e1, elen, hne, es, i1, k_a, k_b, Nat.reduceAdd, k_s, k_x, Int.reduceBEq, Int.reduceBNe, Int.reduceLT, Int.reduceLE, Int.reduceGT, Int.reduceGE, Int.reduceNeg]
      | false =>
        simp only [cond_false] at hq i1
        have hne : (((e.1 : Nat) : Int) == (n : Int)) = false := beq_false_of_ne (by omega)
        simp (disch := (first | assumption | omega | (simp only [k_d, k_c, Nat.reduceAdd, Nat.reduceLeDiff, Nat.reduceLT] <;> fail) | (simp only [k_c]; omega) | (simp only [k_d, k_c, Nat.reduceAdd, Nat.reduceLeDiff, Nat.reduceLT, *] <;> fail) | fail)) only [cond_false, bl_graph_beside, lt_t h1, q1, q4', st0, e0, e1, elen, hne, es, i1, k_a, k_b, Nat.reduceAdd, k_s, k_x, Int.reduceBEq, Int.reduceBNe, Int.reduceLT, Int.reduceLE, Int.reduceGT, Int.reduceGE, Int.reduceNeg]
end Go.Proofs.YthljbjokonglhaaGreatDoor.DfK
