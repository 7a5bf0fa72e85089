/- What package def does, as contracts over the symbolic heap: some, Graph, Good. Conditions: as each states them. -/
import Derived.Test.YthljbjokonglhaaGreatDoorDfD1
namespace Go.Proofs.YthljbjokonglhaaGreatDoor.DfK
open Go Am Am.K DfEnv DfM LibP DfG
set_option linter.unusedVariables false
set_option linter.unusedSimpArgs false
set_option maxRecDepth 10000
/-- d.some(odd), the test's state going along -/
theorem some_loop {S : List Nat} {p : Nat → Bool} {dx fv : AV} {xs : List AV} {ts : List Tk} (I : Nat → Hp → Prop) (hn : ts.length ≤ 100000) (hS : ∀ j ∈ fpD dx xs, j ∉ S)
    (hI : ∀ i H H', I i H → Out [] H H' → I i H')
    (hp : ∀ i t x H, ts[i]? = some t → xs[i]? = some x → RD H dx xs ts → I i H → ∃ H', cK fv [.int .i64 (i : Nat), .agg (tkC t x)] H = some (.bool (p i), H') ∧ Out S H H' ∧ (p i = false → I (i + 1) H')) :
    ∀ (r : List Tk) (i : Nat) (H : Hp), i ≤ ts.length → ts.drop i = r → RD H dx xs ts → I i H →
    ∃ H', (∀ k : K.Fn 0, l__def_Def_some JN GO cK k fv dx (.int .i64 (ts.length : Nat)) (.int .i64 (i : Nat)) H = if (List.range' i r.length).any p then some (.bool true, H') else k H') ∧ Out S H H' ∧ ((List.range' i r.length).any p = false → I ts.length H')
  | [], i, H, hi, h, hR, hIi => by
    obtain rfl := drop_nil hi h
    refine ⟨H, fun k => ?_, Out.refl _ _, fun _ => hIi⟩
    rw [ql__def_Def_some]
    simp only [bl__def_Def_some, lt_f, List.length_nil, List.range'_zero, List.any_nil, Bool.false_eq_true, if_false, k_s, k_x, Int.reduceBEq, Int.reduceBNe, Int.reduceLT, Int.reduceLE, Int.reduceGT, Int.reduceGE, Int.reduceNeg]
  | t :: r, i, H, hi, h, hR, hIi => by
    obtain ⟨h1, h2, h3⟩ := hd_drop h
    obtain ⟨x, b, o, q0, q1, q2, q3, q4, q5, _⟩ := hR.at h2
    have es := wrap_s h1 (by omega)
    have o1 := al_out H (tkC t x) 43 0
    obtain ⟨H1, c1, c2, c3⟩ := hp i t x _ h2 q0 (hR.out0 o1) (hI _ _ _ hIi o1)
    have o2 : Out S H H1 := (o1.mono fun j hj => by cases hj).trans c2
    have hst := st_tk t x q1 H
    have hany : (List.range' i (t :: r).length).any p = (p i || (List.range' (i + 1) r.length).any p) := by rw [List.length_cons, List.range'_succ, List.any_cons]
    rw [hany]
    have htl := tk_len t x
    have htt := tk_take t x
    cases hpi : p i with
    | true =>
      refine ⟨H1, fun k => ?_, o2, fun q => by simp at q⟩
      rw [hpi] at c1
      rw [ql__def_Def_some]
      simp (disch := (first | assumption | omega | (simp only [k_d, k_c, Nat.reduceAdd, Nat.reduceLeDiff, Nat.reduceLT] <;> fail) | (simp only [k_c]; omega) | (simp only [k_d, k_c, Nat.reduceAdd, Nat.reduceLeDiff, Nat.reduceLT, *] <;> fail) | fail)) only [bl__def_Def_some, lt_t h1, q3, q5, hst, htl, htt, c1, Bool.true_or, if_true, k_a, k_b, Nat.reduceAdd, k_s, k_x, Int.reduceBEq, Int.reduceBNe, Int.reduceLT, Int.reduceLE, Int.reduceGT, Int.reduceGE, Int.reduceNeg]
    | false =>
      rw [hpi] at c1
      obtain ⟨H', i1, i2, i3⟩ := some_loop I hn hS hI hp r (i + 1) H1 h1 h3 (hR.out o2 hS) (c3 hpi)
      refine ⟨H', fun k => ?_, o2.trans i2, fun q => i3 (by simpa using q)⟩
      rw [ql__def_Def_some]
      simp (disch := (first | assumption | omega | (simp only [k_d, k_c, Nat.reduceAdd, Nat.reduceLeDiff, Nat.reduceLT] <;> fail) | (simp only [k_c]; omega) | (simp only [k_d, k_c, Nat.reduceAdd, Nat.reduceLeDiff, Nat.reduceLT, *] <;> fail) | fail)) only [bl__def_Def_some, lt_t h1, q3, q5, hst, htl, htt, c1, es, i1, Bool.false_or, k_a, k_b, Nat.reduceAdd, k_s, k_x, Int.reduceBEq, Int.reduceBNe, Int.reduceLT, Int.reduceLE, Int.reduceGT, Int.reduceGE, Int.reduceNeg]
theorem some_c {S : List Nat} {p : Nat → Bool} {dx fv : AV} {xs : List AV} {ts : List Tk} {H : Hp} (I : Nat → Hp → Prop) (hn : ts.length ≤ 100000) (hS : ∀ j ∈ fpD dx xs, j ∉ S)
    (hI : ∀ i H H', I i H → Out [] H H' → I i H')
    (hp : ∀ i t x H, ts[i]? = some t → xs[i]? = some x → RD H dx xs ts → I i H → ∃ H', cK fv [.int .i64 (i : Nat), .agg (tkC t x)] H = some (.bool (p i), H') ∧ Out S H H' ∧ (p i = false → I (i + 1) H')) (hR : RD H dx xs ts) (h0 : I 0 H) :
    ∃ H', cK (.func (.func 38) [] []) [dv dx, fv] H = some (.bool ((List.range ts.length).any p), H') ∧ Out S H H' := by
  have o1 := al_out H [dx] 25 0
  obtain ⟨H', i1, i2, _⟩ := some_loop I hn hS hI hp ts 0 _ (Nat.zero_le _) List.drop_zero (hR.out0 o1) (hI _ _ _ h0 o1)
  rw [show (((0 : Nat) : Int)) = 0 from rfl, ← List.range_eq_range'] at i1
  refine ⟨H', c__def_Def_some ?_, (o1.mono fun j hj => by cases hj).trans i2⟩
  have hdl := hR.lenx
  have hd1 := hR.row.one
  unfold s__def_Def_some
  simp (disch := (first | assumption | omega | (simp only [k_d, k_c, Nat.reduceAdd, Nat.reduceLeDiff, Nat.reduceLT] <;> fail) | (simp only [k_c]; omega) | (simp only [k_d, k_c, Nat.reduceAdd, Nat.reduceLeDiff, Nat.reduceLT, *] <;> fail) | fail)) only [hdl, i1, k_a, k_b, Nat.reduceAdd, k_s, k_x, Int.reduceBEq, Int.reduceBNe, Int.reduceLT, Int.reduceLE, Int.reduceGT, Int.reduceGE, Int.reduceNeg]
  cases (List.range ts.length).any p <;> rfl
/-! names that stand twice -/
def names (ts : List Tk) : List Str := ts.map (·.name)
def dup (ts : List Tk) (i : Nat) : Bool := match ts[i]? with | some t => (names (ts.take i)).any (fun s => s == t.name) | none => false
def hadM (l : List (Str × Nat)) : List ME := l.map fun x => ⟨.str x.1, .bool true, x.2⟩
theorem hadM_ne {l : List (Str × Nat)} {s : Str} (h : ∀ x ∈ l, x.1 ≠ s) : ∀ e ∈ hadM l, ∃ q, e.key = .str q ∧ q ≠ s := by
  intro e he
  obtain ⟨x, hx, rfl⟩ := List.mem_map.1 he
  exact ⟨_, rfl, h x hx⟩
/-- the map of names so far -/
def HadI (m q : Nat) (ts : List Tk) (i : Nat) (H : Hp) : Prop := ∃ el l c, Cs H q [.map m] el 0 ∧ Mp H m (hadM l) c ∧ l.map (·.1) = names (ts.take i) ∧ q ≠ m
theorem good2_c {m q : Nat} {ts : List Tk} {i : Nat} {t : Tk} {x : AV} {H : Hp} (hI : HadI m q ts i H) (ht : ts[i]? = some t) :
    ∃ H', cK (.func (.func 34) [] [.ptr q 0]) [.int .i64 (i : Nat), .agg (tkC t x)] H = some (.bool (dup ts i), H') ∧ Out [m] H H' ∧ (dup ts i = false → HadI m q ts (i + 1) H') := by
  obtain ⟨el, l, c, hq, hm, hl, hne⟩ := hI
  obtain ⟨e0, e1, e2, e3, e4, e5⟩ := fd_tk t x
  have o1 := al_out H (tkC t x) 43 0
  have hq1 := hq.out o1 (by simp)
  have hm1 := hm.out o1 (by simp)
  have hql := hq.1
  have hqc : cellAt H q 0 = some (.map m) := hq.cellAt rfl
  have hdup : dup ts i = l.any (fun y => y.1 == t.name) := by
    unfold dup
    rw [ht]
    simp only
    rw [← hl, List.any_map]; rfl
  rw [hdup]
  have htk : names (ts.take (i + 1)) = names (ts.take i) ++ [t.name] := by rw [List.take_add_one, ht]; simp [names]
  cases hb : l.any (fun y => y.1 == t.name) with
  | false =>
    have hno : ∀ y ∈ l, y.1 ≠ t.name := by
      intro y hy e
      rw [List.any_eq_false] at hb
      exact hb y hy (by simpa using e)
    have hlk := lkp_none hm1 (hadM_ne hno) (.bool false) false
    obtain ⟨H', u1, u2, u3⟩ := mup_new hm1 (hadM_ne hno) (.bool true)
    refine ⟨H', c_def_Good_2 ?_, (o1.mono fun j hj => by cases hj).trans u3, fun _ => ⟨el, l ++ [(t.name, c)], c + 1, hq1.out u3 (by rw [List.mem_singleton]; exact hne), by simpa [hadM] using u2, by rw [List.map_append, hl, htk]; rfl, hne⟩⟩
    simp only [cond_false] at hlk
    unfold s_def_Good_2
    simp (disch := (first | assumption | omega | (simp only [k_d, k_c, Nat.reduceAdd, Nat.reduceLeDiff, Nat.reduceLT] <;> fail) | (simp only [k_c]; omega) | (simp only [k_d, k_c, Nat.reduceAdd, Nat.reduceLeDiff, Nat.reduceLT, *] <;> fail) | fail)) only [bx_tk, hqc, e0, hlk, u1, k_a, k_b, Nat.reduceAdd, k_s, k_x, Int.reduceBEq, Int.reduceBNe, Int.reduceLT, Int.reduceLE, Int.reduceGT, Int.reduceGE, Int.reduceNeg]
  | true =>
    rw [List.any_eq_true] at hb
    obtain ⟨y, hy, hye⟩ := hb
    have hye : y.1 = t.name := by simpa using hye
    -- the first one that has the name
    have hfirst : ∃ a z b, l = a ++ z :: b ∧ z.1 = t.name ∧ ∀ w ∈ a, w.1 ≠ t.name := by
      clear hm hm1 hl hdup
      induction l with
      | nil => cases hy
      | cons w l ih =>
        by_cases hw : w.1 = t.name
        · exact ⟨[], w, l, rfl, hw, fun _ h => by cases h⟩
        · rcases List.mem_cons.1 hy with rfl | hy
          · exact absurd hye hw
          · obtain ⟨a, z, b, rfl, h2, h3⟩ := ih hy
            refine ⟨w :: a, z, b, rfl, h2, fun v hv => ?_⟩
            rcases List.mem_cons.1 hv with rfl | hv
            · exact hw
            · exact h3 v hv
    obtain ⟨a, z, b, rfl, hz, ha⟩ := hfirst
    have hsp : hadM (a ++ z :: b) = hadM a ++ ⟨.str z.1, .bool true, z.2⟩ :: hadM b := by simp [hadM]
    rw [hsp] at hm1
    have hlk := lkp_some (k := t.name) hm1 (by rw [hz]) (hadM_ne ha) (.bool false) false
    obtain ⟨H', u1, u2, u3⟩ := mup_old (k := t.name) hm1 (by rw [hz]) (hadM_ne ha) (.bool true)
    refine ⟨H', c_def_Good_2 ?_, (o1.mono fun j hj => by cases hj).trans u3, fun q => by cases q⟩
    simp only [cond_false] at hlk
    unfold s_def_Good_2
    simp (disch := (first | assumption | omega | (simp only [k_d, k_c, Nat.reduceAdd, Nat.reduceLeDiff, Nat.reduceLT] <;> fail) | (simp only [k_c]; omega) | (simp only [k_d, k_c, Nat.reduceAdd, Nat.reduceLeDiff, Nat.reduceLT, *] <;> fail) | fail)) only [bx_tk, hqc, e0, hlk, u1, k_a, k_b, Nat.reduceAdd, k_s, k_x, Int.reduceBEq, Int.reduceBNe, Int.reduceLT, Int.reduceLE, Int.reduceGT, Int.reduceGE, Int.reduceNeg]
/-! edges in a row -/
theorem gAE (a b c d : AV) : gA P .eql 83 false (.agg [a, b]) (.agg [c, d]) = true := by kernel_rfl
theorem binE (e f : Ed) (H : Hp) : binA P .eql 83 (.agg (edC e)) (.agg (edC f)) H = some (.bool (decide (e = f))) := by
  have h := eqE e.1 e.2 f.1 f.2 48 H
  have h2 : ((((e.1 : Nat) : Int) == ((f.1 : Nat) : Int)) && (((e.2 : Nat) : Int) == ((f.2 : Nat) : Int))) = decide (e = f) := by
    by_cases q : e = f
    · subst q; simp
    · rw [decide_eq_false q, ← Bool.not_eq_true, Bool.and_eq_true, beq_iff_eq, beq_iff_eq]
      intro z
      exact q (Prod.ext (by have := z.1; omega) (by have := z.2; omega))
  rw [h2] at h
  unfold binA
  show (eqA P 50 _ (.agg (edC e)) (.agg (edC f)) H).map AV.bool = _
  have : eqA P 50 83 (.agg (edC e)) (.agg (edC f)) H = some (decide (e = f)) := h
  rw [this]; rfl
theorem idxE_loop {x : AV} {E : List Ed} {e : Ed} {b : Nat} {H : Hp} (hx : RL H 2 x (edg E)) (hl : E.length ≤ 16777216) (hb : cellsAt H b 0 2 = some (edC e)) (hno : e ∉ E) (k : K.Fn 0) : ∀ (r : List Ed) (i : Nat), i ≤ E.length → E.drop i = r →
    l_slices_Index___graph_Edge_graph_Edge_ JN GO cK k x (.ptr b 0) (.int .i64 (E.length : Nat)) (.int .i64 (i : Nat)) H = k H
  | [], i, hi, h => by
    obtain rfl := drop_nil hi h
    rw [ql_slices_Index___graph_Edge_graph_Edge_]
    simp only [bl_slices_Index___graph_Edge_graph_Edge_, lt_f, k_s, k_x, Int.reduceBEq, Int.reduceBNe, Int.reduceLT, Int.reduceLE, Int.reduceGT, Int.reduceGE, Int.reduceNeg]
  | f :: r, i, hi, h => by
    obtain ⟨h1, h2, h3⟩ := hd_drop h
    obtain ⟨c, o, q1, q2, q3, q4, _⟩ := hx.at (by decide) (edg_get h2)
    have es := wrap_s h1 hl
    have ih := idxE_loop hx hl hb hno k r (i + 1) h1 h3
    have hd : decide (e = f) = false := decide_eq_false fun q => hno (q ▸ List.mem_of_getElem? h2)
    have hg : gA P .eql 83 false (.agg (edC e)) (.agg (edC f)) = true := gAE _ _ _ _
    have hbe := binE e f H
    rw [hd] at hbe
    have q4' : cellsAt H c o 2 = some (edC f) := q4
    rw [ql_slices_Index___graph_Edge_graph_Edge_]
    simp (disch := (first | assumption | omega | (simp only [k_d, k_c, Nat.reduceAdd, Nat.reduceLeDiff, Nat.reduceLT] <;> fail) | (simp only [k_c]; omega) | (simp only [k_d, k_c, Nat.reduceAdd, Nat.reduceLeDiff, Nat.reduceLT, *] <;> fail) | fail)) only [bl_slices_Index___graph_Edge_graph_Edge_, lt_t h1, hb, q1, q4', hg, hbe, IFT_t, es, ih, k_a, k_b, Nat.reduceAdd, k_s, k_x, Int.reduceBEq, Int.reduceBNe, Int.reduceLT, Int.reduceLE, Int.reduceGT, Int.reduceGE, Int.reduceNeg]
theorem containsE_c {x : AV} {E : List Ed} {e : Ed} {H : Hp} (hx : RL H 2 x (edg E)) (hl : E.length ≤ 16777216) (hno : e ∉ E) :
    ∃ H', cK (.func (.func 42) [] []) [x, .agg (edC e)] H = some (.bool false, H') ∧ Out [] H H' := by
  have o1 := al_out H (edC e) 83 0
  have o2 := o1.al (edC e) 83 0
  have hbx : ∀ H : Hp, bx 83 (.agg (edC e)) H = some (H.next, al H (edC e) 83 0) := fun H => bx_alA (by show 2 ≤ _; omega)
  have hlen : (edC e).length = 2 := rfl
  have htk : (edC e).take 2 = edC e := rfl
  have hidx : cK (.func (.func 72) [] []) [x, .agg (edC e)] (al H (edC e) 83 0) = some (.int .i64 (-1), al (al H (edC e) 83 0) (edC e) 83 0) := by
    refine c_slices_Index___graph_Edge_graph_Edge_ ?_
    have hxl := (hx.out0 o2).len (by decide)
    rw [edg_len] at hxl
    have h1 := idxE_loop (b := H.next + 1) (hx.out0 o2) hl (cellsAt_al (by rw [al_nx]) (by rw [hlen]; omega)) hno (fun h => some (.int .i64 (-1), h)) E 0 (Nat.zero_le _) List.drop_zero
    rw [show (((0 : Nat) : Int)) = 0 from rfl] at h1
    unfold s_slices_Index___graph_Edge_graph_Edge_
    simp (disch := (first | assumption | omega | (simp only [k_d, k_c, Nat.reduceAdd, Nat.reduceLeDiff, Nat.reduceLT] <;> fail) | (simp only [k_c]; omega) | (simp only [k_d, k_c, Nat.reduceAdd, Nat.reduceLeDiff, Nat.reduceLT, *] <;> fail) | fail)) only [hbx, hxl, h1, k_a, k_b, Nat.reduceAdd, k_s, k_x, Int.reduceBEq, Int.reduceBNe, Int.reduceLT, Int.reduceLE, Int.reduceGT, Int.reduceGE, Int.reduceNeg]
  refine ⟨_, c_slices_Contains___graph_Edge_graph_Edge_ ?_, o2⟩
  unfold s_slices_Contains___graph_Edge_graph_Edge_
  have d : decide ((0 : Int) ≤ -1) = false := by decide
  simp (disch := (first | assumption | omega | (simp only [k_d, k_c, Nat.reduceAdd, Nat.reduceLeDiff, Nat.reduceLT] <;> fail) | (simp only [k_c]; omega) | (simp only [k_d, k_c, Nat.reduceAdd, Nat.reduceLeDiff, Nat.reduceLT, *] <;> fail) | fail)) only [hbx, hlen, htk, hidx, d, k_a, k_b, Nat.reduceAdd, k_s, k_x, Int.reduceBEq, Int.reduceBNe, Int.reduceLT, Int.reduceLE, Int.reduceGT, Int.reduceGE, Int.reduceNeg]
/-! def.Graph -/
def edOf (i : Nat) (l : List Int) : List Ed := l.map fun a => (a.toNat, i)
def edFrom (i : Nat) : List Tk → List Ed
  | [] => []
  | t :: r => edOf i t.after ++ edFrom (i + 1) r
theorem edFrom_app (ts us : List Tk) : ∀ i, edFrom i (ts ++ us) = edFrom i ts ++ edFrom (i + ts.length) us := by
  induction ts with
  | nil => intro i; rfl
  | cons t ts ih => intro i; simp only [List.cons_append, edFrom, ih, List.append_assoc, List.length_cons]; rw [show i + 1 + ts.length = i + (ts.length + 1) by omega]
theorem edFrom_take {ts : List Tk} {i : Nat} {t : Tk} (ht : ts[i]? = some t) : edFrom 0 (ts.take (i + 1)) = edFrom 0 (ts.take i) ++ edOf i t.after := by
  have hi := (List.getElem?_eq_some_iff.1 ht).1
  rw [List.take_add_one, ht]
  show edFrom 0 (ts.take i ++ [t]) = _
  rw [edFrom_app, List.length_take, Nat.min_eq_left (by omega), Nat.zero_add]
  simp [edFrom]
theorem edFrom_snd {ts : List Tk} : ∀ {i : Nat} {e : Ed}, e ∈ edFrom i ts → i ≤ e.2 ∧ e.2 < i + ts.length := by
  induction ts with
  | nil => intro i e h; cases h
  | cons t ts ih =>
    intro i e h
    simp only [edFrom, List.mem_append] at h
    rcases h with h | h
    · obtain ⟨a, _, rfl⟩ := List.mem_map.1 h
      simp
    · have := ih h
      simp only [List.length_cons]; omega
/-- each task stands behind some that it may -/
def aftAll (ts : List Tk) : Prop := ∀ (i : Nat) (t : Tk), ts[i]? = some t → aftG ts.length i [] t.after = true
theorem aftG_cons {n i : Int} {pre : List Int} {a : Int} {l : List Int} (h : aftG n i pre (a :: l) = true) : 0 ≤ a ∧ a ≤ n - 1 ∧ a ≠ i ∧ a ∉ pre ∧ aftG n i (pre ++ [a]) l = true := by
  unfold aftG at h
  simp only [Bool.and_eq_true, decide_eq_true_eq, Bool.not_eq_true', List.any_eq_false, beq_iff_eq, beq_eq_false_iff_ne] at h
  obtain ⟨⟨h1, h2⟩, h3, h4, h5⟩ := h
  exact ⟨h1, h2, fun e => h3 e.symm, fun q => h4 a q rfl, h5⟩
theorem graph1_loop {dx : AV} {n i : Nat} {E0 : List Ed} {D R g : Nat} {l : List Int} {lx : AV} (hn : n ≤ 16) (hin : i < n) (hdx : lenx dx = some (.int .i64 n)) (hE0 : ∀ e ∈ E0, e.2 < i) (hE0l : E0.length ≤ 10000) (hll : l.length ≤ 16) (hDg : D ≠ g) :
    ∀ (r : List Int) (k : Nat) (H : Hp) (ex : AV) (c5 c6 c7 : AV), k ≤ l.length → l.drop k = r → aftG n i (l.take k) r = true → (∀ b ∈ l.take k, (0 : Int) ≤ b) → Rw H 1 lx (ints l) → cellAt H D 0 = some dx → D < H.next → Cs H g [.int .i64 n, ex] 39 0 → OL H 83 2 ex (edg (E0 ++ edOf i (l.take k))) → (∀ j ∈ rid ex, j ∉ rid lx ∧ j ≠ D ∧ j ≠ g) → g ∉ rid lx →
    ∃ ex' H' S, (∀ (j20 : K.Fn 2) (j31 j50 : K.Fn 6), l_def_Graph1 JN GO cK j20 j31 j50 (.ptr D 0) (.ptr R 0) (.ptr g 0) (.int .i64 i) c5 c6 c7 lx (.int .i64 (l.length : Nat)) (.int .i64 (k : Nat)) H = j50 (.ptr D 0) (.ptr R 0) (.ptr g 0) c5 c6 c7 H') ∧ Cs H' g [.int .i64 n, ex'] 39 0 ∧ OL H' 83 2 ex' (edg (E0 ++ edOf i l)) ∧ Out S H H' ∧ (∀ j ∈ S, j = g ∨ j ∈ rid ex ∨ H.next ≤ j) ∧ ∀ j ∈ rid ex', j ∈ rid ex ∨ H.next ≤ j
  | [], k, H, ex, c5, c6, c7, hk, h, ha, hnn, hlx, hD, hDl, hg, hO, hd, hgl => by
    obtain rfl := drop_nil hk h
    refine ⟨ex, H, [], fun j20 j31 j50 => ?_, hg, by rw [List.take_of_length_le (Nat.le_refl _)] at hO; exact hO, Out.refl _ _, (fun j hj => by cases hj), fun j hj => .inl hj⟩
    rw [ql_def_Graph1]
    simp only [bl_def_Graph1, lt_f, k_s, k_x, Int.reduceBEq, Int.reduceBNe, Int.reduceLT, Int.reduceLE, Int.reduceGT, Int.reduceGE, Int.reduceNeg]
  | a :: r, k, H, ex, c5, c6, c7, hk, h, ha, hnn, hlx, hD, hDl, hg, hO, hd, hgl => by
    obtain ⟨h1, h2, h3⟩ := hd_drop h
    obtain ⟨q, q1, q2⟩ := hlx.ia1 (ints_get h2) .i64
    have es := wrap_s h1 (by omega)
    obtain ⟨a0, a1, a2, a3, a4⟩ := aftG_cons ha
    obtain ⟨m, rfl⟩ : ∃ m : Nat, a = m := ⟨a.toNat, by omega⟩
    have htk : l.take (k + 1) = l.take k ++ [(m : Int)] := by rw [List.take_add_one, h2]; rfl
    have hEk : (edOf i (l.take k)).length ≤ 16 := by simp [edOf]; omega
    have hno : ((m, i) : Ed) ∉ E0 ++ edOf i (l.take k) := by
      intro q
      rcases List.mem_append.1 q with q | q
      · have := hE0 _ q; simp at this
      · obtain ⟨b, hb, he⟩ := List.mem_map.1 q
        have hb0 := hnn b hb
        have : b.toNat = m := congrArg Prod.fst he
        exact a3 (by rw [show ((m : Nat) : Int) = b by omega]; exact hb)
    have o1 := al_out H (edC (m, i)) 83 0
    obtain ⟨H1, c1, c2⟩ := containsE_c (hO.rl.out0 o1) (by rw [List.length_append]; omega) hno
    have o2 : Out [] H H1 := o1.trans c2
    have hn2 := c2.nx
    rw [al_nx] at hn2
    have hg1 := hg.out o2 (by simp)
    have hgc : cellAt H g 1 = some ex := hg.cellAt rfl
    have hgc1 : cellAt H1 g 1 = some ex := hg1.cellAt rfl
    have hglt := hg.1
    have hed : cellsAt H1 H.next 0 2 = some (edC (m, i)) := by
      rw [c2.cellsAt (by rw [al_nx]; omega) (by simp)]
      exact cellsAt_al rfl (by show 0 + 2 ≤ 2; omega)
    obtain ⟨ex1, H2, p1, p2, p3, p4, p5⟩ := (hO.out o2 (by simp)).push (el2 := 83) (z := [(.int .i64 0), (.int .i64 0)]) (vs := edC (m, i)) rfl rfl (by decide) (by rw [edg_len, List.length_append]; omega)
    have hp2 : edg (E0 ++ edOf i (l.take k)) ++ [edC (m, i)] = edg (E0 ++ edOf i (l.take (k + 1))) := by rw [htk]; simp [edg, edOf]
    rw [hp2] at p2
    have hg2 := hg1.out p3 fun q => (hd g q).2.2 rfl
    obtain ⟨H3, w1, w2, w3, w4⟩ := st1 hg2 (by decide) (o := 1) (by simp) (v := ex1) p5
    have hn3 := p3.nx
    have hlxl := hlx.lt
    have hr1 : ∀ j ∈ rid ex1, j ∉ rid lx ∧ j ≠ D ∧ j ≠ g := fun j hj => (p4 j hj).elim (hd j) fun z => ⟨fun y => by have := hlxl j y; omega, by omega, by omega⟩
    have o3 : Out (g :: rid ex) H H3 := ((o2.mono fun j hj => by cases hj).trans (p3.mono fun j hj => .tail _ hj)).trans (w3.mono fun j hj => by rw [List.mem_singleton] at hj; subst hj; exact .head _)
    have hDc : cellAt H3 D 0 = some dx := by rw [o3.cellAt hDl (by rw [List.mem_cons, not_or]; exact ⟨hDg, fun q => (hd D q).2.1 rfl⟩)]; exact hD
    have hn4 := o3.nx
    obtain ⟨ex', H', S, i1, i2, i3, i4, i5, i6⟩ := graph1_loop (R := R) hn hin hdx hE0 hE0l hll hDg r (k + 1) H3 ex1 c5 c6 c7 h1 h3 (by rw [htk]; exact a4) (by rw [htk]; intro b hb; rcases List.mem_append.1 hb with hb | hb; exact hnn b hb; rw [List.mem_singleton] at hb; omega)
      (hlx.out o3 fun j hj => by rw [List.mem_cons, not_or]; exact ⟨fun e => hgl (e ▸ hj), fun q => (hd j q).1 hj⟩) hDc (by omega) w2 (p2.out w3 fun j hj => by rw [List.mem_singleton]; exact (hr1 j hj).2.2) hr1 hgl
    have key : ∀ j ∈ rid ex1, j ∈ rid ex ∨ H.next ≤ j := fun j hj => (p4 j hj).imp id fun z => by omega
    refine ⟨ex', H', (g :: rid ex) ++ S, fun j20 j31 j50 => ?_, i2, i3, (o3.mono fun j hj => List.mem_append_left _ hj).trans (i4.mono fun j hj => List.mem_append_right _ hj), fun j hj => ?_, fun j hj => (i6 j hj).elim (key j) fun z => .inr (by omega)⟩
    · have e1 : IntKind.wrap .i64 ((n : Int) - 1) = (n : Int) - 1 := wrap_i64 (by omega) (by omega)
      have d1 : (decide ((0 : Int) ≤ (m : Int)) && decide ((m : Int) ≤ (n : Int) - 1)) = true := by rw [Bool.and_eq_true]; exact ⟨decide_eq_true a0, decide_eq_true a1⟩
      have d2 : (((m : Nat) : Int) != ((i : Nat) : Int)) = true := by simp; omega
      have hfl : fl [(.int .i64 0), (.int .i64 0)] [(0, 1, .int .i64 (m : Int)), (1, 1, .int .i64 (i : Int))] = some (edC (m, i)) := rfl
      have hfl2 : fl [(.int .i64 0), (.int .i64 0)] [(0, 2, .agg (edC (m, i)))] = some (edC (m, i)) := rfl
      have st0 : st 2 (.ptr H.next 0) (.agg (edC (m, i))) (al H [.int .i64 0, .int .i64 0] 83 0) = some (al H (edC (m, i)) 83 0) := st_alN rfl rfl rfl (by decide) rfl
      have hel : (edC (m, i)).length = 2 := rfl
      have htk2 : (edC (m, i)).take 2 = edC (m, i) := rfl
      have hnc : newCells H1 (edC (m, i)) 83 0 = some (H1.next, al H1 (edC (m, i)) 83 0) := newCells_al (by rw [hel]; omega)
      have p1' := p1 _ rfl
      rw [ql_def_Graph1]
      simp (disch := (first | assumption | omega | (simp only [k_d, k_c, Nat.reduceAdd, Nat.reduceLeDiff, Nat.reduceLT] <;> fail) | (simp only [k_c]; omega) | (simp only [k_d, k_c, Nat.reduceAdd, Nat.reduceLeDiff, Nat.reduceLT, *] <;> fail) | fail)) only [bl_def_Graph1, lt_t h1, q1, q2, hfl, hfl2, st0, hel, htk2, hD, hdx, e1, din_c, d1, d2, hgc, hgc1, c1, hed, hnc, p1', w1, es, i1, k_a, k_b, Nat.reduceAdd, k_s, k_x, Int.reduceBEq, Int.reduceBNe, Int.reduceLT, Int.reduceLE, Int.reduceGT, Int.reduceGE, Int.reduceNeg]
    · rcases List.mem_append.1 hj with hj | hj
      · rcases List.mem_cons.1 hj with rfl | hj
        · exact .inl rfl
        · exact .inr (.inl hj)
      · rcases i5 j hj with z | z | z
        · exact .inl z
        · exact .inr (key j z)
        · exact .inr (.inr (by omega))
theorem graph_loop {dx : AV} {xs : List AV} {ts : List Tk} {D R g : Nat} (hn : ts.length ≤ 16) (hal : ∀ t ∈ ts, t.after.length ≤ 16) (ha : aftAll ts) (hDg : D ≠ g) (hgf : g ∉ fpD dx xs) :
    ∀ (r : List Tk) (i : Nat) (H : Hp) (ex : AV), i ≤ ts.length → ts.drop i = r → RD H dx xs ts → cellAt H D 0 = some dx → D < H.next → Cs H g [.int .i64 (ts.length : Nat), ex] 39 0 → OL H 83 2 ex (edg (edFrom 0 (ts.take i))) → (edFrom 0 (ts.take i)).length ≤ i * 16 → (∀ j ∈ rid ex, j ∉ fpD dx xs ∧ j ≠ D ∧ j ≠ g) →
    ∃ ex' H' S, (∀ j20 : K.Fn 2, l_def_Graph JN GO cK j20 (.ptr D 0) (.ptr R 0) (.ptr g 0) dx (.int .i64 (ts.length : Nat)) (.int .i64 (i : Nat)) H = j20 (.ptr R 0) (.ptr g 0) H') ∧ Cs H' g [.int .i64 (ts.length : Nat), ex'] 39 0 ∧ OL H' 83 2 ex' (edg (edFrom 0 ts)) ∧ Out S H H' ∧ (∀ j ∈ S, j = g ∨ j ∈ rid ex ∨ H.next ≤ j) ∧ ∀ j ∈ rid ex', j ∈ rid ex ∨ H.next ≤ j
  | [], i, H, ex, hi, h, hR, hD, hDl, hg, hO, hlen, hd => by
    obtain rfl := drop_nil hi h
    refine ⟨ex, H, [], fun j20 => ?_, hg, by rw [List.take_of_length_le (Nat.le_refl _)] at hO; exact hO, Out.refl _ _, (fun j hj => by cases hj), fun j hj => .inl hj⟩
    rw [ql_def_Graph]
    simp only [bl_def_Graph, lt_f, k_s, k_x, Int.reduceBEq, Int.reduceBNe, Int.reduceLT, Int.reduceLE, Int.reduceGT, Int.reduceGE, Int.reduceNeg]
  | t :: r, i, H, ex, hi, h, hR, hD, hDl, hg, hO, hlen, hd => by
    obtain ⟨h1, h2, h3⟩ := hd_drop h
    obtain ⟨x, b, o, q0, q1, q2, q3, q4, q5, _⟩ := hR.at h2
    have es := wrap_s h1 (by omega)
    have hht := hal t (List.mem_of_getElem? h2)
    have o1 := al_out H (tkC t x) 43 0
    have hxf : ∀ j ∈ rid x, j ∈ fpD dx xs := fun j hj => List.mem_append_right _ (List.mem_flatMap.2 ⟨x, List.mem_of_getElem? q0, hj⟩)
    have hgl := hg.1
    have hxr := hO.1.rw.lt
    obtain ⟨ex1, H1, S1, i1, i2, i3, i4, i5, i6⟩ := graph1_loop (E0 := edFrom 0 (ts.take i)) (R := R) (D := D) (g := g) hn h1 hR.lenx (fun e he => by have := edFrom_snd he; rw [List.length_take] at this; omega) (by omega) hht hDg t.after 0 _ ex dx (.int .i64 (ts.length : Nat)) (.int .i64 (i : Nat)) (Nat.zero_le _) List.drop_zero (by rw [List.take_zero]; exact ha i t h2) (by intro b hb; rw [List.take_zero] at hb; cases hb) (q2.out0 o1) (by rw [cellAt_al_ne hDl]; exact hD) (by rw [al_nx]; omega) (hg.out o1 (by simp)) (by rw [List.take_zero]; simpa [edOf] using hO.out o1 (by simp)) (fun j hj => ⟨fun z => (hd j hj).1 (hxf j z), (hd j hj).2⟩) (fun z => hgf (hxf g z))
    rw [← edFrom_take h2] at i3
    have hlen2 : (edFrom 0 (ts.take (i + 1))).length ≤ (i + 1) * 16 := by rw [edFrom_take h2, List.length_append]; simp [edOf]; omega
    have hfl := hR.lt
    have hSn : ∀ j ∈ S1, j = g ∨ j ∈ rid ex ∨ H.next ≤ j := fun j hj => by
      rcases i5 j hj with z | z | z
      · exact .inl z
      · exact .inr (.inl z)
      · rw [al_nx] at z; exact .inr (.inr (by omega))
    have key : ∀ j ∈ rid ex1, j ∈ rid ex ∨ H.next ≤ j := fun j hj => (i6 j hj).imp id fun z => by rw [al_nx] at z; omega
    have o2 : Out S1 H H1 := (o1.mono fun j hj => by cases hj).trans i4
    have hn2 := o2.nx
    have hfS : ∀ j ∈ fpD dx xs, j ∉ S1 := fun j hj z => by
      rcases hSn j z with rfl | y | y
      · exact hgf hj
      · exact (hd j y).1 hj
      · have := hfl j hj; omega
    have hDS : D ∉ S1 := fun z => by
      rcases hSn D z with y | y | y
      · exact hDg y
      · exact (hd D y).2.1 rfl
      · omega
    obtain ⟨ex', H', S, k1, k2, k3, k4, k5, k6⟩ := graph_loop (R := R) hn hal ha hDg hgf r (i + 1) H1 ex1 h1 h3 (hR.out o2 hfS) (by rw [o2.cellAt hDl hDS]; exact hD) (by omega) i2 i3 hlen2 (fun j hj => (key j hj).elim (hd j) fun z => ⟨fun y => by have := hfl j y; omega, by omega, by omega⟩)
    refine ⟨ex', H', S1 ++ S, fun j20 => ?_, k2, k3, (o2.mono fun j hj => List.mem_append_left _ hj).trans (k4.mono fun j hj => List.mem_append_right _ hj), fun j hj => ?_, fun j hj => (k6 j hj).elim (key j) fun z => .inr (by omega)⟩
    · have hst := st_tk t x q1 H
      obtain ⟨e0, e1, e2, e3, e4, e5⟩ := fd_tk t x
      have hl := q2.len1
      rw [ints_len] at hl
      rw [show (((0 : Nat) : Int)) = 0 from rfl] at i1
      rw [ql_def_Graph]
      simp (disch := (first | assumption | omega | (simp only [k_d, k_c, Nat.reduceAdd, Nat.reduceLeDiff, Nat.reduceLT] <;> fail) | (simp only [k_c]; omega) | (simp only [k_d, k_c, Nat.reduceAdd, Nat.reduceLeDiff, Nat.reduceLT, *] <;> fail) | fail)) only [bl_def_Graph, lt_t h1, q3, q5, hst, e1, hl, i1, es, k1, k_a, k_b, Nat.reduceAdd, k_s, k_x, Int.reduceBEq, Int.reduceBNe, Int.reduceLT, Int.reduceLE, Int.reduceGT, Int.reduceGE, Int.reduceNeg]
    · rcases List.mem_append.1 hj with hj | hj
      · exact hSn j hj
      · rcases k5 j hj with z | z | z
        · exact .inl z
        · exact .inr (key j z)
        · exact .inr (.inr (by omega))
theorem graph_c {dx : AV} {xs : List AV} {ts : List Tk} {H : Hp} (hn : ts.length ≤ 16) (hal : ∀ t ∈ ts, t.after.length ≤ 16) (ha : aftAll ts) (hR : RD H dx xs ts) :
    ∃ ex H', cK (.func (.func 15) [] []) [dv dx] H = some (gv ts.length ex, H') ∧ RL H' 2 ex (edg (edFrom 0 ts)) ∧ Out [] H H' ∧ ∀ j ∈ rid ex, H.next ≤ j := by
  have hd1 := hR.row.one
  have hdl := hR.lenx
  have hfl := hR.lt
  have o1 := al_out H [dx] 25 0
  have o2 := o1.al [.int .i64 0, .slice0] 39 0
  have o3 := o2.al [.int .i64 (ts.length : Nat), .slice0] 39 0
  have c3 := al_cs (al (al H [dx] 25 0) [.int .i64 0, .slice0] 39 0) [.int .i64 (ts.length : Nat), .slice0] 39 0
  have c2 := (al_cs (al H [dx] 25 0) [.int .i64 0, .slice0] 39 0).out (al_out (al (al H [dx] 25 0) [.int .i64 0, .slice0] 39 0) [.int .i64 (ts.length : Nat), .slice0] 39 0) (by simp)
  have hD : cellAt (al (al (al H [dx] 25 0) [.int .i64 0, .slice0] 39 0) [.int .i64 (ts.length : Nat), .slice0] 39 0) H.next 0 = some dx := by
    rw [cellAt_al_ne (by rw [al_nx, al_nx]; omega), cellAt_al_ne (by rw [al_nx]; omega), cellAt_al rfl]; rfl
  obtain ⟨ex, H1, S, i1, i2, i3, i4, i5, i6⟩ := graph_loop (D := H.next) (R := H.next + 1) (g := H.next + 2) hn hal ha (by omega) (fun z => by have := hfl _ z; omega) ts 0 _ .slice0 (Nat.zero_le _) List.drop_zero (hR.out0 o3) hD (by rw [al_nx, al_nx, al_nx]; omega) c3 (by rw [List.take_zero]; exact OL.nil _ _ _) (by rw [List.take_zero]; simp [edFrom]) (fun j hj => by cases hj)
  have hnx : (al (al (al H [dx] 25 0) [.int .i64 0, .slice0] 39 0) [.int .i64 (ts.length : Nat), .slice0] 39 0).next = H.next + 3 := rfl
  have hS : ∀ j ∈ S, j = H.next + 2 ∨ H.next + 3 ≤ j := fun j hj => by
    rcases i5 j hj with z | z | z
    · exact .inl z
    · cases z
    · exact .inr (by omega)
  have hn1 := i4.nx
  have hc2 : Cs H1 (H.next + 1) [.int .i64 0, .slice0] 39 0 := c2.out i4 fun z => by have := hS _ z; rw [al_nx] at this; omega
  have hex1 := i3.1.oneX
  obtain ⟨H2, w1, w2, w3, w4⟩ : ∃ H2, st 2 (.ptr (H.next + 1) 0) (.agg [.int .i64 (ts.length : Nat), ex]) H1 = some H2 ∧ Cs H2 (H.next + 1) [.int .i64 (ts.length : Nat), ex] 39 0 ∧ Out [H.next + 1] H1 H2 ∧ H2.next = H1.next := by
    obtain ⟨Ha, a1, a2, a3, a4⟩ := setCell_ok hc2 (by decide) (o := 0) (by decide) (v := .int .i64 (ts.length : Nat)) rfl
    obtain ⟨Hb, b1, b2, b3, b4⟩ := setCell_ok a2 (by decide) (o := 1) (by simp) (v := ex) hex1
    refine ⟨Hb, ?_, b2, a3.trans b3, by rw [b4, a4]⟩
    unfold st
    simp only [cellsV_agg]
    show setCells H1 (H.next + 1) 0 [.int .i64 (ts.length : Nat), ex] = _
    simp only [setCells, a1, b1, Option.bind_eq_bind, Option.bind_some]
  have hrx : ∀ j ∈ rid ex, H.next + 3 ≤ j := fun j hj => (i6 j hj).elim (fun z => by cases z) fun z => by omega
  refine ⟨ex, H2, c_def_Graph ?_, (i3.rl).out w3 fun j hj => by rw [List.mem_singleton]; have := hrx j hj; omega, (o3.then i4 fun j hj => .inr (by have := hS j hj; omega)).then w3 fun j hj => by rw [List.mem_singleton] at hj; exact .inr (by omega), fun j hj => by have := hrx j hj; omega⟩
  have hfl2 : fl [.int .i64 0, .slice0] [(0, 1, .int .i64 (ts.length : Nat))] = some [.int .i64 (ts.length : Nat), .slice0] := rfl
  have hg2 : cellsAt H1 (H.next + 2) 0 2 = some [.int .i64 (ts.length : Nat), ex] := i2.cellsAt 2 0 (by simp)
  have hr2 : cellsAt H2 (H.next + 1) 0 2 = some [.int .i64 (ts.length : Nat), ex] := w2.cellsAt 2 0 (by simp)
  have st0 : st 2 (.ptr (H.next + 2) 0) (.agg [.int .i64 (ts.length : Nat), .slice0]) (al (al (al H [dx] 25 0) [.int .i64 0, .slice0] 39 0) [.int .i64 0, .slice0] 39 0) = some (al (al (al H [dx] 25 0) [.int .i64 0, .slice0] 39 0) [.int .i64 (ts.length : Nat), .slice0] 39 0) := st_alN rfl rfl rfl (by decide) rfl
  rw [show (((0 : Nat) : Int)) = 0 from rfl] at i1
  unfold s_def_Graph
  simp (disch := (first | assumption | omega | (simp only [k_d, k_c, Nat.reduceAdd, Nat.reduceLeDiff, Nat.reduceLT] <;> fail) | (simp only [k_c]; omega) | (simp only [k_d, k_c, Nat.reduceAdd, Nat.reduceLeDiff, Nat.reduceLT, *] <;> fail) | fail)) only [hdl, hfl2, st0, i1, hg2, w1, hr2, k_a, k_b, Nat.reduceAdd, k_s, k_x, Int.reduceBEq, Int.reduceBNe, Int.reduceLT, Int.reduceLE, Int.reduceGT, Int.reduceGE, Int.reduceNeg]
/-! def.Good -/
theorem aft_all {ts : List Tk} {i : Nat} {t : Tk} (ha : aftAll ts) (ht : ts[i]? = some t) : (∀ a ∈ t.after, 0 ≤ a ∧ a ≤ (ts.length : Int) - 1 ∧ a ≠ (i : Int)) ∧ t.after.Nodup := by
  have key : ∀ (l pre : List Int), aftG ts.length i pre l = true → (∀ a ∈ l, 0 ≤ a ∧ a ≤ (ts.length : Int) - 1 ∧ a ≠ (i : Int) ∧ a ∉ pre) ∧ l.Nodup := by
    intro l
    induction l with
    | nil => intro pre _; exact ⟨(fun a ha => by cases ha), List.nodup_nil⟩
    | cons a l ih =>
      intro pre h
      obtain ⟨a0, a1, a2, a3, a4⟩ := aftG_cons h
      obtain ⟨i1, i2⟩ := ih _ a4
      refine ⟨fun b hb => ?_, List.nodup_cons.2 ⟨fun q => (i1 a q).2.2.2 (by simp), i2⟩⟩
      rcases List.mem_cons.1 hb with rfl | hb
      · exact ⟨a0, a1, a2, a3⟩
      · obtain ⟨x1, x2, x3, x4⟩ := i1 b hb
        exact ⟨x1, x2, x3, fun q => x4 (List.mem_append_left _ q)⟩
  obtain ⟨k1, k2⟩ := key _ _ (ha i t ht)
  exact ⟨fun a h => ⟨(k1 a h).1, (k1 a h).2.1, (k1 a h).2.2.1⟩, k2⟩
theorem pigeon : ∀ (n : Nat) (l : List Nat), l.Nodup → (∀ a ∈ l, a < n) → l.length ≤ n
  | 0, l, _, h => by
    cases l with
    | nil => exact Nat.le_refl _
    | cons a l => have := h a (.head _); omega
  | n + 1, l, hn, h => by
    by_cases hm : n ∈ l
    · have h1 := pigeon n (l.erase n) (hn.erase n) fun a ha => by
        rw [hn.mem_erase_iff] at ha
        have := h a ha.2
        omega
      rw [List.length_erase_of_mem hm] at h1
      omega
    · have h1 := pigeon n l hn fun a ha => by
        have := h a ha
        have : a ≠ n := fun e => hm (e ▸ ha)
        omega
      omega
theorem nodup_le {n : Nat} {l : List Int} (h : ∀ a ∈ l, 0 ≤ a ∧ a ≤ (n : Int) - 1) (hn : l.Nodup) : l.length ≤ n := by
  have h1 : (l.map Int.toNat).Nodup := by
    rw [List.nodup_iff_pairwise_ne, List.pairwise_map]
    refine (List.nodup_iff_pairwise_ne.1 hn).imp_of_mem ?_
    intro a b ha hb hab e
    have := h a ha; have := h b hb; omega
  have := pigeon n _ h1 fun m hm => by
    obtain ⟨a, ha, rfl⟩ := List.mem_map.1 hm
    have := h a ha; omega
  simpa using this
theorem goodE_of {ts : List Tk} (hn : ts.length ≤ 16) (ha : aftAll ts) : GoodE ts.length (edFrom 0 ts) := by
  have key : ∀ (k : Nat), k ≤ ts.length → (∀ e ∈ edFrom 0 (ts.take k), e.1 < ts.length ∧ e.2 < ts.length ∧ e.1 ≠ e.2) ∧ (edFrom 0 (ts.take k)).Nodup ∧ (edFrom 0 (ts.take k)).length ≤ k * 16 := by
    intro k
    induction k with
    | zero => intro _; rw [List.take_zero]; exact ⟨(fun e he => by cases he), List.nodup_nil, Nat.zero_le _⟩
    | succ k ih =>
      intro hk
      obtain ⟨i1, i2, i3⟩ := ih (by omega)
      have ht : ts[k]? = some (ts[k]'(by omega)) := List.getElem?_eq_getElem _
      obtain ⟨a1, a2⟩ := aft_all ha ht
      have hle := nodup_le (n := ts.length) (fun a h => ⟨(a1 a h).1, (a1 a h).2.1⟩) a2
      rw [edFrom_take ht]
      refine ⟨fun e he => ?_, List.nodup_append.2 ⟨i2, ?_, fun e he f hf hef => ?_⟩, ?_⟩
      · rcases List.mem_append.1 he with he | he
        · exact i1 e he
        · obtain ⟨a, h, rfl⟩ := List.mem_map.1 he
          have := a1 a h
          exact ⟨by simp; omega, by simp; omega, by simp; omega⟩
      · unfold edOf
        rw [List.nodup_iff_pairwise_ne, List.pairwise_map]
        refine (List.nodup_iff_pairwise_ne.1 a2).imp_of_mem ?_
        intro a b h1 h2 hab e
        have e1 := congrArg Prod.fst e
        have := a1 a h1; have := a1 b h2
        simp only at e1
        omega
      · obtain ⟨a, h, rfl⟩ := List.mem_map.1 hf
        have := edFrom_snd he
        rw [List.length_take] at this
        rw [hef] at this
        simp at this; omega
      · rw [List.length_append]; simp [edOf]; omega
  obtain ⟨k1, k2, k3⟩ := key ts.length (Nat.le_refl _)
  rw [List.take_of_length_le (Nat.le_refl _)] at k1 k2 k3
  exact ⟨hn, k1, k2, by omega⟩
end Go.Proofs.YthljbjokonglhaaGreatDoor.DfK
