/- RunEnds over the symbolic heap: done in order, a run without signals comes to its end. Conditions: the listed variables hold what the row says. -/
import Derived.Test.YthljbjokonglhaaGreatDoorDfR5
import Derived.Test.YthljbjokonglhaaGreatDoorDfO
namespace Go.Proofs.YthljbjokonglhaaGreatDoor.DfK
open Go Am Am.K DfEnv DfM LibP DfG
set_option linter.unusedVariables false
set_option linter.unusedSimpArgs false
set_option maxRecDepth 10000
set_option maxHeartbeats 1000000
/-! the plain law -/
def u3 (r : RT) : Bool := r.ph == 3
def u3at (rs : List RT) (k : Nat) : Bool := ((rs[k]?).map u3).getD false
theorem ph_u3 (rs : List RT) (a : Int) : (phN rs a != 3) = !(u3at rs a.toNat) := by
  unfold phN u3at
  cases rs[a.toNat]? <;> rfl
theorem blk_congr {rs rs' : List RT} (h : ∀ k, u3at rs k = u3at rs' k) (t : Tk) : blk rs t = blk rs' t := by
  unfold blk
  refine any_congr' fun a _ => ?_
  rw [ph_u3, ph_u3, h]
theorem blk_mono {rs rs' : List RT} (h : ∀ k, u3at rs k = true → u3at rs' k = true) {t : Tk} (hb : blk rs t = false) : blk rs' t = false := by
  unfold blk at hb ⊢
  rw [List.any_eq_false] at hb ⊢
  intro a ha
  have := hb a ha
  rw [ph_u3] at this ⊢
  have h1 : u3at rs a.toNat = true := by simpa using this
  rw [h _ h1]; simp
structure Semi (ts : List Tk) (R : Rn) : Prop where
  eq : R.ts = ts
  sg : R.sg = []
  len : R.rs.length = ts.length
  each : ∀ (i : Nat) (t : Tk) (r : RT), ts[i]? = some t → R.rs[i]? = some r → r.ph = 3 ∨ (r.ph = 1 ∧ r.tr = 0 ∧ blk R.rs t = false) ∨ (r.ph = 0 ∧ r.tr = 0)
structure Full (ts : List Tk) (R : Rn) : Prop where
  semi : Semi ts R
  no : ∀ (i : Nat) (t : Tk) (r : RT), ts[i]? = some t → R.rs[i]? = some r → r.ph = 0 → blk R.rs t = true
theorem settle_at {R : Rn} {i : Nat} {t : Tk} {r : RT} (ht : R.ts[i]? = some t) (hr : R.rs[i]? = some r) : (settleM R).rs[i]? = some (settleT R.rs R.sg t r) := by
  unfold settleM
  simp only
  rw [List.getElem?_zipWith, ht, hr]
theorem settle_len {R : Rn} (h : R.rs.length = R.ts.length) : (settleM R).rs.length = R.rs.length := by
  unfold settleM
  simp only
  rw [List.length_zipWith]; omega
theorem settle_u3 {R : Rn} (h : R.rs.length = R.ts.length) : (settleM R).rs.map u3 = R.rs.map u3 := by
  apply List.ext_getElem?
  intro k
  rw [List.getElem?_map, List.getElem?_map]
  by_cases hk : k < R.rs.length
  · have e1 : R.rs[k]? = some R.rs[k] := List.getElem?_eq_getElem hk
    have e2 : R.ts[k]? = some (R.ts[k]'(by omega)) := List.getElem?_eq_getElem _
    rw [settle_at e2 e1, e1]
    simp only [Option.map_some]
    congr 1
    exact settleT_ph _ _ _ _
  · rw [List.getElem?_eq_none (by rw [settle_len h]; omega), List.getElem?_eq_none (by omega)]
theorem u3at_map {rs rs' : List RT} (h : rs.map u3 = rs'.map u3) (k : Nat) : u3at rs k = u3at rs' k := by
  unfold u3at
  rw [← List.getElem?_map, ← List.getElem?_map, h]
theorem cnt_map {rs rs' : List RT} (h : rs.map u3 = rs'.map u3) : rs.countP u3 = rs'.countP u3 := by
  have e : ∀ l : List RT, l.countP u3 = (l.map u3).countP id := fun l => by rw [List.countP_map]; rfl
  rw [e, e, h]
theorem settle_full {ts : List Tk} {R : Rn} (h : Semi ts R) (hon : ∀ t ∈ ts, t.on = []) : Full ts (settleM R) := by
  obtain ⟨h1, h2, h3, h4⟩ := h
  subst h1
  have hu := settle_u3 h3
  have hb : ∀ t, blk (settleM R).rs t = blk R.rs t := fun t => blk_congr (u3at_map hu) t
  have hget : ∀ (i : Nat) (t : Tk) (r : RT), R.ts[i]? = some t → (settleM R).rs[i]? = some r → ∃ r0, R.rs[i]? = some r0 ∧ r = settleT R.rs R.sg t r0 := by
    intro i t r ht hr
    have hil := (List.getElem?_eq_some_iff.1 ht).1
    have e1 : R.rs[i]? = some (R.rs[i]'(by omega)) := List.getElem?_eq_getElem _
    rw [settle_at ht e1] at hr
    cases hr
    exact ⟨_, e1, rfl⟩
  refine ⟨⟨rfl, h2, by rw [settle_len h3]; exact h3, fun i t r ht hr => ?_⟩, fun i t r ht hr h0 => ?_⟩
  · obtain ⟨r0, e0, rfl⟩ := hget i t r ht hr
    rw [hb]
    unfold settleT
    split
    · rename_i hy
      unfold rdy at hy
      simp only [Bool.and_eq_true, Bool.not_eq_true', beq_iff_eq] at hy
      rcases h4 i t r0 ht e0 with q | q | q
      · rw [q] at hy; exact absurd hy.1 (by decide)
      · exact .inr (.inl ⟨rfl, q.2.1, hy.2.1⟩)
      · exact .inr (.inl ⟨rfl, q.2, hy.2.1⟩)
    · exact h4 i t r0 ht e0
  · obtain ⟨r0, e0, rfl⟩ := hget i t r ht hr
    rw [hb]
    unfold settleT at h0
    split at h0
    · cases h0
    · rename_i hy
      unfold rdy at hy
      have h0' : (r0.ph == 0) = true := by simpa using h0
      have ho : (t.on == []) = true := by rw [hon t (List.mem_of_getElem? ht)]; rfl
      rw [h0', ho] at hy
      simpa using hy
theorem all_cnt {l : List RT} : (l.all fun r => r.ph == 3) = decide (l.countP u3 = l.length) := by
  rw [Bool.eq_iff_iff, List.all_eq_true, decide_eq_true_eq, List.countP_eq_length]
  exact Iff.rfl
theorem settle_st {R : Rn} : (settleM R).st = if R.rs.countP u3 = R.rs.length then 1 else R.st := by
  unfold settleM
  simp only
  rw [all_cnt]
  by_cases h : R.rs.countP u3 = R.rs.length
  · rw [decide_eq_true h, if_pos rfl, if_pos h]
  · rw [decide_eq_false h, if_neg (by simp), if_neg h]
theorem set_semi {ts : List Tk} {R : Rn} (h : Semi ts R) (i : Nat) (r1 : RT) (hr : r1.ph = 3) : Semi ts { R with rs := R.rs.set i r1 } := by
  obtain ⟨h1, h2, h3, h4⟩ := h
  refine ⟨h1, h2, by rw [List.length_set]; exact h3, fun j t r ht hrj => ?_⟩
  simp only at hrj ⊢
  have hm : ∀ k, u3at R.rs k = true → u3at (R.rs.set i r1) k = true := by
    intro k hk
    unfold u3at at hk ⊢
    rw [List.getElem?_set]
    split
    · split
      · simp [u3, hr]
      · rename_i e hlt
        subst e
        rw [List.getElem?_eq_none (by omega)] at hk
        cases hk
    · exact hk
  rw [List.getElem?_set] at hrj
  split at hrj
  · split at hrj
    · cases hrj; exact .inl hr
    · cases hrj
  · rcases h4 j t r ht hrj with q | q | q
    · exact .inl q
    · exact .inr (.inl ⟨q.1, q.2.1, blk_mono hm q.2.2⟩)
    · exact .inr (.inr q)
theorem set_cnt {rs : List RT} {i : Nat} {r r1 : RT} (h : rs[i]? = some r) (h0 : u3 r = false) (h1 : u3 r1 = true) : (rs.set i r1).countP u3 = rs.countP u3 + 1 := by
  have hil := (List.getElem?_eq_some_iff.1 h).1
  have e : rs[i] = r := (List.getElem?_eq_some_iff.1 h).2
  rw [List.countP_set hil, e, h0, h1]
  simp
theorem ready_ex {ts : List Tk} {R : Rn} (h : Full ts R) (hn : ts.length ≤ 16) (ha : aftAll ts) (hc : noCyc ts.length (edFrom 0 ts)) (hs : R.rs.countP u3 ≠ ts.length) : ∃ (i : Nat) (r : RT), R.rs[i]? = some r ∧ r.ph = 1 := by
  have hE := goodE_of hn ha
  have hlen := h.semi.len
  have hne : (List.range ts.length).filter (fun k => !(u3at R.rs k)) ≠ [] := by
    intro e
    apply hs
    rw [← hlen, List.countP_eq_length]
    intro r hr
    obtain ⟨i, hi⟩ := List.getElem?_of_mem hr
    have hil := (List.getElem?_eq_some_iff.1 hi).1
    rw [List.filter_eq_nil_iff] at e
    have := e i (List.mem_range.2 (by omega))
    unfold u3at at this
    rw [hi] at this
    simpa using this
  obtain ⟨m, hm, hx⟩ := first_of (sc_lt hE) (noCyc_V hE hc) _ hne (fun a ha => List.mem_range.1 (List.mem_filter.1 ha).1)
  obtain ⟨hm1, hm2⟩ := List.mem_filter.1 hm
  have hmn := List.mem_range.1 hm1
  have ht : ts[m]? = some ts[m] := List.getElem?_eq_getElem hmn
  have hr : R.rs[m]? = some (R.rs[m]'(by omega)) := List.getElem?_eq_getElem _
  have hb : blk R.rs ts[m] = false := by
    unfold blk
    rw [List.any_eq_false]
    intro a haa
    rw [ph_u3]
    have h1 := (aft_all ha ht).1 a haa
    have hmem := mem_edFrom (i0 := 0) ht haa
    rw [Nat.zero_add] at hmem
    have : u3at R.rs a.toNat = true := by
      refine Classical.byContradiction fun q => ?_
      have : a.toNat ∈ (List.range ts.length).filter (fun k => !(u3at R.rs k)) := by
        rw [List.mem_filter]
        exact ⟨List.mem_range.2 (by omega), by simpa using q⟩
      exact hx _ this (mem_bes.1.2 hmem)
    rw [this]; simp
  have hu : u3 (R.rs[m]'(by omega)) = false := by
    unfold u3at at hm2
    rw [hr] at hm2
    simpa using hm2
  refine ⟨m, _, hr, ?_⟩
  rcases h.semi.each m _ _ ht hr with q | q | q
  · unfold u3 at hu; rw [q] at hu; cases hu
  · exact q.1
  · have := h.no m _ _ ht hr q.1
    rw [hb] at this; cases this
/-! the law's loops -/
theorem on_loop {ts : List Tk} {dx : AV} {xs : List AV} {D : Nat} {H : Hp} (hn : ts.length ≤ 1000) (hD : cellAt H D 0 = some dx) (hR : RD H dx xs ts) (j33 : K.Fn 1) : ∀ (r : List Tk) (i : Nat), i ≤ ts.length → ts.drop i = r →
    l_outriderlaw16_RunEnds JN GO cK j33 (.ptr D 0) (.int .i64 (i : Nat)) H = if ∀ t ∈ r, t.on = [] then j33 (.ptr D 0) H else some (.bool true, H)
  | [], i, hi, h => by
    obtain rfl := drop_nil hi h
    have hl := hR.lenx
    rw [ql_outriderlaw16_RunEnds, if_pos (fun t ht => by cases ht)]
    simp (disch := (first | assumption | omega | (simp only [k_d, k_c, Nat.reduceAdd, Nat.reduceLeDiff, Nat.reduceLT] <;> fail) | (simp only [k_c]; omega) | (simp only [k_d, k_c, Nat.reduceAdd, Nat.reduceLeDiff, Nat.reduceLT, *] <;> fail) | fail)) only [bl_outriderlaw16_RunEnds, hD, hl, lt_f, k_a, k_b, Nat.reduceAdd, k_s, k_x, Int.reduceBEq, Int.reduceBNe, Int.reduceLT, Int.reduceLE, Int.reduceGT, Int.reduceGE, Int.reduceNeg]
  | t :: r, i, hi, h => by
    obtain ⟨h1, h2, h3⟩ := hd_drop h
    have hl := hR.lenx
    obtain ⟨x, b, o, p1, p2, p3, p4, p5, p6⟩ := hR.at2 h2
    have k5 : cellAt H b (o + 5) = some (.str t.on) := p6 5 _ rfl
    have es := wrap_s h1 (by omega)
    have ih := on_loop hn hD hR j33 r (i + 1) h1 h3
    rw [ql_outriderlaw16_RunEnds]
    by_cases ho : t.on = []
    · have d : (t.on == []) = true := by rw [ho]; rfl
      have e : (∀ u ∈ t :: r, u.on = []) ↔ ∀ u ∈ r, u.on = [] := by simp [ho]
      simp only [e]
      simp (disch := (first | assumption | omega | (simp only [k_d, k_c, Nat.reduceAdd, Nat.reduceLeDiff, Nat.reduceLT] <;> fail) | (simp only [k_c]; omega) | (simp only [k_d, k_c, Nat.reduceAdd, Nat.reduceLeDiff, Nat.reduceLT, *] <;> fail) | fail)) only [bl_outriderlaw16_RunEnds, hD, hl, lt_t h1, p1, k5, d, es, ih, k_a, k_b, Nat.reduceAdd, k_s, k_x, Int.reduceBEq, Int.reduceBNe, Int.reduceLT, Int.reduceLE, Int.reduceGT, Int.reduceGE, Int.reduceNeg]
    · have d : (t.on == []) = false := by simp [ho]
      rw [if_neg fun q => ho (q t (.head _))]
      simp (disch := (first | assumption | omega | (simp only [k_d, k_c, Nat.reduceAdd, Nat.reduceLeDiff, Nat.reduceLT] <;> fail) | (simp only [k_c]; omega) | (simp only [k_d, k_c, Nat.reduceAdd, Nat.reduceLeDiff, Nat.reduceLT, *] <;> fail) | fail)) only [bl_outriderlaw16_RunEnds, hD, hl, lt_t h1, p1, k5, d, k_a, k_b, Nat.reduceAdd, k_s, k_x, Int.reduceBEq, Int.reduceBNe, Int.reduceLT, Int.reduceLE, Int.reduceGT, Int.reduceGE, Int.reduceNeg]
theorem next_loop {R : Rn} {dx tx sx : AV} {xs : List AV} {Q : Nat} {H : Hp} {D step : AV} (hn : R.rs.length ≤ 1000) (hQ : cellAt H Q 2 = some tx) (hV : RV H dx xs tx sx R) : ∀ (r : List RT) (i : Nat) (nx : Int), i ≤ R.rs.length → R.rs.drop i = r →
    ∃ z : Int, (∀ (j86 : K.Fn 1) (j108 : K.Fn 3) (j141 : K.Fn 4), l_outriderlaw16_RunEnds2 JN GO cK j86 j108 j141 D (.ptr Q 0) step (.int .i64 nx) (.int .i64 (i : Nat)) H = j141 D (.ptr Q 0) step (.int .i64 z) H) ∧ ((∃ (j : Nat) (u : RT), R.rs[j]? = some u ∧ u.ph = 1 ∧ z = j) ∨ (z = nx ∧ ∀ u ∈ r, u.ph ≠ 1))
  | [], i, nx, hi, h => by
    obtain rfl := drop_nil hi h
    have hl := hV.tlen
    refine ⟨nx, fun j86 j108 j141 => ?_, .inr ⟨rfl, fun u hu => by cases hu⟩⟩
    rw [ql_outriderlaw16_RunEnds2]
    simp (disch := (first | assumption | omega | (simp only [k_d, k_c, Nat.reduceAdd, Nat.reduceLeDiff, Nat.reduceLT] <;> fail) | (simp only [k_c]; omega) | (simp only [k_d, k_c, Nat.reduceAdd, Nat.reduceLeDiff, Nat.reduceLT, *] <;> fail) | fail)) only [bl_outriderlaw16_RunEnds2, hQ, hl, lt_f, k_a, k_b, Nat.reduceAdd, k_s, k_x, Int.reduceBEq, Int.reduceBNe, Int.reduceLT, Int.reduceLE, Int.reduceGT, Int.reduceGE, Int.reduceNeg]
  | u :: r, i, nx, hi, h => by
    obtain ⟨h1, h2, h3⟩ := hd_drop h
    have hl := hV.tlen
    obtain ⟨b, o, q1, q2, q3, q4, q5⟩ := hV.t.at (by decide) (rts_get h2)
    have e0 := q5 0 _ (fd_rt u).1
    rw [Nat.add_zero] at e0
    have es := wrap_s h1 (by omega)
    by_cases hp : u.ph = 1
    · have d : (u.ph == 1) = true := by simp [hp]
      obtain ⟨z, i1, i2⟩ := next_loop (D := D) (step := step) hn hQ hV r (i + 1) (i : Int) h1 h3
      refine ⟨z, fun j86 j108 j141 => ?_, .inl ?_⟩
      · rw [ql_outriderlaw16_RunEnds2]
        simp (disch := (first | assumption | omega | (simp only [k_d, k_c, Nat.reduceAdd, Nat.reduceLeDiff, Nat.reduceLT] <;> fail) | (simp only [k_c]; omega) | (simp only [k_d, k_c, Nat.reduceAdd, Nat.reduceLeDiff, Nat.reduceLT, *] <;> fail) | fail)) only [bl_outriderlaw16_RunEnds2, hQ, hl, lt_t h1, q1, e0, d, es, i1, k_a, k_b, Nat.reduceAdd, k_s, k_x, Int.reduceBEq, Int.reduceBNe, Int.reduceLT, Int.reduceLE, Int.reduceGT, Int.reduceGE, Int.reduceNeg]
      · rcases i2 with q | ⟨q, _⟩
        · exact q
        · exact ⟨i, u, h2, hp, q⟩
    · have d : (u.ph == 1) = false := by simp [hp]
      obtain ⟨z, i1, i2⟩ := next_loop (D := D) (step := step) hn hQ hV r (i + 1) nx h1 h3
      refine ⟨z, fun j86 j108 j141 => ?_, i2.imp id fun ⟨q, w⟩ => ⟨q, fun v hv => ?_⟩⟩
      · rw [ql_outriderlaw16_RunEnds2]
        simp (disch := (first | assumption | omega | (simp only [k_d, k_c, Nat.reduceAdd, Nat.reduceLeDiff, Nat.reduceLT] <;> fail) | (simp only [k_c]; omega) | (simp only [k_d, k_c, Nat.reduceAdd, Nat.reduceLeDiff, Nat.reduceLT, *] <;> fail) | fail)) only [bl_outriderlaw16_RunEnds2, hQ, hl, lt_t h1, q1, e0, d, es, i1, k_a, k_b, Nat.reduceAdd, k_s, k_x, Int.reduceBEq, Int.reduceBNe, Int.reduceLT, Int.reduceLE, Int.reduceGT, Int.reduceGE, Int.reduceNeg]
      · rcases List.mem_cons.1 hv with rfl | hv
        · exact hp
        · exact w v hv
theorem ends_loop {ts : List Tk} {ddx : AV} {dxs : List AV} {D Q : Nat} (hn1 : 1 ≤ ts.length) (hn : ts.length ≤ 16) (ha : aftAll ts) (hc : noCyc ts.length (edFrom 0 ts)) (hon : ∀ t ∈ ts, t.on = []) (hDQ : D ≠ Q) : ∀ (m step : Nat) (H : Hp) (dx tx sx : AV) (xs : List AV) (R : Rn), step + m = ts.length → cellAt H D 0 = some ddx → D < H.next → RD H ddx dxs ts → Q ∉ fpD ddx dxs → Cs H Q (rv dx R.st tx sx) 47 0 → RV H dx xs tx sx R → Okr R → Full ts R → R.rs.countP u3 = step → R.st = (if step = ts.length then 1 else 0) →
    ∃ H', (∀ j86 : K.Fn 1, l_outriderlaw16_RunEnds1 JN GO cK j86 (.ptr D 0) (.ptr Q 0) (.int .i64 (step : Nat)) H = j86 (.ptr Q 0) H') ∧ cellAt H' Q 1 = some (.int .i64 1)
  | 0, step, H, dx, tx, sx, xs, R, hm, hD, hDl, hRD, hQD, hQ, hV, hk, hF, hcnt, hst => by
    obtain rfl : step = ts.length := by omega
    have hdl := hRD.lenx
    rw [if_pos rfl] at hst
    have k1 : cellAt H Q 1 = some (.int .i64 R.st) := hQ.cellAt rfl
    rw [hst] at k1
    refine ⟨H, fun j86 => ?_, k1⟩
    rw [ql_outriderlaw16_RunEnds1]
    simp (disch := (first | assumption | omega | (simp only [k_d, k_c, Nat.reduceAdd, Nat.reduceLeDiff, Nat.reduceLT] <;> fail) | (simp only [k_c]; omega) | (simp only [k_d, k_c, Nat.reduceAdd, Nat.reduceLeDiff, Nat.reduceLT, *] <;> fail) | fail)) only [bl_outriderlaw16_RunEnds1, hD, hdl, lt_f, k_a, k_b, Nat.reduceAdd, k_s, k_x, Int.reduceBEq, Int.reduceBNe, Int.reduceLT, Int.reduceLE, Int.reduceGT, Int.reduceGE, Int.reduceNeg]
  | m + 1, step, H, dx, tx, sx, xs, R, hm, hD, hDl, hRD, hQD, hQ, hV, hk, hF, hcnt, hst => by
    have h1 : step < ts.length := by omega
    have hdl := hRD.lenx
    have htl := hV.tlen
    have hlen := hF.semi.len
    have hst0 : R.st = 0 := by rw [hst, if_neg (by omega)]
    have es := wrap_s h1 (by omega)
    have k1 : cellAt H Q 1 = some (.int .i64 0) := by have : cellAt H Q 1 = some (.int .i64 R.st) := hQ.cellAt rfl; rw [hst0] at this; exact this
    have k2 : cellAt H Q 2 = some tx := hQ.cellAt rfl
    have k4 : cellsAt H Q 0 4 = some (rv dx R.st tx sx) := hQ.cellsAt 4 0 (by simp)
    have hlQ := hQ.1
    rw [hlen] at htl
    obtain ⟨z, n1, n2⟩ := next_loop (D := .ptr D 0) (step := .int .i64 (step : Nat)) (by omega) k2 hV R.rs 0 (-1) (Nat.zero_le _) List.drop_zero
    rw [show (((0 : Nat) : Int)) = 0 from rfl] at n1
    obtain ⟨i0, r0, e1, e2⟩ := ready_ex hF hn ha hc (by omega)
    have n3 : ∃ (j : Nat) (u : RT), R.rs[j]? = some u ∧ u.ph = 1 ∧ z = j := by
      rcases n2 with q | ⟨_, q⟩
      · exact q
      · exact absurd e2 (q r0 (List.mem_of_getElem? e1))
    obtain ⟨j, u, u1, u2, rfl⟩ := n3
    have hjl := (List.getElem?_eq_some_iff.1 u1).1
    have ht : ts[j]? = some (ts[j]'(by omega)) := List.getElem?_eq_getElem _
    generalize ts[j]'(by omega) = t at *
    have hutr : u.tr = 0 := by
      rcases hF.semi.each j t u ht u1 with q | q | q
      · rw [q] at u2; cases u2
      · exact q.2.1
      · exact q.2
    have hmay : mayM R (j : Int) = 0 := by
      unfold mayM
      rw [if_neg (by omega), if_pos hst0]
    have hlease : leaseM R (j : Int) 1 5 = ({ R with rs := R.rs.set j ⟨2, 1, w64 (5 + t.wait), u.dat⟩ }, 0) := by
      unfold leaseM
      rw [if_pos hmay, Int.toNat_natCast, u1, hF.semi.eq, ht]
      simp only
      rw [if_pos u2, hutr, if_pos (by decide)]
    have hL := lease_c hV hk (j : Int) 1 5
    rw [hlease] at hL
    obtain ⟨dx1, xs1, tx1, sx1, H1, l1, l2, l3, l4⟩ := hL
    simp only at l1 l2
    have ones1 : (rv dx1 R.st tx1 sx1).all oneC = true := by simp [l2.v.d.row.one, l2.t.rl.one, l2.s.oneX, oneC_i]
    have o2 := al_out H1 (rv dx1 R.st tx1 sx1) 47 0
    have cX := al_cs H1 (rv dx1 R.st tx1 sx1) 47 0
    have stX : st 4 (.ptr H1.next 0) (.agg (rv dx1 R.st tx1 sx1)) (al H1 [.slice0, (.int .i64 0), .slice0, .slice0] 47 0) = some (al H1 (rv dx1 R.st tx1 sx1) 47 0) := st_alN ones1 rfl rfl (by decide) rfl
    have hn2 : (al H1 (rv dx1 R.st tx1 sx1) 47 0).next = H1.next + 1 := rfl
    generalize hA2 : al H1 (rv dx1 R.st tx1 sx1) 47 0 = H2 at *
    have kX : cellsAt H2 H1.next 0 4 = some (rv dx1 R.st tx1 sx1) := cX.cellsAt 4 0 (by simp)
    have hV1 := l2.v.out0 o2
    have hk1 := hk.set j ⟨2, 1, w64 (5 + t.wait), u.dat⟩
    have hg1 : (R.rs.set j ⟨2, 1, w64 (5 + t.wait), u.dat⟩)[j]? = some ⟨2, 1, w64 (5 + t.wait), u.dat⟩ := List.getElem?_set_self hjl
    have hheld : heldM { R with rs := R.rs.set j ⟨2, 1, w64 (5 + t.wait), u.dat⟩ } (j : Int) 1 = 0 := by
      unfold heldM
      have hm1 : mayM { R with rs := R.rs.set j ⟨2, 1, w64 (5 + t.wait), u.dat⟩ } (j : Int) = 0 := by
        unfold mayM
        simp only [List.length_set]
        rw [if_neg (by omega), if_pos hst0]
      rw [if_pos hm1, Int.toNat_natCast]
      simp only
      rw [hg1]; rfl
    have hdone : doneM { R with rs := R.rs.set j ⟨2, 1, w64 (5 + t.wait), u.dat⟩ } (j : Int) 1 [] = (settleM { R with rs := R.rs.set j ⟨3, 1, 0, []⟩ }, 0) := by
      unfold doneM
      rw [if_pos hheld, Int.toNat_natCast]
      simp only [List.set_set]
    have hDn := done_c hV1 hk1 (j : Int) 1 []
    rw [hdone] at hDn
    obtain ⟨dx3, xs3, tx3, sx3, H3, d1, d2, d3, d4⟩ := hDn
    simp only at d1 d2
    have hF2 : Full ts (settleM { R with rs := R.rs.set j ⟨3, 1, 0, []⟩ }) := settle_full (set_semi hF.semi j _ rfl) hon
    have hu0 : u3 u = false := by unfold u3; rw [u2]; rfl
    have hcnt2 : (R.rs.set j ⟨3, 1, 0, []⟩).countP u3 = step + 1 := by rw [set_cnt u1 hu0 rfl, hcnt]
    have hts : R.ts = ts := hF.semi.eq
    have hlen2 : ({ R with rs := R.rs.set j ⟨3, 1, 0, []⟩ } : Rn).rs.length = ({ R with rs := R.rs.set j ⟨3, 1, 0, []⟩ } : Rn).ts.length := by
      show (R.rs.set j _).length = R.ts.length
      rw [List.length_set, hts]; exact hlen
    have hc3 : (settleM { R with rs := R.rs.set j ⟨3, 1, 0, []⟩ }).rs.countP u3 = step + 1 := by rw [cnt_map (settle_u3 hlen2)]; exact hcnt2
    have hs3 : (settleM { R with rs := R.rs.set j ⟨3, 1, 0, []⟩ }).st = if step + 1 = ts.length then 1 else 0 := by
      rw [settle_st]
      simp only [List.length_set]
      rw [hcnt2, hlen, hst0]
    have hk3 : Okr (settleM { R with rs := R.rs.set j ⟨3, 1, 0, []⟩ }) := by
      have hlz := settle_len hlen2
      have e1 : (settleM { R with rs := R.rs.set j ⟨3, 1, 0, []⟩ }).ts = R.ts := rfl
      have e2 : (settleM { R with rs := R.rs.set j ⟨3, 1, 0, []⟩ }).sg = R.sg := rfl
      have e3 : (settleM { R with rs := R.rs.set j ⟨3, 1, 0, []⟩ }).rs.length = R.rs.length := by rw [hlz]; exact List.length_set
      exact ⟨⟨by rw [e1]; exact hk.sm.n, by rw [e1]; exact hk.sm.a, by rw [e3]; exact hk.sm.r, by rw [e2]; exact hk.sm.s⟩, by rw [e3, e1]; exact hk.len, by rw [e1]; exact hk.aft⟩
    generalize settleM { R with rs := R.rs.set j ⟨3, 1, 0, []⟩ } = R3 at *
    have ones3 : (rv dx3 R3.st tx3 sx3).all oneC = true := by simp [d2.v.d.row.one, d2.t.rl.one, d2.s.oneX, oneC_i]
    have o4 := al_out H3 (rv dx3 R3.st tx3 sx3) 47 0
    have cY := al_cs H3 (rv dx3 R3.st tx3 sx3) 47 0
    have stY : st 4 (.ptr H3.next 0) (.agg (rv dx3 R3.st tx3 sx3)) (al H3 [.slice0, (.int .i64 0), .slice0, .slice0] 47 0) = some (al H3 (rv dx3 R3.st tx3 sx3) 47 0) := st_alN ones3 rfl rfl (by decide) rfl
    generalize hA4 : al H3 (rv dx3 R3.st tx3 sx3) 47 0 = H4 at *
    have kY : cellsAt H4 H3.next 0 4 = some (rv dx3 R3.st tx3 sx3) := cY.cellsAt 4 0 (by simp)
    have o04 : Out [] H H4 := ((l3.trans o2).trans d3).trans o4
    obtain ⟨H5, w1, w2, w3, w4⟩ := stAll (n := 4) (vs := rv dx3 R3.st tx3 sx3) (hQ.out o04 (by simp)) rfl rfl ones3
    have o05 : Out [Q] H H5 := (o04.mono fun j hj => by cases hj).trans w3
    have hn1' := l3.nx
    have hn5 := o05.nx
    obtain ⟨H', i1, i2⟩ := ends_loop hn1 hn ha hc hon hDQ m (step + 1) H5 dx3 tx3 sx3 xs3 R3 (by omega) (by rw [o05.cellAt hDl (by rw [List.mem_singleton]; exact hDQ)]; exact hD) (by omega) (hRD.out o05 fun j hj => by rw [List.mem_singleton]; intro e; subst e; exact hQD hj) hQD w2 ((d2.v.out0 o4).out w3 fun j hj => by rw [List.mem_singleton]; have := d4 j hj; omega) hk3 hF2 hc3 hs3
    refine ⟨H', fun j86 => ?_, i2⟩
    have dz : decide (((j : Nat) : Int) < 0) = false := decide_eq_false (by omega)
    have d0 : ((0 : Int) != 0) = false := rfl
    rw [ql_outriderlaw16_RunEnds1]
    simp (disch := (first | assumption | omega | (simp only [k_d, k_c, Nat.reduceAdd, Nat.reduceLeDiff, Nat.reduceLT] <;> fail) | (simp only [k_c]; omega) | (simp only [k_d, k_c, Nat.reduceAdd, Nat.reduceLeDiff, Nat.reduceLT, *] <;> fail) | fail)) only [bl_outriderlaw16_RunEnds1, hD, hdl, lt_t h1, k1, k2, htl, d0, n1, k4, l1, stX, kX, d1, stY, dz, kY, w1, es, i1, k_a, k_b, Nat.reduceAdd, k_s, k_x, Int.reduceBEq, Int.reduceBNe, Int.reduceLT, Int.reduceLE, Int.reduceGT, Int.reduceGE, Int.reduceNeg]
theorem new_full {ts : List Tk} (hon : ∀ t ∈ ts, t.on = []) (h1 : 1 ≤ ts.length) : Full ts (settleM ⟨ts, 0, List.replicate ts.length rt0, []⟩) ∧ (settleM ⟨ts, 0, List.replicate ts.length rt0, []⟩).rs.countP u3 = 0 ∧ (settleM ⟨ts, 0, List.replicate ts.length rt0, []⟩).st = 0 := by
  have hlen : (⟨ts, 0, List.replicate ts.length rt0, []⟩ : Rn).rs.length = (⟨ts, 0, List.replicate ts.length rt0, []⟩ : Rn).ts.length := by simp
  have hc : (List.replicate ts.length rt0).countP u3 = 0 := by
    rw [List.countP_eq_zero]
    intro a ha
    rw [List.mem_replicate] at ha
    rw [ha.2]; simp [u3]
  refine ⟨settle_full ⟨rfl, rfl, by simp, fun i t r ht hr => ?_⟩ hon, ?_, ?_⟩
  · have := List.mem_of_getElem? hr
    rw [List.mem_replicate] at this
    rw [this.2]; exact .inr (.inr ⟨rfl, rfl⟩)
  · rw [cnt_map (settle_u3 hlen)]; exact hc
  · rw [settle_st]
    simp only [List.length_replicate]
    rw [hc, if_neg (by omega)]
theorem parse_c0 {text : Str} {H : Hp} (hg : Gl H) : ∃ dx xs H', cK (.func (.func 9) [] []) [.str text] H = some (.tuple [dv dx, .int .i64 (parseM text).2], H') ∧ RD H' dx xs (parseM text).1 ∧ Out [] H H' ∧ ∀ j ∈ fpD dx xs, H.next ≤ j := by
  by_cases hl : text.length ≤ 4294967296
  · exact parse_c hg hl
  have o1 := al_out H [.slice0] 25 0
  have d : decide ((1024 : Int) < (text.length : Int)) = true := decide_eq_true (by omega)
  have hst : st 1 (.ptr H.next 0) (.agg [.slice0]) (al H [.slice0] 25 0) = some (al H [.slice0] 25 0) := st_alN rfl rfl rfl (by decide) rfl
  unfold parseM
  rw [if_pos (by omega)]
  refine ⟨.slice0, [], al H [.slice0] 25 0, c_def_Parse ?_, RD.nil _, o1, fun j hj => by cases hj⟩
  unfold s_def_Parse
  simp (disch := (first | assumption | omega | (simp only [k_d, k_c, Nat.reduceAdd, Nat.reduceLeDiff, Nat.reduceLT] <;> fail) | (simp only [k_c]; omega) | (simp only [k_d, k_c, Nat.reduceAdd, Nat.reduceLeDiff, Nat.reduceLT, *] <;> fail) | fail)) only [d, hst, k_a, k_b, Nat.reduceAdd, k_s, k_x, Int.reduceBEq, Int.reduceBNe, Int.reduceLT, Int.reduceLE, Int.reduceGT, Int.reduceGE, Int.reduceNeg]
theorem ends_c {text : Str} {H : Hp} (hT : hasT H begin0) (hnx : 11 ≤ H.next) : ∃ H', cK (.func (.func 4) [] []) [.str text] H = some (.bool true, H') := by
  have haw := awake_c2 an hT hnx
  have hg := Gl.of hT hnx
  obtain ⟨dx, xs, H1, p1, p2, p3, p4⟩ := parse_c0 (text := text) hg
  have hdx1 := p2.row.one
  have o1 := al_out H1 [dx] 25 0
  have cA := al_cs H1 [dx] 25 0
  have hR1 := p2.out0 o1
  have hnA : (al H1 [dx] 25 0).next = H1.next + 1 := rfl
  have st0 : st 1 (.ptr H1.next 0) (.agg [dx]) (al H1 [.slice0] 25 0) = some (al H1 [dx] 25 0) := st_alN (by simp [hdx1]) rfl rfl (by decide) rfl
  generalize hA : al H1 [dx] 25 0 = A at *
  by_cases hbig : 600 < text.length
  · have d : decide ((600 : Int) < (text.length : Int)) = true := decide_eq_true (by omega)
    refine ⟨A, c_outriderlaw16_RunEnds ?_⟩
    unfold s_outriderlaw16_RunEnds
    simp (disch := (first | assumption | omega | (simp only [k_d, k_c, Nat.reduceAdd, Nat.reduceLeDiff, Nat.reduceLT] <;> fail) | (simp only [k_c]; omega) | (simp only [k_d, k_c, Nat.reduceAdd, Nat.reduceLeDiff, Nat.reduceLT, *] <;> fail) | fail)) only [haw, d, p1, st0, k_a, k_b, Nat.reduceAdd, k_s, k_x, Int.reduceBEq, Int.reduceBNe, Int.reduceLT, Int.reduceLE, Int.reduceGT, Int.reduceGE, Int.reduceNeg]
  have d : decide ((600 : Int) < (text.length : Int)) = false := decide_eq_false (by omega)
  by_cases he : (parseM text).2 ≠ 0
  · have d2 : ((parseM text).2 != 0) = true := by simp [he]
    refine ⟨A, c_outriderlaw16_RunEnds ?_⟩
    unfold s_outriderlaw16_RunEnds
    simp (disch := (first | assumption | omega | (simp only [k_d, k_c, Nat.reduceAdd, Nat.reduceLeDiff, Nat.reduceLT] <;> fail) | (simp only [k_c]; omega) | (simp only [k_d, k_c, Nat.reduceAdd, Nat.reduceLeDiff, Nat.reduceLT, *] <;> fail) | fail)) only [haw, d, p1, st0, d2, k_a, k_b, Nat.reduceAdd, k_s, k_x, Int.reduceBEq, Int.reduceBNe, Int.reduceLT, Int.reduceLE, Int.reduceGT, Int.reduceGE, Int.reduceNeg]
  replace he : (parseM text).2 = 0 := Decidable.not_not.1 he
  have d2 : ((parseM text).2 != 0) = false := by simp [he]
  obtain ⟨g1, g2, g3, g4, g5, g6⟩ := parseM_good he
  generalize (parseM text).1 = ts at *
  have hal := after_le g3 g4
  have hDA : cellAt A H1.next 0 = some dx := cA.cellAt rfl
  have hon := fun j33 => on_loop (by omega) hDA hR1 j33 ts 0 (Nat.zero_le _) List.drop_zero
  rw [show (((0 : Nat) : Int)) = 0 from rfl] at hon
  by_cases hq : ∀ t ∈ ts, t.on = []
  · simp only [if_pos hq] at hon
    have kA : cellsAt A H1.next 0 1 = some [dx] := cA.cellsAt 1 0 (by simp)
    have hN := new_c hR1 (by omega) (fun t ht => by have := hal t ht; omega)
    have hnew : newM ts = (settleM ⟨ts, 0, List.replicate ts.length rt0, []⟩, 0) := by unfold newM; rw [if_pos g1]
    rw [hnew] at hN
    obtain ⟨dx3, xs3, tx3, sx3, H3, n1, n2, n3, n4⟩ := hN
    simp only at n1 n2
    obtain ⟨f1, f2, f3⟩ := new_full hq g2
    have hk3 : Okr (settleM ⟨ts, 0, List.replicate ts.length rt0, []⟩) := by
      have hlz := settle_len (R := ⟨ts, 0, List.replicate ts.length rt0, []⟩) (by simp)
      have e3 : (settleM ⟨ts, 0, List.replicate ts.length rt0, []⟩).rs.length = ts.length := by rw [hlz]; simp
      have e1 : (settleM ⟨ts, 0, List.replicate ts.length rt0, []⟩).ts = ts := rfl
      have e2 : (settleM ⟨ts, 0, List.replicate ts.length rt0, []⟩).sg = [] := rfl
      refine ⟨⟨by rw [e1]; omega, fun t ht => by rw [e1] at ht; have := hal t ht; omega, by rw [e3]; omega, by rw [e2]; simp⟩, by rw [e3, e1], fun t ht a haa => ?_⟩
      rw [e1] at ht ⊢
      obtain ⟨i, hi⟩ := List.getElem?_of_mem ht
      have := (aft_all g4 hi).1 a haa
      exact ⟨this.1, by omega⟩
    generalize settleM ⟨ts, 0, List.replicate ts.length rt0, []⟩ = R3 at *
    have ones3 : (rv dx3 R3.st tx3 sx3).all oneC = true := by simp [n2.v.d.row.one, n2.t.rl.one, n2.s.oneX, oneC_i]
    have o4 := al_out H3 (rv dx3 R3.st tx3 sx3) 47 0
    have cY := al_cs H3 (rv dx3 R3.st tx3 sx3) 47 0
    have stY : st 4 (.ptr H3.next 0) (.agg (rv dx3 R3.st tx3 sx3)) (al H3 [.slice0, (.int .i64 0), .slice0, .slice0] 47 0) = some (al H3 (rv dx3 R3.st tx3 sx3) 47 0) := st_alN ones3 rfl rfl (by decide) rfl
    generalize hA4 : al H3 (rv dx3 R3.st tx3 sx3) 47 0 = H4 at *
    have oA4 : Out [] A H4 := n3.trans o4
    have hn3 := n3.nx
    have hn4 := o4.nx
    have hfl := p2.lt
    obtain ⟨H5, i1, i2⟩ := ends_loop (D := H1.next) (Q := H3.next) g2 g3 g4 g5 hq (by omega) ts.length 0 H4 dx3 tx3 sx3 xs3 R3 (by omega) ((cA.out oA4 (by simp)).cellAt rfl) (by omega) (hR1.out0 oA4) (fun z => by have := hfl _ z; omega) cY (n2.v.out0 o4) hk3 f1 f2 (by rw [f3, if_neg (by omega)])
    rw [show (((0 : Nat) : Int)) = 0 from rfl] at i1
    have d0 : ((0 : Int) != 0) = false := rfl
    have d1 : ((1 : Int) == 1) = true := rfl
    refine ⟨H5, c_outriderlaw16_RunEnds ?_⟩
    unfold s_outriderlaw16_RunEnds
    simp (disch := (first | assumption | omega | (simp only [k_d, k_c, Nat.reduceAdd, Nat.reduceLeDiff, Nat.reduceLT] <;> fail) | (simp only [k_c]; omega) | (simp only [k_d, k_c, Nat.reduceAdd, Nat.reduceLeDiff, Nat.reduceLT, *] <;> fail) | fail)) only [haw, d, p1, st0, d2, hon, kA, n1, stY, d0, i1, i2, d1, k_a, k_b, Nat.reduceAdd, k_s, k_x, Int.reduceBEq, Int.reduceBNe, Int.reduceLT, Int.reduceLE, Int.reduceGT, Int.reduceGE, Int.reduceNeg]
  · simp only [if_neg hq] at hon
    refine ⟨A, c_outriderlaw16_RunEnds ?_⟩
    unfold s_outriderlaw16_RunEnds
    simp (disch := (first | assumption | omega | (simp only [k_d, k_c, Nat.reduceAdd, Nat.reduceLeDiff, Nat.reduceLT] <;> fail) | (simp only [k_c]; omega) | (simp only [k_d, k_c, Nat.reduceAdd, Nat.reduceLeDiff, Nat.reduceLT, *] <;> fail) | fail)) only [haw, d, p1, st0, d2, hon, k_a, k_b, Nat.reduceAdd, k_s, k_x, Int.reduceBEq, Int.reduceBNe, Int.reduceLT, Int.reduceLE, Int.reduceGT, Int.reduceGE, Int.reduceNeg]
theorem ends_top {H : Hp} {as' : List AV} {ds : List D} (h : ArgsIs H [.str] as' ds) (hT : hasT H begin0) (hn : 11 ≤ H.next) : ∃ H', cK (.func (.func 4) [] []) as' H = some (.bool true, H') := by
  cases h with
  | cons ha hk =>
    cases hk
    obtain ⟨s, rfl, _, _⟩ := isA_str ha
    exact ends_c hT hn
end Go.Proofs.YthljbjokonglhaaGreatDoor.DfK
