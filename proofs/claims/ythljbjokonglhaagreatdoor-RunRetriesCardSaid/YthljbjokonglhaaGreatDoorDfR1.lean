/- Runs over the symbolic heap: an element of a row set in place; may, held, clone. Conditions: as each states them. -/
import Derived.Test.YthljbjokonglhaaGreatDoorDfD6
namespace Go.Proofs.YthljbjokonglhaaGreatDoor.Am.K
open Go
set_option linter.unusedVariables false
set_option linter.unusedSimpArgs false
theorem setR_left : ∀ (vs c r : List AV) (k : Nat), k + vs.length ≤ c.length → setR (c ++ r) k vs = setR c k vs ++ r
  | [], c, r, k, h => rfl
  | v :: vs, c, r, k, h => by
    simp only [List.length_cons] at h
    show setR ((c ++ r).set k v) (k + 1) vs = setR (c.set k v) (k + 1) vs ++ r
    rw [List.set_append_left _ _ (by omega)]
    exact setR_left vs _ _ _ (by rw [List.length_set]; omega)
theorem setR_right : ∀ (vs a r : List AV) (k : Nat), setR (a ++ r) (a.length + k) vs = a ++ setR r k vs
  | [], a, r, k => rfl
  | v :: vs, a, r, k => by
    show setR ((a ++ r).set (a.length + k) v) (a.length + k + 1) vs = a ++ setR (r.set k v) (k + 1) vs
    rw [List.set_append_right _ _ (by omega), Nat.add_sub_cancel_left, Nat.add_assoc]
    exact setR_right vs _ _ _
theorem flatten_set {es : Nat} {vs : List AV} {k : Nat} (hk : k + vs.length ≤ es) : ∀ {L : List (List AV)} {i : Nat} {c : List AV}, (∀ c ∈ L, c.length = es) → L[i]? = some c → (L.set i (setR c k vs)).flatten = setR L.flatten (i * es + k) vs
  | [], i, c, _, h => by simp at h
  | a :: L, 0, c, hl, h => by
    simp only [List.getElem?_cons_zero, Option.some.injEq] at h
    subst h
    have := hl a (.head _)
    rw [Nat.zero_mul, Nat.zero_add]
    show setR a k vs ++ L.flatten = setR (a ++ L.flatten) k vs
    rw [setR_left _ _ _ _ (by omega)]
  | a :: L, i + 1, c, hl, h => by
    simp only [List.getElem?_cons_succ] at h
    have ha := hl a (.head _)
    show a ++ (L.set i (setR c k vs)).flatten = setR (a ++ L.flatten) ((i + 1) * es + k) vs
    rw [flatten_set hk (fun d hd => hl d (.tail _ hd)) h, Nat.add_mul, Nat.one_mul, show i * es + es + k = a.length + (i * es + k) by omega, setR_right]
/-- cells of one part set in place -/
theorem OL.stAt {H : Hp} {el es : Nat} {x : AV} {L : List (List AV)} (h : OL H el es x L) {i k b o : Nat} {c vs : List AV} (hi : L[i]? = some c) (hia : ∀ kd, ia es x (.int kd i) = some (.ptr b o)) (hv : ∀ v ∈ vs, oneC v = true) (hk : k + vs.length ≤ es) (hes : 0 < es) :
    ∃ H', setCells H b (o + k) vs = some H' ∧ OL H' el es x (L.set i (setR c k vs)) ∧ Out (rid x) H H' ∧ H'.next = H.next := by
  obtain ⟨ho, hl⟩ := h
  have hil := (List.getElem?_eq_some_iff.1 hi).1
  have hfl := flatten_len hl
  have hfs := flatten_set hk hl hi
  have hc := hl c (List.mem_of_getElem? hi)
  have hpos : i * es + es ≤ L.flatten.length := by
    rw [hfl]
    have := Nat.mul_le_mul_right es (show i + 1 ≤ L.length by omega)
    rw [Nat.add_mul, Nat.one_mul] at this
    exact this
  have hL' : ∀ d ∈ L.set i (setR c k vs), d.length = es := fun d hd => by
    rcases List.mem_or_eq_of_mem_set hd with hd | rfl
    · exact hl d hd
    · rw [setR_len]; exact hc
  generalize hF : L.flatten = F at *
  cases ho with
  | nil => simp at hpos; omega
  | emp => simp at hpos; omega
  | @mk i0 off n cap ex _ ct lo hi0 fl hi' hg hf hlo hhi hcap hn hcc hs h1 he =>
    have hin : i < n := by
      rw [hfl] at hn
      exact Nat.eq_of_mul_eq_mul_right hes hn ▸ hil
    have e := hia .i64
    rw [ia_s hin] at e
    injection e with e
    injection e with eb eo
    subst eb
    subst eo
    have hcn : n * es ≤ cap * es := Nat.mul_le_mul_right _ hcap
    obtain ⟨H', c', q1, q2, q3, q4, q5⟩ := setCells_get vs H i0 (off + i * es + k) ct lo hi0 el fl hg hf (by omega) (by omega) (fun m hm => by
      have := hs (i * es + k + m) (by omega)
      rw [show off + i * es + k + m = off + (i * es + k + m) by omega]
      exact this) hv
    refine ⟨H', q1, ⟨?_, hL'⟩, ⟨by omega, fun j hj hn' => q4 j fun e => hn' (by subst e; rw [rid_s he]; exact .head _)⟩, q2⟩
    rw [hfs]
    refine .mk (by omega) q3 hf hlo hhi hcap (by rw [setR_len]; exact hn) (fun m w hm => ?_) (fun m hm => ?_) (fun w hw => ?_) he
    · rw [q5]
      rw [setR_get _ _ _ _ (by omega)] at hm
      split at hm
      · rw [if_pos (by omega), show off + m - (off + i * es + k) = m - (i * es + k) by omega]; exact hm
      · rw [if_neg (by omega)]; exact hcc m w hm
    · rw [q5]
      split
      · rename_i hb
        rw [List.getElem?_eq_getElem (by omega)]; rfl
      · exact hs m hm
    · obtain ⟨m, hm⟩ := List.getElem?_of_mem hw
      rw [setR_get _ _ _ _ (by omega)] at hm
      split at hm
      · exact hv w (List.mem_of_getElem? hm)
      · exact h1 w (List.mem_of_getElem? hm)
theorem OL.st1 {H : Hp} {el es : Nat} {x : AV} {L : List (List AV)} (h : OL H el es x L) {i k b o : Nat} {c : List AV} {v : AV} (hi : L[i]? = some c) (hia : ∀ kd, ia es x (.int kd i) = some (.ptr b o)) (hv : oneC v = true) (hk : k < es) :
    ∃ H', st 1 (.ptr b (o + k)) v H = some H' ∧ OL H' el es x (L.set i (c.set k v)) ∧ Out (rid x) H H' ∧ H'.next = H.next := by
  obtain ⟨H', h1, h2⟩ := h.stAt (k := k) (vs := [v]) hi hia (fun u hu => by rw [List.mem_singleton] at hu; subst hu; exact hv) (by simp only [List.length_cons, List.length_nil]; omega) (by omega)
  refine ⟨H', ?_, h2⟩
  unfold st
  simp only [cellsV_one hv]
  exact h1
theorem OL.stN {H : Hp} {el es : Nat} {x : AV} {L : List (List AV)} (h : OL H el es x L) {i b o : Nat} {vs : List AV} (hi : i < L.length) (hia : ∀ kd, ia es x (.int kd i) = some (.ptr b o)) (hv : vs.all oneC = true) (hn : vs.length = es) (hes : 0 < es) :
    ∃ H', st es (.ptr b o) (.agg vs) H = some H' ∧ OL H' el es x (L.set i vs) ∧ Out (rid x) H H' ∧ H'.next = H.next := by
  have hi' : L[i]? = some L[i] := List.getElem?_eq_getElem hi
  obtain ⟨H', h1, h2⟩ := h.stAt (k := 0) (vs := vs) hi' hia (List.all_eq_true.1 hv) (by omega) hes
  rw [setR_all vs _ (by rw [hn, h.2 _ (List.mem_of_getElem? hi')])] at h2
  refine ⟨H', ?_, h2⟩
  unfold st
  have : Nat.beq es vs.length = true := by rw [hn]; exact Nat.beq_refl _
  simp only [cellsV_agg, this, cond_true]
  exact h1
end Go.Proofs.YthljbjokonglhaaGreatDoor.Am.K
namespace Go.Proofs.YthljbjokonglhaaGreatDoor.DfK
open Go Am Am.K DfEnv DfM LibP DfG
set_option linter.unusedVariables false
set_option linter.unusedSimpArgs false
set_option maxRecDepth 10000
set_option maxHeartbeats 1000000
/-- how far a task is -/
structure RT where
  ph : Int
  tr : Int
  til : Int
  dat : Str
  deriving DecidableEq
def rtC (t : RT) : List AV := [.int .i64 t.ph, .int .i64 t.tr, .int .i64 t.til, .str t.dat]
def rts (l : List RT) : List (List AV) := l.map rtC
/-- a run -/
structure Rn where
  ts : List Tk
  st : Int
  rs : List RT
  sg : List Str
abbrev rv (dx : AV) (st : Int) (tx sx : AV) : List AV := [dx, .int .i64 st, tx, sx]
structure RV (H : Hp) (dx : AV) (xs : List AV) (tx sx : AV) (R : Rn) : Prop where
  d : RD H dx xs R.ts
  t : RL H 4 tx (rts R.rs)
  s : Rw H 1 sx (strs R.sg)
def fpR (dx : AV) (xs : List AV) (tx sx : AV) : List Nat := fpD dx xs ++ (rid tx ++ rid sx)
theorem RV.out {H H' : Hp} {dx tx sx : AV} {xs : List AV} {R : Rn} {S : List Nat} (h : RV H dx xs tx sx R) (k : Out S H H') (hs : ∀ j ∈ fpR dx xs tx sx, j ∉ S) : RV H' dx xs tx sx R :=
  ⟨h.d.out k fun j hj => hs j (List.mem_append_left _ hj), h.t.out k fun j hj => hs j (List.mem_append_right _ (List.mem_append_left _ hj)), h.s.out k fun j hj => hs j (List.mem_append_right _ (List.mem_append_right _ hj))⟩
theorem RV.out0 {H H' : Hp} {dx tx sx : AV} {xs : List AV} {R : Rn} (h : RV H dx xs tx sx R) (k : Out [] H H') : RV H' dx xs tx sx R := h.out k fun _ _ q => by cases q
theorem RV.lt {H : Hp} {dx tx sx : AV} {xs : List AV} {R : Rn} (h : RV H dx xs tx sx R) : ∀ j ∈ fpR dx xs tx sx, j < H.next := fun j hj => by
  rcases List.mem_append.1 hj with hj | hj
  · exact h.d.lt j hj
  · rcases List.mem_append.1 hj with hj | hj
    · exact h.t.1.lt j hj
    · exact h.s.lt j hj
theorem rts_len (l : List RT) : (rts l).length = l.length := by simp [rts]
theorem rts_get {l : List RT} {i : Nat} {t : RT} (h : l[i]? = some t) : (rts l)[i]? = some (rtC t) := by simp [rts, h]
theorem RV.tlen {H : Hp} {dx tx sx : AV} {xs : List AV} {R : Rn} (h : RV H dx xs tx sx R) : lenx tx = some (.int .i64 (R.rs.length : Nat)) := by
  have := h.t.len (by decide)
  rw [rts_len] at this; exact this
theorem rt_len (t : RT) : (rtC t).length = 4 := rfl
theorem fd_rt (t : RT) : (rtC t)[0]? = some (.int .i64 t.ph) ∧ (rtC t)[1]? = some (.int .i64 t.tr) ∧ (rtC t)[2]? = some (.int .i64 t.til) ∧ (rtC t)[3]? = some (.str t.dat) := ⟨rfl, rfl, rfl, rfl⟩
theorem st_rt (t : RT) (H : Hp) : st 4 (.ptr H.next 0) (.agg (rtC t)) (al H [(.int .i64 0), (.int .i64 0), (.int .i64 0), (.str [])] 51 0) = some (al H (rtC t) 51 0) :=
  st_alN rfl rfl rfl (by decide) rfl
/-! may, held -/
def mayM (R : Rn) (task : Int) : Int := if task < 0 ∨ (R.rs.length : Int) ≤ task then 1 else if R.st = 0 then 0 else 9
theorem may_c {H : Hp} {dx tx sx : AV} {xs : List AV} {R : Rn} (h : RV H dx xs tx sx R) (task : Int) :
    cK (.func (.func 46) [] []) [.agg (rv dx R.st tx sx), .int .i64 task] H = some (.int .i64 (mayM R task), al H (rv dx R.st tx sx) 47 0) := by
  refine c__run_Run_may ?_
  have hl := h.tlen
  have c := al_cs H (rv dx R.st tx sx) 47 0
  have hbx : bx 47 (.agg (rv dx R.st tx sx)) H = some (H.next, al H (rv dx R.st tx sx) 47 0) := bx_alA (by simp)
  have k1 : cellAt (al H (rv dx R.st tx sx) 47 0) H.next 1 = some (.int .i64 R.st) := c.cellAt rfl
  have k2 : cellAt (al H (rv dx R.st tx sx) 47 0) H.next 2 = some tx := c.cellAt rfl
  generalize al H (rv dx R.st tx sx) 47 0 = H1 at *
  unfold s__run_Run_may mayM
  by_cases h1 : task < 0
  · have d1 : decide (task < 0) = true := decide_eq_true h1
    rw [if_pos (.inl h1)]
    simp (disch := (first | assumption | omega | (simp only [k_d, k_c, Nat.reduceAdd, Nat.reduceLeDiff, Nat.reduceLT] <;> fail) | (simp only [k_c]; omega) | (simp only [k_d, k_c, Nat.reduceAdd, Nat.reduceLeDiff, Nat.reduceLT, *] <;> fail) | fail)) only [hbx, d1, k_a, k_b, Nat.reduceAdd, k_s, k_x, Int.reduceBEq, Int.reduceBNe, Int.reduceLT, Int.reduceLE, Int.reduceGT, Int.reduceGE, Int.reduceNeg]
  · have d1 : decide (task < 0) = false := decide_eq_false h1
    by_cases h2 : (R.rs.length : Int) ≤ task
    · have d2 : decide ((R.rs.length : Int) ≤ task) = true := decide_eq_true h2
      rw [if_pos (.inr h2)]
      simp (disch := (first | assumption | omega | (simp only [k_d, k_c, Nat.reduceAdd, Nat.reduceLeDiff, Nat.reduceLT] <;> fail) | (simp only [k_c]; omega) | (simp only [k_d, k_c, Nat.reduceAdd, Nat.reduceLeDiff, Nat.reduceLT, *] <;> fail) | fail)) only [hbx, d1, d2, k1, k2, hl, k_a, k_b, Nat.reduceAdd, k_s, k_x, Int.reduceBEq, Int.reduceBNe, Int.reduceLT, Int.reduceLE, Int.reduceGT, Int.reduceGE, Int.reduceNeg]
    · have d2 : decide ((R.rs.length : Int) ≤ task) = false := decide_eq_false h2
      rw [if_neg (fun q => q.elim h1 h2)]
      by_cases h3 : R.st = 0
      · have d3 : (R.st != 0) = false := by simp [h3]
        rw [if_pos h3]
        simp (disch := (first | assumption | omega | (simp only [k_d, k_c, Nat.reduceAdd, Nat.reduceLeDiff, Nat.reduceLT] <;> fail) | (simp only [k_c]; omega) | (simp only [k_d, k_c, Nat.reduceAdd, Nat.reduceLeDiff, Nat.reduceLT, *] <;> fail) | fail)) only [hbx, d1, d2, d3, k1, k2, hl, k_a, k_b, Nat.reduceAdd, k_s, k_x, Int.reduceBEq, Int.reduceBNe, Int.reduceLT, Int.reduceLE, Int.reduceGT, Int.reduceGE, Int.reduceNeg]
      · have d3 : (R.st != 0) = true := by simp [h3]
        rw [if_neg h3]
        simp (disch := (first | assumption | omega | (simp only [k_d, k_c, Nat.reduceAdd, Nat.reduceLeDiff, Nat.reduceLT] <;> fail) | (simp only [k_c]; omega) | (simp only [k_d, k_c, Nat.reduceAdd, Nat.reduceLeDiff, Nat.reduceLT, *] <;> fail) | fail)) only [hbx, d1, d2, d3, k1, k2, hl, k_a, k_b, Nat.reduceAdd, k_s, k_x, Int.reduceBEq, Int.reduceBNe, Int.reduceLT, Int.reduceLE, Int.reduceGT, Int.reduceGE, Int.reduceNeg]
theorem may_ok {R : Rn} {task : Int} (h : mayM R task = 0) : ∃ (i : Nat) (t : RT), task = i ∧ R.rs[i]? = some t ∧ R.st = 0 := by
  unfold mayM at h
  split at h
  · cases h
  · rename_i h1
    rw [not_or] at h1
    split at h
    · rename_i h2
      exact ⟨task.toNat, R.rs[task.toNat]'(by omega), by omega, List.getElem?_eq_getElem _, h2⟩
    · cases h
def heldM (R : Rn) (task try_ : Int) : Int := if mayM R task = 0 then (match R.rs[task.toNat]? with | some t => if t.ph = 2 ∧ t.tr = try_ then 0 else 8 | none => 0) else mayM R task
theorem held_c {H : Hp} {dx tx sx : AV} {xs : List AV} {R : Rn} (h : RV H dx xs tx sx R) (task try_ : Int) :
    ∃ H', cK (.func (.func 47) [] []) [.agg (rv dx R.st tx sx), .int .i64 task, .int .i64 try_] H = some (.int .i64 (heldM R task try_), H') ∧ Out [] H H' := by
  have c := al_cs H (rv dx R.st tx sx) 47 0
  have o1 := al_out H (rv dx R.st tx sx) 47 0
  have hbx : bx 47 (.agg (rv dx R.st tx sx)) H = some (H.next, al H (rv dx R.st tx sx) 47 0) := bx_alA (by simp)
  have k0 : cellsAt (al H (rv dx R.st tx sx) 47 0) H.next 0 4 = some (rv dx R.st tx sx) := c.cellsAt 4 0 (by simp)
  have hm := may_c (h.out0 o1) task
  have o2 := al_out (al H (rv dx R.st tx sx) 47 0) (rv dx R.st tx sx) 47 0
  have c2 := c.out o2 (by simp)
  have o12 := o1.trans o2
  generalize al H (rv dx R.st tx sx) 47 0 = H1 at *
  generalize al H1 (rv dx R.st tx sx) 47 0 = H2 at *
  have k2 : cellAt H2 H.next 2 = some tx := c2.cellAt rfl
  by_cases h0 : mayM R task = 0
  · obtain ⟨i, t, rfl, ht, hst⟩ := may_ok h0
    have d0 : (mayM R (i : Int) != 0) = false := by simp [h0]
    obtain ⟨b, o, q1, q2, q3, q4, q5⟩ := (h.t.out0 o12).at (by decide) (rts_get ht)
    have hsr := st_rt t H2
    obtain ⟨e0, e1, e2, e3⟩ := fd_rt t
    have o3 := al_out H2 (rtC t) 51 0
    refine ⟨al H2 (rtC t) 51 0, c__run_Run_held ?_, o12.trans o3⟩
    unfold s__run_Run_held heldM
    rw [if_pos h0, Int.toNat_natCast, ht]
    simp only
    by_cases p1 : t.ph = 2
    · have d1 : (t.ph != 2) = false := by simp [p1]
      by_cases p2 : t.tr = try_
      · have d2 : (t.tr != try_) = false := by simp [p2]
        rw [if_pos ⟨p1, p2⟩]
        simp (disch := (first | assumption | omega | (simp only [k_d, k_c, Nat.reduceAdd, Nat.reduceLeDiff, Nat.reduceLT] <;> fail) | (simp only [k_c]; omega) | (simp only [k_d, k_c, Nat.reduceAdd, Nat.reduceLeDiff, Nat.reduceLT, *] <;> fail) | fail)) only [hbx, k0, hm, d0, k2, q1, q4, hsr, e0, e1, d1, d2, k_a, k_b, Nat.reduceAdd, k_s, k_x, Int.reduceBEq, Int.reduceBNe, Int.reduceLT, Int.reduceLE, Int.reduceGT, Int.reduceGE, Int.reduceNeg]
      · have d2 : (t.tr != try_) = true := by simp [p2]
        rw [if_neg (fun q => p2 q.2)]
        simp (disch := (first | assumption | omega | (simp only [k_d, k_c, Nat.reduceAdd, Nat.reduceLeDiff, Nat.reduceLT] <;> fail) | (simp only [k_c]; omega) | (simp only [k_d, k_c, Nat.reduceAdd, Nat.reduceLeDiff, Nat.reduceLT, *] <;> fail) | fail)) only [hbx, k0, hm, d0, k2, q1, q4, hsr, e0, e1, d1, d2, k_a, k_b, Nat.reduceAdd, k_s, k_x, Int.reduceBEq, Int.reduceBNe, Int.reduceLT, Int.reduceLE, Int.reduceGT, Int.reduceGE, Int.reduceNeg]
    · have d1 : (t.ph != 2) = true := by simp [p1]
      rw [if_neg (fun q => p1 q.1)]
      simp (disch := (first | assumption | omega | (simp only [k_d, k_c, Nat.reduceAdd, Nat.reduceLeDiff, Nat.reduceLT] <;> fail) | (simp only [k_c]; omega) | (simp only [k_d, k_c, Nat.reduceAdd, Nat.reduceLeDiff, Nat.reduceLT, *] <;> fail) | fail)) only [hbx, k0, hm, d0, k2, q1, q4, hsr, e0, e1, d1, k_a, k_b, Nat.reduceAdd, k_s, k_x, Int.reduceBEq, Int.reduceBNe, Int.reduceLT, Int.reduceLE, Int.reduceGT, Int.reduceGE, Int.reduceNeg]
  · have d0 : (mayM R task != 0) = true := by simp [h0]
    refine ⟨H2, c__run_Run_held ?_, o12⟩
    unfold s__run_Run_held heldM
    rw [if_neg h0]
    simp (disch := (first | assumption | omega | (simp only [k_d, k_c, Nat.reduceAdd, Nat.reduceLeDiff, Nat.reduceLT] <;> fail) | (simp only [k_c]; omega) | (simp only [k_d, k_c, Nat.reduceAdd, Nat.reduceLeDiff, Nat.reduceLT, *] <;> fail) | fail)) only [hbx, k0, hm, d0, k_a, k_b, Nat.reduceAdd, k_s, k_x, Int.reduceBEq, Int.reduceBNe, Int.reduceLT, Int.reduceLE, Int.reduceGT, Int.reduceGE, Int.reduceNeg]
theorem held_ok {R : Rn} {task try_ : Int} (h : heldM R task try_ = 0) : ∃ (i : Nat) (t : RT), task = i ∧ R.rs[i]? = some t ∧ R.st = 0 ∧ t.ph = 2 ∧ t.tr = try_ := by
  unfold heldM at h
  split at h
  · rename_i h1
    obtain ⟨i, t, rfl, ht, hst⟩ := may_ok h1
    rw [Int.toNat_natCast, ht] at h
    simp only at h
    split at h
    · rename_i h2; exact ⟨i, t, rfl, ht, hst, h2.1, h2.2⟩
    · cases h
  · rename_i h1; exact absurd h h1
end Go.Proofs.YthljbjokonglhaaGreatDoor.DfK
