/- What def.Parse does, as a contract over the symbolic heap: its words, its tasks. Conditions: the listed variables hold what the row says. -/
import Derived.Test.YthljbjokonglhaaGreatDoorDfD3
namespace Go.Proofs.YthljbjokonglhaaGreatDoor.DfK
open Go Am Am.K DfEnv DfM LibP DfG
set_option linter.unusedVariables false
set_option linter.unusedSimpArgs false
set_option maxRecDepth 10000
/-- the places of texts among names -/
def placesM (names : List Str) : List Str → Option (List Int)
  | [] => some []
  | s :: r => match names.findIdx? (fun a => s == a) with
    | some i => (placesM names r).map fun l => (i : Int) :: l
    | none => none
abbrev kAfter : Str := [97, 102, 116, 101, 114]
abbrev kRetry : Str := [114, 101, 116, 114, 121]
abbrev kWait : Str := [119, 97, 105, 116]
abbrev kBase : Str := [98, 97, 115, 101]
abbrev kOn : Str := [111, 110]
/-- a task with one thing set; none: it may not -/
noncomputable def setM (t : Tk) (key value : Str) (names : List Str) : Option Tk :=
  if key = kAfter then (placesM names (spl 44 value)).map fun l => { t with after := t.after ++ l }
  else if key = kRetry then (numM value).map fun (n : Nat) => { t with retry := n }
  else if key = kWait then (numM value).map fun (n : Nat) => { t with wait := n }
  else if key = kBase then (numM value).map fun (n : Nat) => { t with base := n }
  else if key = kOn then (if value = [] then none else some { t with on := value })
  else (numM value).map fun _ => t
/-- a task that is being read: its cells, and its own row -/
structure TO (H : Hp) (p : Nat) (t : Tk) (x : AV) : Prop where
  c : Cs H p (tkC t x) 43 0
  o : Ow H 3 1 x (ints t.after)
  ne : p ∉ rid x
theorem TO.out0 {H H' : Hp} {p : Nat} {t : Tk} {x : AV} (h : TO H p t x) (k : Out [] H H') : TO H' p t x := ⟨h.c.out k (by simp), h.o.out k (by simp), h.ne⟩
theorem TO.st {H : Hp} {p : Nat} {t : Tk} {x : AV} (h : TO H p t x) (o : Nat) (ho : o < 6) (v : AV) (hv : oneC v = true) (t' : Tk) (ht : (tkC t x).set o v = tkC t' x) (ha : t'.after = t.after) :
    ∃ H', st 1 (.ptr p o) v H = some H' ∧ TO H' p t' x ∧ Out [p] H H' := by
  obtain ⟨H', w1, w2, w3, w4⟩ := st1 h.c (by decide) (o := o) (by rw [tk_len]; exact ho) hv
  rw [ht] at w2
  exact ⟨H', w1, ⟨w2, by rw [ha]; exact h.o.out w3 fun j hj => by rw [List.mem_singleton]; intro e; subst e; exact h.ne hj, h.ne⟩, w3⟩
theorem set_loop {names : List Str} {nx sx : AV} {p : Nat} {parts : List Str} (hnn : names.length ≤ 100000) (hpl : parts.length ≤ 100000) : ∀ (r : List Str) (i : Nat) (H : Hp) (t : Tk) (x : AV), i ≤ parts.length → parts.drop i = r → Rw H 1 nx (strs names) → Rw H 1 sx (strs parts) → TO H p t x → (∀ j, j ∈ rid nx ∨ j ∈ rid sx → j ≠ p ∧ j ∉ rid x) → t.after.length + r.length ≤ 200000 →
    ∃ H', Out (p :: rid x) H H' ∧ ((∃ l x', placesM names r = some l ∧ (∀ (j13 : K.Fn 1) (j19 : K.Fn 0), l_def_Task_set JN GO cK j13 j19 (.ptr p 0) nx sx (.int .i64 (parts.length : Nat)) (.int .i64 (i : Nat)) H = j19 H') ∧ TO H' p { t with after := t.after ++ l } x' ∧ ∀ j ∈ rid x', j ∈ rid x ∨ H.next ≤ j) ∨
      (placesM names r = none ∧ ∀ (j13 : K.Fn 1) (j19 : K.Fn 0), l_def_Task_set JN GO cK j13 j19 (.ptr p 0) nx sx (.int .i64 (parts.length : Nat)) (.int .i64 (i : Nat)) H = some (.bool false, H')))
  | [], i, H, t, x, hi, h, hnx, hsx, hT, hd, hal => by
    obtain rfl := drop_nil hi h
    refine ⟨H, Out.refl _ _, .inl ⟨[], x, rfl, fun j13 j19 => ?_, by simpa using hT, fun j hj => .inl hj⟩⟩
    rw [ql_def_Task_set]
    simp only [bl_def_Task_set, lt_f, k_s, k_x, Int.reduceBEq, Int.reduceBNe, Int.reduceLT, Int.reduceLE, Int.reduceGT, Int.reduceGE, Int.reduceNeg]
  | s :: r, i, H, t, x, hi, h, hnx, hsx, hT, hd, hal => by
    obtain ⟨h1, h2, h3⟩ := hd_drop h
    obtain ⟨q, q1, q2⟩ := hsx.ia1 (strs_get h2) .i64
    have es := wrap_s h1 (by omega)
    have hidx := indexstring_c hnx (by omega) s
    simp only [List.length_cons] at hal
    unfold placesM
    cases hf : names.findIdx? (fun a => s == a) with
    | none =>
      rw [hf] at hidx
      have d : decide (ixo none < 0) = true := rfl
      refine ⟨H, Out.refl _ _, .inr ⟨rfl, fun j13 j19 => ?_⟩⟩
      rw [ql_def_Task_set]
      simp (disch := (first | assumption | omega | (simp only [k_d, k_c, Nat.reduceAdd, Nat.reduceLeDiff, Nat.reduceLT] <;> fail) | (simp only [k_c]; omega) | (simp only [k_d, k_c, Nat.reduceAdd, Nat.reduceLeDiff, Nat.reduceLT, *] <;> fail) | fail)) only [bl_def_Task_set, lt_t h1, q1, q2, hidx, d, k_a, k_b, Nat.reduceAdd, k_s, k_x, Int.reduceBEq, Int.reduceBNe, Int.reduceLT, Int.reduceLE, Int.reduceGT, Int.reduceGE, Int.reduceNeg]
    | some m =>
      rw [hf] at hidx
      have d : decide (ixo (some m) < 0) = false := decide_eq_false (by show ¬ ((m : Int) < 0); omega)
      have hix : ixo (some m) = (m : Int) := rfl
      rw [hix] at hidx d
      have hcx : cellAt H p 1 = some x := hT.c.cellAt rfl
      have hpl' := hT.c.1
      obtain ⟨x1, H1, p1, p2, p3, p4, p5⟩ := push_ok (el2 := 3) (z := [(.int .i64 0)]) (vs := [.int .i64 (m : Int)]) hT.o rfl rfl (by decide) (by rw [ints_len]; simp; omega)
      have hp2 : ints t.after ++ [.int .i64 (m : Int)] = ints (t.after ++ [(m : Int)]) := by rw [ints_app]; rfl
      rw [hp2] at p2
      have hc1 := hT.c.out p3 hT.ne
      obtain ⟨H2, w1, w2, w3, w4⟩ := st1 hc1 (by decide) (o := 1) (by rw [tk_len]; omega) (v := x1) p5
      have hset : (tkC t x).set 1 x1 = tkC { t with after := t.after ++ [(m : Int)] } x1 := rfl
      rw [hset] at w2
      have hn1 := p3.nx
      have hne1 : p ∉ rid x1 := fun z => (p4 p z).elim hT.ne fun z => by omega
      have hT2 : TO H2 p { t with after := t.after ++ [(m : Int)] } x1 := ⟨w2, p2.out w3 fun j hj => by rw [List.mem_singleton]; intro e; subst e; exact hne1 hj, hne1⟩
      have o2 : Out (p :: rid x) H H2 := (p3.mono fun j hj => .tail _ hj).trans (w3.mono fun j hj => by rw [List.mem_singleton] at hj; subst hj; exact .head _)
      have hnl := hnx.lt
      have hsl := hsx.lt
      have hd2 : ∀ j, j ∈ rid nx ∨ j ∈ rid sx → j ≠ p ∧ j ∉ rid x1 := fun j hj => ⟨(hd j hj).1, fun z => (p4 j z).elim (hd j hj).2 fun y => by have := hj.elim (hnl j) (hsl j); omega⟩
      obtain ⟨H', i1, i2⟩ := set_loop (p := p) hnn hpl r (i + 1) H2 { t with after := t.after ++ [(m : Int)] } x1 h1 h3 (hnx.out o2 fun j hj => by rw [List.mem_cons, not_or]; exact hd j (.inl hj)) (hsx.out o2 fun j hj => by rw [List.mem_cons, not_or]; exact hd j (.inr hj)) hT2 hd2 (by simp; omega)
      have key : ∀ j ∈ rid x1, j ∈ rid x ∨ H.next ≤ j := fun j hj => (p4 j hj).imp id fun z => by omega
      have hn2 := o2.nx
      have oo : Out (p :: rid x) H H' := o2.then i1 fun j hj => by
        rcases List.mem_cons.1 hj with rfl | hj
        · exact .inl (.head _)
        · exact (key j hj).imp (fun z => .tail _ z) id
      have p1' := p1 _ rfl
      refine ⟨H', oo, ?_⟩
      rcases i2 with ⟨l, x', k1, k2, k3, k4⟩ | ⟨k1, k2⟩
      · refine .inl ⟨(m : Int) :: l, x', by simp [k1], fun j13 j19 => ?_, by simpa [List.append_assoc] using k3, fun j hj => (k4 j hj).elim (key j) fun z => .inr (by omega)⟩
        rw [ql_def_Task_set]
        simp (disch := (first | assumption | omega | (simp only [k_d, k_c, Nat.reduceAdd, Nat.reduceLeDiff, Nat.reduceLT] <;> fail) | (simp only [k_c]; omega) | (simp only [k_d, k_c, Nat.reduceAdd, Nat.reduceLeDiff, Nat.reduceLT, *] <;> fail) | fail)) only [bl_def_Task_set, lt_t h1, q1, q2, hidx, d, hcx, p1', w1, es, k2, k_a, k_b, Nat.reduceAdd, k_s, k_x, Int.reduceBEq, Int.reduceBNe, Int.reduceLT, Int.reduceLE, Int.reduceGT, Int.reduceGE, Int.reduceNeg]
      · refine .inr ⟨by simp [k1], fun j13 j19 => ?_⟩
        rw [ql_def_Task_set]
        simp (disch := (first | assumption | omega | (simp only [k_d, k_c, Nat.reduceAdd, Nat.reduceLeDiff, Nat.reduceLT] <;> fail) | (simp only [k_c]; omega) | (simp only [k_d, k_c, Nat.reduceAdd, Nat.reduceLeDiff, Nat.reduceLT, *] <;> fail) | fail)) only [bl_def_Task_set, lt_t h1, q1, q2, hidx, d, hcx, p1', w1, es, k2, k_a, k_b, Nat.reduceAdd, k_s, k_x, Int.reduceBEq, Int.reduceBNe, Int.reduceLT, Int.reduceLE, Int.reduceGT, Int.reduceGE, Int.reduceNeg]
theorem str_ne {a b : Str} (h : a ≠ b) : (a == b) = false := beq_false_of_ne h
theorem set_c {names : List Str} {nx : AV} {p : Nat} {key value : Str} {t : Tk} {x : AV} {H : Hp} (hg : Gl H) (hnn : names.length ≤ 100000) (hv : value.length ≤ 90000) (hnx : Rw H 1 nx (strs names)) (hT : TO H p t x) (hd : ∀ j, j ∈ rid nx → j ≠ p ∧ j ∉ rid x) (hal : t.after.length ≤ 10000) :
    ∃ ok H', cK (.func (.func 65) [] []) [.ptr p 0, .str key, .str value, nx] H = some (.bool ok, H') ∧ Out (p :: rid x) H H' ∧ (ok = true → ∃ t' x', setM t key value names = some t' ∧ TO H' p t' x' ∧ ∀ j ∈ rid x', j ∈ rid x ∨ H.next ≤ j) ∧ (ok = false → setM t key value names = none) := by
  obtain ⟨n, okn, H1, n1, n2, n3, n4⟩ := number_c (s := value) hg
  have hT1 := hT.out0 n4
  have hp1 := hT1.c.1
  have hnx1 := hnx.out0 n4
  have hn1 := n4.nx
  have mono1 : ∀ {S : List Nat} {A B : Hp}, Out [] A B → Out S A B := fun h => h.mono fun j hj => by cases hj
  -- a number is put into one field
  have num : ∀ (o : Nat) (f : Nat → Tk), o < 6 → (∀ m : Nat, (tkC t x).set o (.int .i64 (m : Int)) = tkC (f m) x) → (∀ m, (f m).after = t.after) → setM t key value names = (numM value).map f → 
      (∀ H2, st 1 (.ptr p o) (.int .i64 n) H1 = some H2 → s_def_Task_set JN GO cK (.ptr p 0) (.str key) (.str value) nx H = some (.bool okn, H2)) → ∃ ok H', cK (.func (.func 65) [] []) [.ptr p 0, .str key, .str value, nx] H = some (.bool ok, H') ∧ Out (p :: rid x) H H' ∧ (ok = true → ∃ t' x', setM t key value names = some t' ∧ TO H' p t' x' ∧ ∀ j ∈ rid x', j ∈ rid x ∨ H.next ≤ j) ∧ (ok = false → setM t key value names = none) := by
    intro o f ho hf hfa hm hrun
    cases okn with
    | true =>
      obtain ⟨m, rfl⟩ : ∃ m : Nat, n = m := ⟨n.toNat, by have := n3 rfl; omega⟩
      obtain ⟨H2, w1, w2, w3⟩ := hT1.st o ho (.int .i64 (m : Int)) rfl (f m) (hf m) (hfa m)
      refine ⟨true, H2, c_def_Task_set (hrun H2 w1), (mono1 n4).trans (w3.mono fun j hj => by rw [List.mem_singleton] at hj; subst hj; exact .head _), fun _ => ⟨f m, x, ?_, w2, fun j hj => .inl hj⟩, fun q => by cases q⟩
      rw [hm, n2, if_pos rfl, Int.toNat_natCast]; rfl
    | false =>
      obtain ⟨H2, w1, w2, w3, w4⟩ := st1 hT1.c (by decide) (o := o) (by rw [tk_len]; exact ho) (v := .int .i64 n) rfl
      refine ⟨false, H2, c_def_Task_set (hrun H2 w1), (mono1 n4).trans (w3.mono fun j hj => by rw [List.mem_singleton] at hj; subst hj; exact .head _), fun q => (by cases q), fun _ => ?_⟩
      rw [hm, n2]; rfl
  by_cases k1 : key = kAfter
  · subst k1
    obtain ⟨sx, H2, s1, s2, s3, s4⟩ := split_c (c := 44) (by decide) (s := value) (by omega) H1
    have hsl := s2.len1
    rw [strs_len] at hsl
    have hpl : (spl 44 value).length ≤ 90001 := by rw [spl_len]; have := cnt_le 44 value; omega
    have hT2 := hT1.out0 s3
    have hnr := hnx.lt
    have hxr := hT.o.rw.lt
    have hpH := hT.c.1
    obtain ⟨H', i1, i2⟩ := set_loop (p := p) hnn (by omega) (spl 44 value) 0 H2 t x (Nat.zero_le _) List.drop_zero (hnx1.out0 s3) s2 hT2 (fun j hj => hj.elim (hd j) fun z => ⟨by have := s4 j z; omega, fun y => by have := s4 j z; have := hxr j y; omega⟩) (by omega)
    have hm : setM t kAfter value names = (placesM names (spl 44 value)).map fun l => { t with after := t.after ++ l } := by unfold setM; rw [if_pos rfl]
    have oo : Out (p :: rid x) H H' := (mono1 (n4.trans s3)).trans i1
    have hn2 := (n4.trans s3).nx
    have e : (kAfter == kAfter) = true := rfl
    rcases i2 with ⟨l, x', q1, q2, q3, q4⟩ | ⟨q1, q2⟩
    · rw [show (((0 : Nat) : Int)) = 0 from rfl] at q2
      refine ⟨true, H', c_def_Task_set ?_, oo, fun _ => ⟨_, x', by rw [hm, q1]; rfl, q3, fun j hj => (q4 j hj).imp id fun z => by omega⟩, fun q => by cases q⟩
      unfold s_def_Task_set
      simp (disch := (first | assumption | omega | (simp only [k_d, k_c, Nat.reduceAdd, Nat.reduceLeDiff, Nat.reduceLT] <;> fail) | (simp only [k_c]; omega) | (simp only [k_d, k_c, Nat.reduceAdd, Nat.reduceLeDiff, Nat.reduceLT, *] <;> fail) | fail)) only [n1, e, s1, hsl, q2, k_a, k_b, Nat.reduceAdd, k_s, k_x, Int.reduceBEq, Int.reduceBNe, Int.reduceLT, Int.reduceLE, Int.reduceGT, Int.reduceGE, Int.reduceNeg]
    · rw [show (((0 : Nat) : Int)) = 0 from rfl] at q2
      refine ⟨false, H', c_def_Task_set ?_, oo, fun q => (by cases q), fun _ => by rw [hm, q1]; rfl⟩
      unfold s_def_Task_set
      simp (disch := (first | assumption | omega | (simp only [k_d, k_c, Nat.reduceAdd, Nat.reduceLeDiff, Nat.reduceLT] <;> fail) | (simp only [k_c]; omega) | (simp only [k_d, k_c, Nat.reduceAdd, Nat.reduceLeDiff, Nat.reduceLT, *] <;> fail) | fail)) only [n1, e, s1, hsl, q2, k_a, k_b, Nat.reduceAdd, k_s, k_x, Int.reduceBEq, Int.reduceBNe, Int.reduceLT, Int.reduceLE, Int.reduceGT, Int.reduceGE, Int.reduceNeg]
  have e1 := str_ne k1
  by_cases k2 : key = kRetry
  · subst k2
    have e2 : (kRetry == kRetry) = true := rfl
    refine num 2 (fun m => { t with retry := (m : Int) }) (by omega) (fun m => rfl) (fun m => rfl) (by unfold setM; rw [if_neg k1, if_pos rfl]) fun H2 hst => ?_
    unfold s_def_Task_set
    simp (disch := (first | assumption | omega | (simp only [k_d, k_c, Nat.reduceAdd, Nat.reduceLeDiff, Nat.reduceLT] <;> fail) | (simp only [k_c]; omega) | (simp only [k_d, k_c, Nat.reduceAdd, Nat.reduceLeDiff, Nat.reduceLT, *] <;> fail) | fail)) only [n1, e1, e2, hst, k_a, k_b, Nat.reduceAdd, k_s, k_x, Int.reduceBEq, Int.reduceBNe, Int.reduceLT, Int.reduceLE, Int.reduceGT, Int.reduceGE, Int.reduceNeg]
  have e2 := str_ne k2
  by_cases k3 : key = kWait
  · subst k3
    have e3 : (kWait == kWait) = true := rfl
    refine num 3 (fun m => { t with wait := (m : Int) }) (by omega) (fun m => rfl) (fun m => rfl) (by unfold setM; rw [if_neg k1, if_neg k2, if_pos rfl]) fun H2 hst => ?_
    unfold s_def_Task_set
    simp (disch := (first | assumption | omega | (simp only [k_d, k_c, Nat.reduceAdd, Nat.reduceLeDiff, Nat.reduceLT] <;> fail) | (simp only [k_c]; omega) | (simp only [k_d, k_c, Nat.reduceAdd, Nat.reduceLeDiff, Nat.reduceLT, *] <;> fail) | fail)) only [n1, e1, e2, e3, hst, k_a, k_b, Nat.reduceAdd, k_s, k_x, Int.reduceBEq, Int.reduceBNe, Int.reduceLT, Int.reduceLE, Int.reduceGT, Int.reduceGE, Int.reduceNeg]
  have e3 := str_ne k3
  by_cases k4 : key = kBase
  · subst k4
    have e4 : (kBase == kBase) = true := rfl
    refine num 4 (fun m => { t with base := (m : Int) }) (by omega) (fun m => rfl) (fun m => rfl) (by unfold setM; rw [if_neg k1, if_neg k2, if_neg k3, if_pos rfl]) fun H2 hst => ?_
    unfold s_def_Task_set
    simp (disch := (first | assumption | omega | (simp only [k_d, k_c, Nat.reduceAdd, Nat.reduceLeDiff, Nat.reduceLT] <;> fail) | (simp only [k_c]; omega) | (simp only [k_d, k_c, Nat.reduceAdd, Nat.reduceLeDiff, Nat.reduceLT, *] <;> fail) | fail)) only [n1, e1, e2, e3, e4, hst, k_a, k_b, Nat.reduceAdd, k_s, k_x, Int.reduceBEq, Int.reduceBNe, Int.reduceLT, Int.reduceLE, Int.reduceGT, Int.reduceGE, Int.reduceNeg]
  have e4 := str_ne k4
  by_cases k5 : key = kOn
  · subst k5
    have e5 : (kOn == kOn) = true := rfl
    obtain ⟨H2, w1, w2, w3⟩ := hT1.st 5 (by omega) (.str value) rfl { t with on := value } rfl rfl
    have oo : Out (p :: rid x) H H2 := (mono1 n4).trans (w3.mono fun j hj => by rw [List.mem_singleton] at hj; subst hj; exact .head _)
    have hm : setM t kOn value names = if value = [] then none else some { t with on := value } := by unfold setM; rw [if_neg k1, if_neg k2, if_neg k3, if_neg k4, if_pos rfl]
    by_cases hv0 : value = []
    · have e6 : (value == []) = true := by rw [hv0]; rfl
      refine ⟨false, H2, c_def_Task_set ?_, oo, fun q => (by cases q), fun _ => by rw [hm, if_pos hv0]⟩
      unfold s_def_Task_set
      simp (disch := (first | assumption | omega | (simp only [k_d, k_c, Nat.reduceAdd, Nat.reduceLeDiff, Nat.reduceLT] <;> fail) | (simp only [k_c]; omega) | (simp only [k_d, k_c, Nat.reduceAdd, Nat.reduceLeDiff, Nat.reduceLT, *] <;> fail) | fail)) only [n1, e1, e2, e3, e4, e5, e6, w1, k_a, k_b, Nat.reduceAdd, k_s, k_x, Int.reduceBEq, Int.reduceBNe, Int.reduceLT, Int.reduceLE, Int.reduceGT, Int.reduceGE, Int.reduceNeg]
    · have e6 : (value == []) = false := beq_false_of_ne hv0
      refine ⟨true, H2, c_def_Task_set ?_, oo, fun _ => ⟨_, x, by rw [hm, if_neg hv0], w2, fun j hj => .inl hj⟩, fun q => by cases q⟩
      unfold s_def_Task_set
      simp (disch := (first | assumption | omega | (simp only [k_d, k_c, Nat.reduceAdd, Nat.reduceLeDiff, Nat.reduceLT] <;> fail) | (simp only [k_c]; omega) | (simp only [k_d, k_c, Nat.reduceAdd, Nat.reduceLeDiff, Nat.reduceLT, *] <;> fail) | fail)) only [n1, e1, e2, e3, e4, e5, e6, w1, k_a, k_b, Nat.reduceAdd, k_s, k_x, Int.reduceBEq, Int.reduceBNe, Int.reduceLT, Int.reduceLE, Int.reduceGT, Int.reduceGE, Int.reduceNeg]
  · have e5 := str_ne k5
    have hm : setM t key value names = (numM value).map fun _ => t := by unfold setM; rw [if_neg k1, if_neg k2, if_neg k3, if_neg k4, if_neg k5]
    refine ⟨okn, H1, c_def_Task_set ?_, mono1 n4, fun q => ⟨t, x, ?_, hT1, fun j hj => .inl hj⟩, fun q => ?_⟩
    · unfold s_def_Task_set
      simp (disch := (first | assumption | omega | (simp only [k_d, k_c, Nat.reduceAdd, Nat.reduceLeDiff, Nat.reduceLT] <;> fail) | (simp only [k_c]; omega) | (simp only [k_d, k_c, Nat.reduceAdd, Nat.reduceLeDiff, Nat.reduceLT, *] <;> fail) | fail)) only [n1, e1, e2, e3, e4, e5, k_a, k_b, Nat.reduceAdd, k_s, k_x, Int.reduceBEq, Int.reduceBNe, Int.reduceLT, Int.reduceLE, Int.reduceGT, Int.reduceGE, Int.reduceNeg]
    · rw [hm, n2, if_pos q]; rfl
    · rw [hm, n2, q]; rfl
end Go.Proofs.YthljbjokonglhaaGreatDoor.DfK
