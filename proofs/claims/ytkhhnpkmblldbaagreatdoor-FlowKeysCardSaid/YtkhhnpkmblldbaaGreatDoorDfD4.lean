/- What def.Parse does, as a contract over the symbolic heap: its words, its tasks. Conditions: the listed variables hold what the row says. -/
import Derived.Test.YtkhhnpkmblldbaaGreatDoorDfM
namespace Go.Proofs.YtkhhnpkmblldbaaGreatDoor.DfK
open Go Am Am.K DfEnv DfM LibP DfG
set_option linter.unusedVariables false
set_option linter.unusedSimpArgs false
set_option maxRecDepth 10000
def placesM (names : List Str) : List Str → Option (List Int)
 | [] => some []
 | s :: r => match names.findIdx? (fun a => s == a) with
  | some i => (placesM names r).map fun l => (i : Int) :: l
  | none => none
abbrev kAfter : Str := [97, 102, 116, 101, 114]
abbrev kRetry : Str := [114, 101, 116, 114, 121]
abbrev kWait : Str := [119, 97, 105, 116]
abbrev kBase : Str := [98, 97, 115, 101]
abbrev kOn : Str := [111, 110]
noncomputable def setM (t : Tk) (key value : Str) (names : List Str) : Option Tk :=
 if key = kAfter then (placesM names (spl 44 value)).map fun l => { t with after := t.after ++ l }
 else if key = kRetry then (numM value).map fun (n : Nat) => { t with retry := n }
 else if key = kWait then (numM value).map fun (n : Nat) => { t with wait := n }
 else if key = kBase then (numM value).map fun (n : Nat) => { t with base := n }
 else if key = kOn then (if value = [] then none else some { t with on := value })
 else (numM value).map fun _ => t
structure TO (H : Hp) (p : Nat) (t : Tk) (x : AV) : Prop where
 c : Cs H p (tkC t x) 107 0
 o : Ow H 3 1 x (ints t.after)
 ne : p ∉ rid x
theorem TO.out0 {H H' : Hp} {p : Nat} {t : Tk} {x : AV} (h : TO H p t x) (k : Out [] H H') : TO H' p t x := ⟨h.c.out k (by simp), h.o.out k (by simp), h.ne⟩
theorem TO.st {H : Hp} {p : Nat} {t : Tk} {x : AV} (h : TO H p t x) (o : Nat) (ho : o < 6) (v : AV) (hv : oneC v = true) (t' : Tk) (ht : (tkC t x).set o v = tkC t' x) (ha : t'.after = t.after) :
  ∃ H', st 1 (.ptr p o) v H = some H' ∧ TO H' p t' x ∧ Out [p] H H' := by
 obtain ⟨H', w1, w2, w3, w4⟩ := st1 h.c (by decide) (o := o) (by rw [tk_len]; exact ho) hv
 rw [ht] at w2
 exact ⟨H', w1, ⟨w2, by rw [ha]; exact h.o.out w3 fun j hj => by rw [List.mem_singleton]; intro e; subst e; exact h.ne hj, h.ne⟩, w3⟩
theorem set_loop {names : List Str} {nx sx : AV} {p : Nat} {parts : List Str} (hnn : names.length ≤ 100000) (hpl : parts.length ≤ 100000) : ∀ (r : List Str) (i : Nat) (H : Hp) (t : Tk) (x : AV), i ≤ parts.length → parts.drop i = r → Rw H 1 nx (strs names) → Rw H 1 sx (strs parts) → TO H p t x → (∀ j, j ∈ rid nx ∨ j ∈ rid sx → j ≠ p ∧ j ∉ rid x) → t.after.length + r.length ≤ 200000 →
  ∃ H', Out (p :: rid x) H H' ∧ ((∃ l x', placesM names r = some l ∧ (∀ (j13 : K.Fn 1) (j19 : K.Fn 0), l_def_Task_set JN GO cK j13 j19 (.ptr p 0) nx sx (.int .i64 (parts.length : Nat)) (.int .i64 (i : Nat)) H = j19 H') ∧ TO H' p { t with after := t.after ++ l } x' ∧ ∀ j ∈ rid x', j ∈ rid x ∨ H.next ≤ j) ∨
   (placesM names r = none ∧ ∀ (j13 : K.Fn 1) (j19 : K.Fn 0), l_def_Task_set JN GO cK j13 j19 (.ptr p 0) nx sx (.int .i64 (parts.length : Nat)) (.int .i64 (i : Nat)) H = some (.bool false, H')))
 | [], i, H, t, x, hi, h, hnx, hsx, hT, hd, hal => by
  obtain rfl := drop_nil hi h
  refine ⟨H, Out.refl _ _, .inl ⟨[], x, rfl, fun j13 j19 => ?_, by simpa using hT, fun j hj => .inl hj⟩⟩
  rw [ql_def_Task_set]
  simp only [bl_def_Task_set, lt_f, k_s, k_x, Int.reduceBEq, Int.reduceBNe, Int.reduceLT, Int.reduceLE, Int.reduceGT, Int.reduceGE, Int.reduceNeg]
 | s :: r, i, H, t, x, hi, h, hnx, hsx, hT, hd, hal => by
  obtain ⟨h1, h2, h3⟩ := hd_drop h
  obtain ⟨q, q1, q2⟩ := hsx.ia1 (strs_get h2) .i64
  have es := wrap_s h1 (by omega)
  have hidx := indexstring_c hnx (by omega) s
  simp only [List.length_cons] at hal
  unfold placesM
  cases hf : names.findIdx? (fun a => s == a) with
  | none =>
   rw [hf] at hidx
   have d : decide (ixo none < 0) = true := rfl
   refine ⟨H, Out.refl _ _, .inr ⟨rfl, fun j13 j19 => ?_⟩⟩
   rw [ql_def_Task_set]
   simp (disch := (first | assumption | omega | (simp only [k_d, k_c, Nat.reduceAdd, Nat.reduceLeDiff, Nat.reduceLT] <;> fail) | (simp only [k_c]; omega) | (simp only [k_d, k_c, Nat.reduceAdd, Nat.reduceLeDiff, Nat.reduceLT, *] <;> fail) | fail)) only [bl_def_Task_set, lt_t h1, q1, q2, hidx, d, k_a, k_b, Nat.reduceAdd, k_s, k_x, Int.reduceBEq, Int.reduceBNe, Int.reduceLT, Int.reduceLE, Int.reduceGT, Int.reduceGE, Int.reduceNeg]
  | some m =>
   rw [hf] at hidx
   have d : decide (ixo (some m) < 0) = false := decide_eq_false (by show ¬ ((m : Int) < 0); omega)
   have hix : ixo (some m) = (m : Int) := rfl
   rw [hix] at hidx d
   have hcx : cellAt H p 1 = some x := hT.c.cellAt rfl
   have hpl' := hT.c.1
   obtain ⟨x1, H1, p1, p2, p3, p4, p5⟩ := push_ok (el2 := 3) (z := [(.int .i64 0)]) (vs := [.int .i64 (m : Int)]) hT.o rfl rfl (by decide) (by rw [ints_len]; simp; omega)
   have hp2 : ints t.after ++ [.int .i64 (m : Int)] = ints (t.after ++ [(m : Int)]) := by rw [ints_app]; rfl
   rw [hp2] at p2
   have hc1 := hT.c.out p3 hT.ne
   obtain ⟨H2, w1, w2, w3, w4⟩ := st1 hc1 (by decide) (o := 1) (by rw [tk_len]; omega) (v := x1) p5
   have hset : (tkC t x).set 1 x1 = tkC { t with after := t.after ++ [(m : Int)] } x1 := rfl
   rw [hset] at w2
   have hn1 := p3.nx
   have hne1 : p ∉ rid x1 := fun z => (p4 p z).elim hT.ne fun z => by omega
   have hT2 : TO H2 p { t with after := t.after ++ [(m : Int)] } x1 := ⟨w2, p2.out w3 fun j hj => by rw [List.mem_singleton]; intro e; subst e; exact hne1 hj, hne1⟩
   have o2 : Out (p :: rid x) H H2 := (p3.mono fun j hj => .tail _ hj).trans (w3.mono fun j hj => by rw [List.mem_singleton] at hj; subst hj; exact .head _)
   have hnl := hnx.lt
   have hsl := hsx.lt
   have hd2 : ∀ j, j ∈ rid nx ∨ j ∈ rid sx → j ≠ p ∧ j ∉ rid x1 := fun j hj => ⟨(hd j hj).1, fun z => (p4 j z).elim (hd j hj).2 fun y => by have := hj.elim (hnl j) (hsl j); omega⟩
   obtain ⟨H', i1, i2⟩ := set_loop (p := p) hnn hpl r (i + 1) H2 { t with after := t.after ++ [(m : Int)] } x1 h1 h3 (hnx.out o2 fun j hj => by rw [List.mem_cons, not_or]; exact hd j (.inl hj)) (hsx.out o2 fun j hj => by rw [List.mem_cons, not_or]; exact hd j (.inr hj)) hT2 hd2 (by simp; omega)
   have key : ∀ j ∈ rid x1, j ∈ rid x ∨ H.next ≤ j := fun j hj => (p4 j hj).imp id fun z => by omega
   have hn2 := o2.nx
   have oo : Out (p :: rid x) H H' := o2.then i1 fun j hj => by
    rcases List.mem_cons.1 hj with rfl | hj
    ·exact .inl (.head _)
    ·exact (key j hj).imp (fun z => .tail _ z) id
   have p1' := p1 _ rfl
   refine ⟨H', oo, ?_⟩
   rcases i2 with ⟨l, x', k1, k2, k3, k4⟩ | ⟨k1, k2⟩
   ·refine .inl ⟨(m : Int) :: l, x', by simp [k1], fun j13 j19 => ?_, by simpa [List.append_assoc] using k3, fun j hj => (k4 j hj).elim (key j) fun z => .inr (by omega)⟩
    rw [ql_def_Task_set]
    simp (disch := (first | assumption | omega | (simp only [k_d, k_c, Nat.reduceAdd, Nat.reduceLeDiff, Nat.reduceLT] <;> fail) | (simp only [k_c]; omega) | (simp only [k_d, k_c, Nat.reduceAdd, Nat.reduceLeDiff, Nat.reduceLT, *] <;> fail) | fail)) only [bl_def_Task_set, lt_t h1, q1, q2, hidx, d, hcx, p1', w1, es, k2, k_a, k_b, Nat.reduceAdd, k_s, k_x, Int.reduceBEq, Int.reduceBNe, Int.reduceLT, Int.reduceLE, Int.reduceGT, Int.reduceGE, Int.reduceNeg]
   ·refine .inr ⟨by simp [k1], fun j13 j19 => ?_⟩
    rw [ql_def_Task_set]
    simp (disch := (first | assumption | omega | (simp only [k_d, k_c, Nat.reduceAdd, Nat.reduceLeDiff, Nat.reduceLT] <;> fail) | (simp only [k_c]; omega) | (simp only [k_d, k_c, Nat.reduceAdd, Nat.reduceLeDiff, Nat.reduceLT, *] <;> fail) | fail)) only [bl_def_Task_set, lt_t h1, q1, q2, hidx, d, hcx, p1', w1, es, k2, k_a, k_b, Nat.reduceAdd, k_s, k_x, Int.reduceBEq, Int.reduceBNe, Int.reduceLT, Int.reduceLE, Int.reduceGT, Int.reduceGE, Int.reduceNeg]
theorem str_ne {a b : Str} (h : a ≠ b) : (a == b) = false := beq_false_of_ne h
theorem set_c {names : List Str} {nx : AV} {p : Nat} {key value : Str} {t : Tk} {x : AV} {H : Hp} (hg : Gl H) (hnn : names.length ≤ 100000) (hv : value.length ≤ 90000) (hnx : Rw H 1 nx (strs names)) (hT : TO H p t x) (hd : ∀ j, j ∈ rid nx → j ≠ p ∧ j ∉ rid x) (hal : t.after.length ≤ 10000) :
  ∃ ok H', cK (.func (.func 123) [] []) [.ptr p 0, .str key, .str value, nx] H = some (.bool ok, H') ∧ Out (p :: rid x) H H' ∧ (ok = true → ∃ t' x', setM t key value names = some t' ∧ TO H' p t' x' ∧ ∀ j ∈ rid x', j ∈ rid x ∨ H.next ≤ j) ∧ (ok = false → setM t key value names = none) := by
 obtain ⟨n, okn, H1, n1, n2, n3, n4⟩ := number_c (s := value) hg
 have hT1 := hT.out0 n4
 have hp1 := hT1.c.1
 have hnx1 := hnx.out0 n4
 have hn1 := n4.nx
 have mono1 : ∀ {S : List Nat} {A B : Hp}, Out [] A B → Out S A B := fun h => h.mono fun j hj => by cases hj
 have num : ∀ (o : Nat) (f : Nat → Tk), o < 6 → (∀ m : Nat, (tkC t x).set o (.int .i64 (m : Int)) = tkC (f m) x) → (∀ m, (f m).after = t.after) → setM t key value names = (numM value).map f →
   (∀ H2, st 1 (.ptr p o) (.int .i64 n) H1 = some H2 → s_def_Task_set JN GO cK (.ptr p 0) (.str key) (.str value) nx H = some (.bool okn, H2)) → ∃ ok H', cK (.func (.func 123) [] []) [.ptr p 0, .str key, .str value, nx] H = some (.bool ok, H') ∧ Out (p :: rid x) H H' ∧ (ok = true → ∃ t' x', setM t key value names = some t' ∧ TO H' p t' x' ∧ ∀ j ∈ rid x', j ∈ rid x ∨ H.next ≤ j) ∧ (ok = false → setM t key value names = none) := by
  intro o f ho hf hfa hm hrun
  cases okn with
  | true =>
   obtain ⟨m, rfl⟩ : ∃ m : Nat, n = m := ⟨n.toNat, by have := n3 rfl; omega⟩
   obtain ⟨H2, w1, w2, w3⟩ := hT1.st o ho (.int .i64 (m : Int)) rfl (f m) (hf m) (hfa m)
   refine ⟨true, H2, c_def_Task_set (hrun H2 w1), (mono1 n4).trans (w3.mono fun j hj => by rw [List.mem_singleton] at hj; subst hj; exact .head _), fun _ => ⟨f m, x, ?_, w2, fun j hj => .inl hj⟩, fun q => by cases q⟩
   rw [hm, n2, if_pos rfl, Int.toNat_natCast]; rfl
  | false =>
   obtain ⟨H2, w1, w2, w3, w4⟩ := st1 hT1.c (by decide) (o := o) (by rw [tk_len]; exact ho) (v := .int .i64 n) rfl
   refine ⟨false, H2, c_def_Task_set (hrun H2 w1), (mono1 n4).trans (w3.mono fun j hj => by rw [List.mem_singleton] at hj; subst hj; exact .head _), fun q => (by cases q), fun _ => ?_⟩
   rw [hm, n2]; rfl
 by_cases k1 : key = kAfter
 ·subst k1
  obtain ⟨sx, H2, s1, s2, s3, s4⟩ := split_c (c := 44) (by decide) (s := value) (by omega) H1
  have hsl := s2.len1
  rw [strs_len] at hsl
  have hpl : (spl 44 value).length ≤ 90001 := by rw [spl_len]; have := cnt_le 44 value; omega
  have hT2 := hT1.out0 s3
  have hnr := hnx.lt
  have hxr := hT.o.rw.lt
  have hpH := hT.c.1
  obtain ⟨H', i1, i2⟩ := set_loop (p := p) hnn (by omega) (spl 44 value) 0 H2 t x (Nat.zero_le _) List.drop_zero (hnx1.out0 s3) s2 hT2 (fun j hj => hj.elim (hd j) fun z => ⟨by have := s4 j z; omega, fun y => by have := s4 j z; have := hxr j y; omega⟩) (by omega)
  have hm : setM t kAfter value names = (placesM names (spl 44 value)).map fun l => { t with after := t.after ++ l } := by unfold setM; rw [if_pos rfl]
  have oo : Out (p :: rid x) H H' := (mono1 (n4.trans s3)).trans i1
  have hn2 := (n4.trans s3).nx
  have e : (kAfter == kAfter) = true := rfl
  rcases i2 with ⟨l, x', q1, q2, q3, q4⟩ | ⟨q1, q2⟩
  ·rw [show (((0 : Nat) : Int)) = 0 from rfl] at q2
   refine ⟨true, H', c_def_Task_set ?_, oo, fun _ => ⟨_, x', by rw [hm, q1]; rfl, q3, fun j hj => (q4 j hj).imp id fun z => by omega⟩, fun q => by cases q⟩
   unfold s_def_Task_set
   simp (disch := (first | assumption | omega | (simp only [k_d, k_c, Nat.reduceAdd, Nat.reduceLeDiff, Nat.reduceLT] <;> fail) | (simp only [k_c]; omega) | (simp only [k_d, k_c, Nat.reduceAdd, Nat.reduceLeDiff, Nat.reduceLT, *] <;> fail) | fail)) only [n1, e, s1, hsl, q2, k_a, k_b, Nat.reduceAdd, k_s, k_x, Int.reduceBEq, Int.reduceBNe, Int.reduceLT, Int.reduceLE, Int.reduceGT, Int.reduceGE, Int.reduceNeg]
  ·rw [show (((0 : Nat) : Int)) = 0 from rfl] at q2
   refine ⟨false, H', c_def_Task_set ?_, oo, fun q => (by cases q), fun _ => by rw [hm, q1]; rfl⟩
   unfold s_def_Task_set
   simp (disch := (first | assumption | omega | (simp only [k_d, k_c, Nat.reduceAdd, Nat.reduceLeDiff, Nat.reduceLT] <;> fail) | (simp only [k_c]; omega) | (simp only [k_d, k_c, Nat.reduceAdd, Nat.reduceLeDiff, Nat.reduceLT, *] <;> fail) | fail)) only [n1, e, s1, hsl, q2, k_a, k_b, Nat.reduceAdd, k_s, k_x, Int.reduceBEq, Int.reduceBNe, Int.reduceLT, Int.reduceLE, Int.reduceGT, Int.reduceGE, Int.reduceNeg]
 have e1 := str_ne k1
 by_cases k2 : key = kRetry
 ·subst k2
  have e2 : (kRetry == kRetry) = true := rfl
  refine num 2 (fun m => { t with retry := (m : Int) }) (by omega) (fun m => rfl) (fun m => rfl) (by unfold setM; rw [if_neg k1, if_pos rfl]) fun H2 hst => ?_
  unfold s_def_Task_set
  simp (disch := (first | assumption | omega | (simp only [k_d, k_c, Nat.reduceAdd, Nat.reduceLeDiff, Nat.reduceLT] <;> fail) | (simp only [k_c]; omega) | (simp only [k_d, k_c, Nat.reduceAdd, Nat.reduceLeDiff, Nat.reduceLT, *] <;> fail) | fail)) only [n1, e1, e2, hst, k_a, k_b, Nat.reduceAdd, k_s, k_x, Int.reduceBEq, Int.reduceBNe, Int.reduceLT, Int.reduceLE, Int.reduceGT, Int.reduceGE, Int.reduceNeg]
 have e2 := str_ne k2
 by_cases k3 : key = kWait
 ·subst k3
  have e3 : (kWait == kWait) = true := rfl
  refine num 3 (fun m => { t with wait := (m : Int) }) (by omega) (fun m => rfl) (fun m => rfl) (by unfold setM; rw [if_neg k1, if_neg k2, if_pos rfl]) fun H2 hst => ?_
  unfold s_def_Task_set
  simp (disch := (first | assumption | omega | (simp only [k_d, k_c, Nat.reduceAdd, Nat.reduceLeDiff, Nat.reduceLT] <;> fail) | (simp only [k_c]; omega) | (simp only [k_d, k_c, Nat.reduceAdd, Nat.reduceLeDiff, Nat.reduceLT, *] <;> fail) | fail)) only [n1, e1, e2, e3, hst, k_a, k_b, Nat.reduceAdd, k_s, k_x, Int.reduceBEq, Int.reduceBNe, Int.reduceLT, Int.reduceLE, Int.reduceGT, Int.reduceGE, Int.reduceNeg]
 have e3 := str_ne k3
 by_cases k4 : key = kBase
 ·subst k4
  have e4 : (kBase == kBase) = true := rfl
  refine num 4 (fun m => { t with base := (m : Int) }) (by omega) (fun m => rfl) (fun m => rfl) (by unfold setM; rw [if_neg k1, if_neg k2, if_neg k3, if_pos rfl]) fun H2 hst => ?_
  unfold s_def_Task_set
  simp (disch := (first | assumption | omega | (simp only [k_d, k_c, Nat.reduceAdd, Nat.reduceLeDiff, Nat.reduceLT] <;> fail) | (simp only [k_c]; omega) | (simp only [k_d, k_c, Nat.reduceAdd, Nat.reduceLeDiff, Nat.reduceLT, *] <;> fail) | fail)) only [n1, e1, e2, e3, e4, hst, k_a, k_b, Nat.reduceAdd, k_s, k_x, Int.reduceBEq, Int.reduceBNe, Int.reduceLT, Int.reduceLE, Int.reduceGT, Int.reduceGE, Int.reduceNeg]
 have e4 := str_ne k4
 by_cases k5 : key = kOn
 ·subst k5
  have e5 : (kOn == kOn) = true := rfl
  obtain ⟨H2, w1, w2, w3⟩ := hT1.st 5 (by omega) (.str value) rfl { t with on := value } rfl rfl
  have oo : Out (p :: rid x) H H2 := (mono1 n4).trans (w3.mono fun j hj => by rw [List.mem_singleton] at hj; subst hj; exact .head _)
  have hm : setM t kOn value names = if value = [] then none else some { t with on := value } := by unfold setM; rw [if_neg k1, if_neg k2, if_neg k3, if_neg k4, if_pos rfl]
  by_cases hv0 : value = []
  ·have e6 : (value == []) = true := by rw [hv0]; rfl
   refine ⟨false, H2, c_def_Task_set ?_, oo, fun q => (by cases q), fun _ => by rw [hm, if_pos hv0]⟩
   unfold s_def_Task_set
   simp (disch := (first | assumption | omega | (simp only [k_d, k_c, Nat.reduceAdd, Nat.reduceLeDiff, Nat.reduceLT] <;> fail) | (simp only [k_c]; omega) | (simp only [k_d, k_c, Nat.reduceAdd, Nat.reduceLeDiff, Nat.reduceLT, *] <;> fail) | fail)) only [n1, e1, e2, e3, e4, e5, e6, w1, k_a, k_b, Nat.reduceAdd, k_s, k_x, Int.reduceBEq, Int.reduceBNe, Int.reduceLT, Int.reduceLE, Int.reduceGT, Int.reduceGE, Int.reduceNeg]
  ·have e6 : (value == []) = false := beq_false_of_ne hv0
   refine ⟨true, H2, c_def_Task_set ?_, oo, fun _ => ⟨_, x, by rw [hm, if_neg hv0], w2, fun j hj => .inl hj⟩, fun q => by cases q⟩
   unfold s_def_Task_set
   simp (disch := (first | assumption | omega | (simp only [k_d, k_c, Nat.reduceAdd, Nat.reduceLeDiff, Nat.reduceLT] <;> fail) | (simp only [k_c]; omega) | (simp only [k_d, k_c, Nat.reduceAdd, Nat.reduceLeDiff, Nat.reduceLT, *] <;> fail) | fail)) only [n1, e1, e2, e3, e4, e5, e6, w1, k_a, k_b, Nat.reduceAdd, k_s, k_x, Int.reduceBEq, Int.reduceBNe, Int.reduceLT, Int.reduceLE, Int.reduceGT, Int.reduceGE, Int.reduceNeg]
 ·have e5 := str_ne k5
  have hm : setM t key value names = (numM value).map fun _ => t := by unfold setM; rw [if_neg k1, if_neg k2, if_neg k3, if_neg k4, if_neg k5]
  refine ⟨okn, H1, c_def_Task_set ?_, mono1 n4, fun q => ⟨t, x, ?_, hT1, fun j hj => .inl hj⟩, fun q => ?_⟩
  ·unfold s_def_Task_set
   simp (disch := (first | assumption | omega | (simp only [k_d, k_c, Nat.reduceAdd, Nat.reduceLeDiff, Nat.reduceLT] <;> fail) | (simp only [k_c]; omega) | (simp only [k_d, k_c, Nat.reduceAdd, Nat.reduceLeDiff, Nat.reduceLT, *] <;> fail) | fail)) only [n1, e1, e2, e3, e4, e5, k_a, k_b, Nat.reduceAdd, k_s, k_x, Int.reduceBEq, Int.reduceBNe, Int.reduceLT, Int.reduceLE, Int.reduceGT, Int.reduceGE, Int.reduceNeg]
  ·rw [hm, n2, if_pos q]; rfl
  ·rw [hm, n2, q]; rfl
noncomputable def tkM (names : List Str) : List Str → Tk → List Str → Option Tk
 | [], t, _ => some t
 | s :: r, t, ks => match ks.findIdx? (fun a => (cut 61 s).1 == a) with
  | none => none
  | some m => if (cut 61 s).1.length = s.length then none else match setM t (cut 61 s).1 (cut 61 s).2.1 names with
   | none => none
   | some t' => tkM names r t' (ks.drop (m + 1))
theorem cut_len (c : Nat) (s : Str) : (cut c s).1.length ≤ s.length ∧ (cut c s).2.1.length ≤ s.length := by
 unfold cut
 split
 ·exact ⟨by rw [List.length_take]; exact Nat.min_le_right _ _, by rw [List.length_drop]; exact Nat.sub_le _ _⟩
 ·exact ⟨Nat.le_refl _, Nat.zero_le _⟩
theorem placesM_len {names : List Str} : ∀ {r : List Str} {l : List Int}, placesM names r = some l → l.length = r.length
 | [], l, h => by cases h; rfl
 | s :: r, l, h => by
  unfold placesM at h
  split at h
  ·rw [Option.map_eq_some_iff] at h
   obtain ⟨l', h1, rfl⟩ := h
   simp [placesM_len h1]
  ·cases h
theorem setM_len {t t' : Tk} {key value : Str} {names : List Str} (h : setM t key value names = some t') : t'.after.length ≤ t.after.length + value.length + 1 := by
 unfold setM at h
 split at h
 ·rw [Option.map_eq_some_iff] at h
  obtain ⟨l, h1, rfl⟩ := h
  have := placesM_len h1
  rw [spl_len] at this
  have := cnt_le 44 value
  simp only [List.length_append]; omega
 ·split at h
  ·rw [Option.map_eq_some_iff] at h; obtain ⟨m, _, rfl⟩ := h; simp only; omega
  ·split at h
   ·rw [Option.map_eq_some_iff] at h; obtain ⟨m, _, rfl⟩ := h; simp only; omega
   ·split at h
    ·rw [Option.map_eq_some_iff] at h; obtain ⟨m, _, rfl⟩ := h; simp only; omega
    ·split at h
     ·split at h
      ·cases h
      ·cases h; simp only; omega
     ·rw [Option.map_eq_some_iff] at h; obtain ⟨m, _, rfl⟩ := h; omega
theorem find_lt {α : Type} {p : α → Bool} : ∀ {l : List α} {m : Nat}, l.findIdx? p = some m → m < l.length
 | [], m, h => by cases h
 | a :: l, m, h => by
  rw [List.findIdx?_cons] at h
  split at h
  ·cases h; simp
  ·rw [Option.map_eq_some_iff] at h
   obtain ⟨k, h1, rfl⟩ := h
   have := find_lt h1
   simp only [List.length_cons]; omega
theorem task_loop {names w : List Str} {nx wx : AV} {p q : Nat} (hnn : names.length ≤ 100000) (hwl : w.length ≤ 100000) (hws : ∀ s ∈ w, s.length ≤ 80000) (hpq : p ≠ q) : ∀ (r : List Str) (i : Nat) (H : Hp) (t : Tk) (x kx : AV) (ks : List Str), i ≤ w.length → w.drop i = r → Gl H → 11 ≤ p → (∀ j ∈ rid x, 11 ≤ j) → Rw H 1 nx (strs names) → Rw H 1 wx (strs w) → Rw H 1 kx (strs ks) → ks.length ≤ 10 → TO H p t x → (∀ j, j ∈ rid nx ∨ j ∈ rid wx ∨ j ∈ rid kx → j ≠ p ∧ j ∉ rid x) → t.after.length + sumL r + r.length ≤ 10000 →
  ∃ H', Out (p :: rid x) H H' ∧ ((∃ t' x', tkM names r t ks = some t' ∧ (∀ j20 : K.Fn 2, l_def_task JN GO cK j20 nx (.ptr q 0) (.ptr p 0) kx wx (.int .i64 (w.length : Nat)) (.int .i64 (i : Nat)) H = j20 (.ptr q 0) (.ptr p 0) H') ∧ TO H' p t' x' ∧ ∀ j ∈ rid x', j ∈ rid x ∨ H.next ≤ j) ∨
   (tkM names r t ks = none ∧ (cellAt H q 0).isSome = true ∧ False) ∨ (tkM names r t ks = none ∧ ∃ H2, Out (p :: rid x) H H2 ∧ ∀ j20 : K.Fn 2, l_def_task JN GO cK j20 nx (.ptr q 0) (.ptr p 0) kx wx (.int .i64 (w.length : Nat)) (.int .i64 (i : Nat)) H = B1 (st 6 (.ptr q 0) (.agg [(.str []), .slice0, (.int .i64 0), (.int .i64 0), (.int .i64 0), (.str [])]) H2) fun h => B1 (lda 6 (.ptr q 0) h) fun v => some (.tuple [v, .bool false], h)))
 | [], i, H, t, x, kx, ks, hi, h, hg, hp11, hx11, hnx, hwx, hkx, hkl, hT, hd, hal => by
  obtain rfl := drop_nil hi h
  refine ⟨H, Out.refl _ _, .inl ⟨t, x, rfl, fun j20 => ?_, hT, fun j hj => .inl hj⟩⟩
  rw [ql_def_task]
  simp only [bl_def_task, lt_f, k_s, k_x, Int.reduceBEq, Int.reduceBNe, Int.reduceLT, Int.reduceLE, Int.reduceGT, Int.reduceGE, Int.reduceNeg]
 | s :: r, i, H, t, x, kx, ks, hi, h, hg, hp11, hx11, hnx, hwx, hkx, hkl, hT, hd, hal => by
  obtain ⟨h1, h2, h3⟩ := hd_drop h
  obtain ⟨y, q1, q2⟩ := hwx.ia1 (strs_get h2) .i64
  have es := wrap_s h1 (by omega)
  have hsl := hws s (List.mem_of_getElem? h2)
  have hcut := cut_c (c := 61) (by decide) (s := s) (by omega) H
  obtain ⟨cl1, cl2⟩ := cut_len 61 s
  have hidx := indexstring_c hkx (by omega) (cut 61 s).1
  have hsum : sumL (s :: r) = s.length + sumL r := by simp [sumL]
  rw [hsum] at hal
  simp only [List.length_cons] at hal
  have hfl6 : fl [(.str []), .slice0, (.int .i64 0), (.int .i64 0), (.int .i64 0), (.str [])] [] = some [(.str []), .slice0, (.int .i64 0), (.int .i64 0), (.int .i64 0), (.str [])] := rfl
  unfold tkM
  cases hf : ks.findIdx? (fun a => (cut 61 s).1 == a) with
  | none =>
   rw [hf] at hidx
   have d : decide (ixo none < 0) = true := rfl
   refine ⟨H, Out.refl _ _, .inr (.inr ⟨rfl, H, Out.refl _ _, fun j20 => ?_⟩)⟩
   rw [ql_def_task]
   simp (disch := (first | assumption | omega | (simp only [k_d, k_c, Nat.reduceAdd, Nat.reduceLeDiff, Nat.reduceLT] <;> fail) | (simp only [k_c]; omega) | (simp only [k_d, k_c, Nat.reduceAdd, Nat.reduceLeDiff, Nat.reduceLT, *] <;> fail) | fail)) only [bl_def_task, lt_t h1, q1, q2, hcut, hidx, d, hfl6, k_a, k_b, Nat.reduceAdd, k_s, k_x, Int.reduceBEq, Int.reduceBNe, Int.reduceLT, Int.reduceLE, Int.reduceGT, Int.reduceGE, Int.reduceNeg]
  | some m =>
   rw [hf] at hidx
   have hm := find_lt hf
   have d : decide (ixo (some m) < 0) = false := decide_eq_false (by show ¬ ((m : Int) < 0); omega)
   have hix : ixo (some m) = (m : Int) := rfl
   rw [hix] at hidx d
   simp only
   by_cases hl : (cut 61 s).1.length = s.length
   ·have d2 : (((cut 61 s).1.length : Int) == (s.length : Int)) = true := by rw [hl]; simp
    rw [if_pos hl]
    refine ⟨H, Out.refl _ _, .inr (.inr ⟨rfl, H, Out.refl _ _, fun j20 => ?_⟩)⟩
    rw [ql_def_task]
    simp (disch := (first | assumption | omega | (simp only [k_d, k_c, Nat.reduceAdd, Nat.reduceLeDiff, Nat.reduceLT] <;> fail) | (simp only [k_c]; omega) | (simp only [k_d, k_c, Nat.reduceAdd, Nat.reduceLeDiff, Nat.reduceLT, *] <;> fail) | fail)) only [bl_def_task, lt_t h1, q1, q2, hcut, hidx, d, d2, hfl6, k_a, k_b, Nat.reduceAdd, k_s, k_x, Int.reduceBEq, Int.reduceBNe, Int.reduceLT, Int.reduceLE, Int.reduceGT, Int.reduceGE, Int.reduceNeg]
   ·have d2 : (((cut 61 s).1.length : Int) == (s.length : Int)) = false := beq_false_of_ne (by omega)
    rw [if_neg hl]
    obtain ⟨ok, H1, s1, s2, s3, s4⟩ := set_c (key := (cut 61 s).1) (value := (cut 61 s).2.1) hg hnn (by omega) hnx hT (fun j hj => hd j (.inl hj)) (by omega)
    cases ok with
    | false =>
     have hs := s4 rfl
     rw [hs]
     refine ⟨H1, s2, .inr (.inr ⟨rfl, H1, s2, fun j20 => ?_⟩)⟩
     rw [ql_def_task]
     simp (disch := (first | assumption | omega | (simp only [k_d, k_c, Nat.reduceAdd, Nat.reduceLeDiff, Nat.reduceLT] <;> fail) | (simp only [k_c]; omega) | (simp only [k_d, k_c, Nat.reduceAdd, Nat.reduceLeDiff, Nat.reduceLT, *] <;> fail) | fail)) only [bl_def_task, lt_t h1, q1, q2, hcut, hidx, d, d2, s1, hfl6, k_a, k_b, Nat.reduceAdd, k_s, k_x, Int.reduceBEq, Int.reduceBNe, Int.reduceLT, Int.reduceLE, Int.reduceGT, Int.reduceGE, Int.reduceNeg]
    | true =>
     obtain ⟨t', x', u1, u2, u3⟩ := s3 rfl
     rw [u1]
     have hsl2 := setM_len u1
     have e1 : IntKind.wrap .i64 ((m : Int) + 1) = ((m + 1 : Nat) : Int) := by rw [wrap_i64 (by omega) (by omega)]; rfl
     have hd1 : ∀ j, j ∈ rid nx ∨ j ∈ rid wx ∨ j ∈ rid kx → j ∉ p :: rid x := fun j hj => by rw [List.mem_cons, not_or]; exact hd j hj
     have hkx1 := hkx.out s2 fun j hj => hd1 j (.inr (.inr hj))
     obtain ⟨kx', k1, k2, k3⟩ := sll_rw (n := ks.length) hkx1 (by rw [strs_len, Nat.mul_one]) (by decide) (a := m + 1) (b := ks.length) (lo := some (.int .i64 (m + 1 : Nat))) (hi := none) (by omega) (Nat.le_refl _) (Bd.yes _ _ _) (Bd.no _)
     have hk2 : ((strs ks).drop ((m + 1) * 1)).take ((ks.length - (m + 1)) * 1) = strs (ks.drop (m + 1)) := by
      rw [Nat.mul_one, Nat.mul_one, List.take_of_length_le (by rw [List.length_drop, strs_len]; omega)]
      simp [strs, List.map_drop]
     rw [hk2] at k2
     have hlt : ∀ j, j ∈ rid nx ∨ j ∈ rid wx ∨ j ∈ rid kx → j < H.next := fun j hj => by
      rcases hj with hj | hj | hj
      ·exact hnx.lt j hj
      ·exact hwx.lt j hj
      ·exact hkx.lt j hj
     have hgn := hg.nx
     have hn1 := s2.nx
     obtain ⟨H', i1, i2⟩ := task_loop (q := q) hnn hwl hws hpq r (i + 1) H1 t' x' kx' (ks.drop (m + 1)) h1 h3 (hg.out s2 fun j hj => by
      rcases List.mem_cons.1 hj with rfl | hj
      ·exact hp11
      ·exact hx11 j hj) hp11 (fun j hj => (u3 j hj).elim (hx11 j) fun z => by omega) (hnx.out s2 fun j hj => hd1 j (.inl hj)) (hwx.out s2 fun j hj => hd1 j (.inr (.inl hj))) k2 (by rw [List.length_drop]; omega) u2 (fun j hj => by
       have hj' : j ∈ rid nx ∨ j ∈ rid wx ∨ j ∈ rid kx := hj.imp id fun z => z.imp id (k3 j)
       exact ⟨(hd j hj').1, fun z => (u3 j z).elim (hd j hj').2 fun y => by have := hlt j hj'; omega⟩) (by omega)
     have key : ∀ j ∈ p :: rid x', j ∈ p :: rid x ∨ H.next ≤ j := fun j hj => by
      rcases List.mem_cons.1 hj with rfl | hj
      ·exact .inl (.head _)
      ·exact (u3 j hj).imp (fun z => .tail _ z) id
     refine ⟨H', s2.then i1 key, ?_⟩
     simp only
     rcases i2 with ⟨t2, x2, v1, v2, v3, v4⟩ | ⟨_, _, v⟩ | ⟨v1, H2, v2, v3⟩
     ·refine .inl ⟨t2, x2, v1, fun j20 => ?_, v3, fun j hj => (v4 j hj).elim (u3 j) fun z => .inr (by omega)⟩
      rw [ql_def_task]
      simp (disch := (first | assumption | omega | (simp only [k_d, k_c, Nat.reduceAdd, Nat.reduceLeDiff, Nat.reduceLT] <;> fail) | (simp only [k_c]; omega) | (simp only [k_d, k_c, Nat.reduceAdd, Nat.reduceLeDiff, Nat.reduceLT, *] <;> fail) | fail)) only [bl_def_task, lt_t h1, q1, q2, hcut, hidx, d, d2, s1, e1, k1, es, v2, k_a, k_b, Nat.reduceAdd, k_s, k_x, Int.reduceBEq, Int.reduceBNe, Int.reduceLT, Int.reduceLE, Int.reduceGT, Int.reduceGE, Int.reduceNeg]
     ·exact v.elim
     ·refine .inr (.inr ⟨v1, H2, s2.then v2 key, fun j20 => ?_⟩)
      rw [ql_def_task]
      simp (disch := (first | assumption | omega | (simp only [k_d, k_c, Nat.reduceAdd, Nat.reduceLeDiff, Nat.reduceLT] <;> fail) | (simp only [k_c]; omega) | (simp only [k_d, k_c, Nat.reduceAdd, Nat.reduceLeDiff, Nat.reduceLT, *] <;> fail) | fail)) only [bl_def_task, lt_t h1, q1, q2, hcut, hidx, d, d2, s1, e1, k1, es, v3, k_a, k_b, Nat.reduceAdd, k_s, k_x, Int.reduceBEq, Int.reduceBNe, Int.reduceLT, Int.reduceLE, Int.reduceGT, Int.reduceGE, Int.reduceNeg]
abbrev keysM : List Str := [kAfter, kRetry, kWait, kBase, kOn]
noncomputable def taskM (names w : List Str) : Option Tk := tkM names w.tail ⟨w.headD [], [], 0, 10, 1, []⟩ keysM
theorem stAll {H : Hp} {i n el : Nat} {l vs : List AV} (h : Cs H i l el 0) (hn : n = vs.length) (hl : l.length = vs.length) (hv : vs.all oneC = true) : ∃ H', st n (.ptr i 0) (.agg vs) H = some H' ∧ Cs H' i vs el 0 ∧ Out [i] H H' ∧ H'.next = H.next := by
 obtain ⟨hi, c, hc, hg⟩ := h
 obtain ⟨H', c', q1, q2, q3, q4, q5⟩ := setCells_get vs H i 0 c 0 l.length el 0 hc (by omega) (Nat.le_refl _) (by omega) (fun k hk => by rw [Nat.zero_add, hg k (l[k]'(by omega)) (List.getElem?_eq_getElem (by omega))]; rfl) (List.all_eq_true.1 hv)
 refine ⟨H', ?_, ⟨by omega, c', ?_, fun k v hk => ?_⟩, ⟨by omega, fun j hj hn => q4 j (by simpa using hn)⟩, q2⟩
 ·unfold st
  have : Nat.beq n vs.length = true := by subst hn; exact Nat.beq_refl _
  simp only [cellsV_agg, this, cond_true]
  exact q1
 ·rw [q3, hl]
 ·have := (List.getElem?_eq_some_iff.1 hk).1
  rw [q5, if_pos (by omega), Nat.sub_zero]; exact hk
theorem task_c {names w : List Str} {nx wx : AV} {H : Hp} (hg : Gl H) (hnn : names.length ≤ 100000) (hw0 : w ≠ []) (hwl : w.length ≤ 5000) (hws : ∀ s ∈ w, s.length ≤ 80000) (hsum : sumL w + w.length ≤ 10000) (hnx : Rw H 1 nx (strs names)) (hwx : Rw H 1 wx (strs w)) :
  ∃ H', Out [] H H' ∧ ((∃ t x, taskM names w = some t ∧ cK (.func (.func 94) [] []) [wx, nx] H = some (.tuple [.agg (tkC t x), .bool true], H') ∧ Rw H' 1 x (ints t.after) ∧ ∀ j ∈ rid x, H.next ≤ j) ∨ (taskM names w = none ∧ ∃ v, cK (.func (.func 94) [] []) [wx, nx] H = some (.tuple [.agg v, .bool false], H') ∧ v.length = 6 ∧ v.all oneC = true)) := by
 obtain ⟨w0, w, rfl⟩ : ∃ a b, w = a :: b := by
  cases w with
  | nil => exact absurd rfl hw0
  | cons a b => exact ⟨a, b, rfl⟩
 have hgn := hg.nx
 have o1 := al_out H [(AV.str []), AV.slice0, (AV.int .i64 0), (AV.int .i64 0), (AV.int .i64 0), (AV.str [])] 107 0
 have o2 := al_out (al H [(AV.str []), AV.slice0, (AV.int .i64 0), (AV.int .i64 0), (AV.int .i64 0), (AV.str [])] 107 0) (tkC ⟨w0, [], 0, 10, 1, []⟩ .slice0) 107 0
 have o3 := al_out (al (al H [(AV.str []), AV.slice0, (AV.int .i64 0), (AV.int .i64 0), (AV.int .i64 0), (AV.str [])] 107 0) (tkC ⟨w0, [], 0, 10, 1, []⟩ .slice0) 107 0) (strs keysM) 9 0
 have o12 := o1.trans o2
 have o13 := o12.trans o3
 have c1 := ((al_cs H [(AV.str []), AV.slice0, (AV.int .i64 0), (AV.int .i64 0), (AV.int .i64 0), (AV.str [])] 107 0).out o2 (by simp)).out o3 (by simp)
 have c2 := (al_cs (al H [(AV.str []), AV.slice0, (AV.int .i64 0), (AV.int .i64 0), (AV.int .i64 0), (AV.str [])] 107 0) (tkC ⟨w0, [], 0, 10, 1, []⟩ .slice0) 107 0).out o3 (by simp)
 have c3 := al_cs (al (al H [(AV.str []), AV.slice0, (AV.int .i64 0), (AV.int .i64 0), (AV.int .i64 0), (AV.str [])] 107 0) (tkC ⟨w0, [], 0, 10, 1, []⟩ .slice0) 107 0) (strs keysM) 9 0
 generalize hH3 : al (al (al H [(AV.str []), AV.slice0, (AV.int .i64 0), (AV.int .i64 0), (AV.int .i64 0), (AV.str [])] 107 0) (tkC ⟨w0, [], 0, 10, 1, []⟩ .slice0) 107 0) (strs keysM) 9 0 = H3 at *
 have hn3 : H3.next = H.next + 3 := by rw [← hH3]; rfl
 have hkr : Rw H3 1 (.slice (H.next + 2) 0 5 5 true 1) (strs keysM) := .mk c3.ro rfl (Nat.le_refl _) rfl
 have hwx3 := hwx.out0 o13
 obtain ⟨wx', s1, s2, s3⟩ := sll_rw (n := w.length + 1) hwx3 (by rw [strs_len]; simp) (by decide) (a := 1) (b := w.length + 1) (lo := some (.int .i64 1)) (hi := none) (by omega) (Nat.le_refl _) (Bd.yes .i64 1 0) (Bd.no _)
 have hs2 : ((strs (w0 :: w)).drop (1 * 1)).take ((w.length + 1 - 1) * 1) = strs w := by
  rw [Nat.mul_one, Nat.mul_one, Nat.add_sub_cancel]
  show (strs w).take w.length = _
  rw [List.take_of_length_le (by rw [strs_len]; omega)]
 rw [hs2] at s2
 have hwl' := s2.len1
 rw [strs_len] at hwl'
 have hwr := hwx.lt
 have hnr := hnx.lt
 obtain ⟨y, y1, y2⟩ := (hwx.out0 o1).ia1 (i := 0) (v := .str w0) rfl .i64
 rw [show (((0 : Nat) : Int)) = 0 from rfl] at y1
 have hs0 : sumL (w0 :: w) = w0.length + sumL w := by simp [sumL]
 rw [hs0] at hsum
 simp only [List.length_cons] at hsum hwl
 have hT : TO H3 (H.next + 1) ⟨w0, [], 0, 10, 1, []⟩ .slice0 := ⟨c2, .nil, by simp [rid]⟩
 obtain ⟨H4, i1, i2⟩ := task_loop (q := H.next) (p := H.next + 1) hnn (by omega) (fun s hs => hws s (.tail _ hs)) (by omega) w 0 H3 ⟨w0, [], 0, 10, 1, []⟩ .slice0 (.slice (H.next + 2) 0 5 5 true 1) keysM (Nat.zero_le _) List.drop_zero (hg.out0 o13) (by omega) (fun j hj => by cases hj) (hnx.out0 o13) s2 hkr (by decide) hT (fun j hj => by
  refine ⟨?_, by simp [rid]⟩
  rcases hj with hj | hj | hj
  ·have := hnr j hj; omega
  ·have := hwr j (s3 j hj); omega
  ·rw [rid_s (by rfl), List.mem_singleton] at hj; omega) (by simp; omega)
 have i1' : Out [H.next + 1] H3 H4 := i1.mono fun j hj => by
  rcases List.mem_cons.1 hj with rfl | hj
  ·exact .head _
  ·cases hj
 have hfl1 : fl [(.str []), .slice0, (.int .i64 0), (.int .i64 0), (.int .i64 0), (.str [])] [(0, 1, .str w0), (3, 1, .int .i64 10), (4, 1, .int .i64 1)] = some (tkC ⟨w0, [], 0, 10, 1, []⟩ .slice0) := rfl
 have hfl2 : fl [(.str []), (.str []), (.str []), (.str []), (.str [])] [(0, 1, .str [97, 102, 116, 101, 114]), (1, 1, .str [114, 101, 116, 114, 121]), (2, 1, .str [119, 97, 105, 116]), (3, 1, .str [98, 97, 115, 101]), (4, 1, .str [111, 110])] = some (strs keysM) := rfl
 have hst := st_tk ⟨w0, [], 0, 10, 1, []⟩ .slice0 rfl (al H [(AV.str []), AV.slice0, (AV.int .i64 0), (AV.int .i64 0), (AV.int .i64 0), (AV.str [])] 107 0)
 have hnk : newCells (al (al H [(AV.str []), AV.slice0, (AV.int .i64 0), (AV.int .i64 0), (AV.int .i64 0), (AV.str [])] 107 0) (tkC ⟨w0, [], 0, 10, 1, []⟩ .slice0) 107 0) (strs keysM) 9 0 = some (H.next + 2, H3) := by rw [← hH3, newCells_al (by show 5 ≤ _; omega)]; rfl
 have hid2 : H.next + 1 + 1 = H.next + 2 := rfl
 have hm : taskM names (w0 :: w) = tkM names w ⟨w0, [], 0, 10, 1, []⟩ keysM := rfl
 rw [hm]
 have fin : ∀ {A : Hp} {S : List Nat}, Out S H3 A → (∀ j ∈ S, H.next ≤ j) → Out [] H A := fun h hS => o13.then h fun j hj => .inr (hS j hj)
 have h66 : (al H [(AV.str []), AV.slice0, (AV.int .i64 0), (AV.int .i64 0), (AV.int .i64 0), (AV.str [])] 107 0).next = H.next + 1 := rfl
 rw [h66] at hst
 rw [show (((0 : Nat) : Int)) = 0 from rfl] at i2
 rcases i2 with ⟨t, x, v1, v2, v3, v4⟩ | ⟨_, _, v⟩ | ⟨v1, H5, v2, v3⟩
 ·have hx1 := v3.o.oneX
  have hct : cellsAt H4 (H.next + 1) 0 6 = some (tkC t x) := v3.c.cellsAt 6 0 (by rw [tk_len]; omega)
  have c4 := c1.out i1' (by simp)
  obtain ⟨H5, w1, w2, w3, w4⟩ := stAll (n := 6) (vs := tkC t x) c4 rfl rfl (by simp [tkC, oneC_s, oneC_i, hx1])
  have hc5 : cellsAt H5 H.next 0 6 = some (tkC t x) := w2.cellsAt 6 0 (by rw [tk_len]; omega)
  have hxr : ∀ j ∈ rid x, H3.next ≤ j := fun j hj => (v4 j hj).elim (fun z => by cases z) id
  refine ⟨H5, (fin i1' (fun j hj => by rw [List.mem_singleton] at hj; omega)).then w3 fun j hj => by rw [List.mem_singleton] at hj; exact .inr (by omega), .inl ⟨t, x, v1, c_def_task ?_, v3.o.rw.out w3 fun j hj => by rw [List.mem_singleton]; have := hxr j hj; omega, fun j hj => by have := hxr j hj; omega⟩⟩
  unfold s_def_task
  simp (disch := (first | assumption | omega | (simp only [k_d, k_c, Nat.reduceAdd, Nat.reduceLeDiff, Nat.reduceLT] <;> fail) | (simp only [k_c]; omega) | (simp only [k_d, k_c, Nat.reduceAdd, Nat.reduceLeDiff, Nat.reduceLT, *] <;> fail) | fail)) only [y1, y2, hfl1, hst, hfl2, hnk, hH3, hid2, s1, hwl', v2, hct, w1, hc5, k_a, k_b, Nat.reduceAdd, k_s, k_x, Int.reduceBEq, Int.reduceBNe, Int.reduceLT, Int.reduceLE, Int.reduceGT, Int.reduceGE, Int.reduceNeg]
 ·exact v.elim
 ·have v2' : Out [H.next + 1] H3 H5 := v2.mono fun j hj => by
   rcases List.mem_cons.1 hj with rfl | hj
   ·exact .head _
   ·cases hj
  have c5 := c1.out v2' (by simp)
  obtain ⟨H6, w1, w2, w3, w4⟩ := stAll (n := 6) (vs := [(AV.str []), AV.slice0, (AV.int .i64 0), (AV.int .i64 0), (AV.int .i64 0), (AV.str [])]) c5 rfl rfl rfl
  have hc6 : cellsAt H6 H.next 0 6 = some [(AV.str []), AV.slice0, (AV.int .i64 0), (AV.int .i64 0), (AV.int .i64 0), (AV.str [])] := w2.cellsAt 6 0 (by show 0 + 6 ≤ 6; omega)
  refine ⟨H6, (fin v2' (fun j hj => by rw [List.mem_singleton] at hj; omega)).then w3 fun j hj => by rw [List.mem_singleton] at hj; exact .inr (by omega), .inr ⟨v1, [(AV.str []), AV.slice0, (AV.int .i64 0), (AV.int .i64 0), (AV.int .i64 0), (AV.str [])], c_def_task ?_, rfl, rfl⟩⟩
  unfold s_def_task
  simp (disch := (first | assumption | omega | (simp only [k_d, k_c, Nat.reduceAdd, Nat.reduceLeDiff, Nat.reduceLT] <;> fail) | (simp only [k_c]; omega) | (simp only [k_d, k_c, Nat.reduceAdd, Nat.reduceLeDiff, Nat.reduceLT, *] <;> fail) | fail)) only [y1, y2, hfl1, hst, hfl2, hnk, hH3, hid2, s1, hwl', v3, w1, hc6, k_a, k_b, Nat.reduceAdd, k_s, k_x, Int.reduceBEq, Int.reduceBNe, Int.reduceLT, Int.reduceLE, Int.reduceGT, Int.reduceGE, Int.reduceNeg]
theorem spl_sum (c : Nat) : ∀ s : Str, sumL (spl c s) + (spl c s).length = s.length + 1
 | [] => rfl
 | b :: s => by
  have ih := spl_sum c s
  unfold spl
  by_cases h : b = c
  ·rw [if_pos h]; simp only [sumL, List.map_cons, List.sum_cons, List.length_nil, List.length_cons] at *; omega
  ·rw [if_neg h]
   cases hs : spl c s with
   | nil => exact absurd hs (spl_ne c s)
   | cons x y => rw [hs] at ih; simp only [sumL, List.map_cons, List.sum_cons, List.length_cons] at *; omega
abbrev wds (s : Str) : List Str := spl 32 s
abbrev hdw (s : Str) : Str := (wds s).headD []
structure PS (H : Hp) (rx nx : AV) (rws : List AV) (ps : List Str) : Prop where
 r : Ow H 52 1 rx rws
 n : Ow H 9 1 nx (strs (ps.map hdw))
 len : rws.length = ps.length
 w : ∀ (i : Nat) (wx : AV) (s : Str), rws[i]? = some wx → ps[i]? = some s → Rw H 1 wx (strs (wds s))
 dw : ∀ wx ∈ rws, ∀ j ∈ rid wx, j ∉ rid rx ∧ j ∉ rid nx
 dn : ∀ j ∈ rid rx, j ∉ rid nx
theorem parse_loop {R : AV} {px : AV} {ps : List Str} {B : Nat} (hpl : ps.length ≤ 5000) (hps : ∀ s ∈ ps, s.length ≤ 5000) : ∀ (r : List Str) (i : Nat) (H : Hp) (rx nx : AV) (rws : List AV), i ≤ ps.length → ps.drop i = r → Rw H 1 px (strs ps) → PS H rx nx rws (ps.take i) → (∀ j ∈ rid px, j ∉ rid rx ∧ j ∉ rid nx) → B ≤ H.next → (∀ j, j ∈ rid rx ∨ j ∈ rid nx → B ≤ j) → (∀ wx ∈ rws, ∀ j ∈ rid wx, B ≤ j) →
  ∃ rx' nx' rws' H' S, (∀ j15 : K.Fn 3, l_def_Parse JN GO cK j15 R rx nx px (.int .i64 (ps.length : Nat)) (.int .i64 (i : Nat)) H = j15 R rx' nx' H') ∧ PS H' rx' nx' rws' ps ∧ Out S H H' ∧ (∀ j ∈ S, B ≤ j) ∧ (∀ j, j ∈ rid rx' ∨ j ∈ rid nx' → B ≤ j) ∧ (∀ wx ∈ rws', ∀ j ∈ rid wx, B ≤ j)
 | [], i, H, rx, nx, rws, hi, h, hpx, hP, hd, hB, hr, hw => by
  obtain rfl := drop_nil hi h
  rw [List.take_of_length_le (Nat.le_refl _)] at hP
  refine ⟨rx, nx, rws, H, [], fun j15 => ?_, hP, Out.refl _ _, (fun j hj => by cases hj), hr, hw⟩
  rw [ql_def_Parse]
  simp only [bl_def_Parse, lt_f, k_s, k_x, Int.reduceBEq, Int.reduceBNe, Int.reduceLT, Int.reduceLE, Int.reduceGT, Int.reduceGE, Int.reduceNeg]
 | s :: r, i, H, rx, nx, rws, hi, h, hpx, hP, hd, hB, hr, hw => by
  obtain ⟨h1, h2, h3⟩ := hd_drop h
  obtain ⟨q, q1, q2⟩ := hpx.ia1 (strs_get h2) .i64
  have es := wrap_s h1 (by omega)
  have hsl := hps s (List.mem_of_getElem? h2)
  have htk : ps.take (i + 1) = ps.take i ++ [s] := by rw [List.take_add_one, h2]; rfl
  have hil : (ps.take i).length = i := by rw [List.length_take]; omega
  obtain ⟨wx, H1, s1, s2, s3, s4⟩ := split_c (c := 32) (by decide) (s := s) (by omega) H
  have hn1 := s3.nx
  have hwl := s2.lt
  have hrl := hP.r.rw.lt
  have hnl := hP.n.rw.lt
  obtain ⟨rx1, H2, p1, p2, p3, p4, p5⟩ := push_ok (el2 := 52) (z := [.slice0]) (vs := [wx]) (hP.r.out s3 (by simp)) (by simp [s2.one]) rfl (by decide) (by rw [hP.len, hil]; simp; omega)
  have hn2 := p3.nx
  have hw2 : Rw H2 1 wx (strs (wds s)) := s2.out p3 fun j hj z => by have := s4 j hj; have := hrl j z; omega
  have hN2 : Ow H2 9 1 nx (strs ((ps.take i).map hdw)) := (hP.n.out s3 (by simp)).out p3 fun j hj z => hP.dn j z hj
  obtain ⟨w0, w1, hw01⟩ : ∃ a b, wds s = a :: b := by
   cases hs : wds s with
   | nil => exact absurd hs (spl_ne 32 s)
   | cons a b => exact ⟨a, b, rfl⟩
  obtain ⟨y, y1, y2⟩ := hw2.ia1 (i := 0) (v := .str w0) (by rw [hw01]; rfl) .i64
  rw [show (((0 : Nat) : Int)) = 0 from rfl] at y1
  obtain ⟨nx1, H3, n1, n2, n3, n4, n5⟩ := push_ok (el2 := 9) (z := [.str []]) (vs := [.str w0]) hN2 rfl rfl (by decide) (by rw [strs_len, List.length_map, hil]; simp; omega)
  have hn3 := n3.nx
  have hh : hdw s = w0 := by show (wds s).headD [] = w0; rw [hw01]; rfl
  have hn2' : strs ((ps.take i).map hdw) ++ [.str w0] = strs ((ps.take (i + 1)).map hdw) := by rw [htk, List.map_append, strs_app, List.map_cons, List.map_nil, hh]; rfl
  rw [hn2'] at n2
  have p1' := p1 _ rfl
  have n1' := n1 _ rfl
  have hrx1 : ∀ j ∈ rid rx1, j ∈ rid rx ∨ H1.next ≤ j := p4
  have hnx1 : ∀ j ∈ rid nx1, j ∈ rid nx ∨ H2.next ≤ j := n4
  have hrx1l : ∀ j ∈ rid rx1, j < H2.next := p2.rw.lt
  have hwold : ∀ wy ∈ rws, ∀ j ∈ rid wy, j < H.next := fun wy hwy j hj => by
   obtain ⟨k, hk⟩ := List.getElem?_of_mem hwy
   have hkl := (List.getElem?_eq_some_iff.1 hk).1
   rw [hP.len] at hkl
   exact (hP.w k wy _ hk (List.getElem?_eq_getElem hkl)).lt j hj
  have o2 : Out (rid rx) H H2 := (s3.mono fun j hj => by cases hj).trans p3
  have o3 : Out (rid rx ++ rid nx) H H3 := (o2.mono fun j hj => List.mem_append_left _ hj).trans (n3.mono fun j hj => List.mem_append_right _ hj)
  have hP3 : PS H3 rx1 nx1 (rws ++ [wx]) (ps.take (i + 1)) := by
   refine ⟨p2.out n3 fun j hj z => ?_, n2, by rw [List.length_append, hP.len, htk, List.length_append]; rfl, fun k wy t hk ht => ?_, fun wy hwy j hj => ?_, fun j hj z => ?_⟩
   ·rcases hrx1 j hj with y | y
    ·exact hP.dn j y z
    ·have := hnl j z; omega
   ·rw [htk] at ht
    by_cases hki : k < i
    ·rw [List.getElem?_append_left (by rw [hP.len, hil]; exact hki)] at hk
     rw [List.getElem?_append_left (by rw [hil]; exact hki)] at ht
     have hm := List.mem_of_getElem? hk
     exact (hP.w k wy t hk ht).out o3 fun j hj z => (List.mem_append.1 z).elim (hP.dw wy hm j hj).1 (hP.dw wy hm j hj).2
    ·have hk2 := (List.getElem?_eq_some_iff.1 ht).1
     rw [List.length_append, hil] at hk2
     obtain rfl : k = i := by simp at hk2; omega
     rw [List.getElem?_append_right (by rw [hP.len, hil]; exact Nat.le_refl _), hP.len, hil, Nat.sub_self] at hk
     rw [List.getElem?_append_right (by rw [hil]; exact Nat.le_refl _), hil, Nat.sub_self] at ht
     cases hk; cases ht
     exact hw2.out n3 fun j hj z => by have := s4 j hj; have := hnl j z; omega
   ·rcases List.mem_append.1 hwy with hwy | hwy
    ·have hjo := hwold wy hwy j hj
     exact ⟨fun z => (hrx1 j z).elim (hP.dw wy hwy j hj).1 fun y => by omega, fun z => (hnx1 j z).elim (hP.dw wy hwy j hj).2 fun y => by omega⟩
    ·rw [List.mem_singleton] at hwy
     subst hwy
     have := s4 j hj
     have := hwl j hj
     exact ⟨fun z => (hrx1 j z).elim (fun y => by have := hrl j y; omega) fun y => by omega, fun z => (hnx1 j z).elim (fun y => by have := hnl j y; omega) fun y => by omega⟩
   ·rcases hnx1 j z with y | y
    ·rcases hrx1 j hj with x | x
     ·exact hP.dn j x y
     ·have := hnl j y; omega
    ·have := hrx1l j hj; omega
  have hpxl := hpx.lt
  obtain ⟨rx', nx', rws', H', S, i1, i2, i3, i4, i5, i6⟩ := parse_loop (R := R) (B := B) hpl hps r (i + 1) H3 rx1 nx1 (rws ++ [wx]) h1 h3 (hpx.out o3 fun j hj z => (List.mem_append.1 z).elim (hd j hj).1 (hd j hj).2) hP3 (fun j hj => ⟨fun z => (hrx1 j z).elim (hd j hj).1 fun y => by have := hpxl j hj; omega, fun z => (hnx1 j z).elim (hd j hj).2 fun y => by have := hpxl j hj; omega⟩) (by omega) (fun j hj => by
   rcases hj with hj | hj
   ·exact (hrx1 j hj).elim (fun z => hr j (.inl z)) fun z => by omega
   ·exact (hnx1 j hj).elim (fun z => hr j (.inr z)) fun z => by omega) (fun wy hwy j hj => by
   rcases List.mem_append.1 hwy with hwy | hwy
   ·exact hw wy hwy j hj
   ·rw [List.mem_singleton] at hwy; subst hwy; have := s4 j hj; omega)
  refine ⟨rx', nx', rws', H', (rid rx ++ rid nx) ++ S, fun j15 => ?_, i2, (o3.mono fun j hj => List.mem_append_left _ hj).trans (i3.mono fun j hj => List.mem_append_right _ hj), fun j hj => ?_, i5, i6⟩
  ·have hwx1 := s2.one
   rw [ql_def_Parse]
   simp (disch := (first | assumption | omega | (simp only [k_d, k_c, Nat.reduceAdd, Nat.reduceLeDiff, Nat.reduceLT] <;> fail) | (simp only [k_c]; omega) | (simp only [k_d, k_c, Nat.reduceAdd, Nat.reduceLeDiff, Nat.reduceLT, *] <;> fail) | fail)) only [bl_def_Parse, lt_t h1, q1, q2, s1, p1', y1, y2, n1', es, i1, k_a, k_b, Nat.reduceAdd, k_s, k_x, Int.reduceBEq, Int.reduceBNe, Int.reduceLT, Int.reduceLE, Int.reduceGT, Int.reduceGE, Int.reduceNeg]
  ·rcases List.mem_append.1 hj with hj | hj
   ·exact hr j (List.mem_append.1 hj)
   ·exact i4 j hj
noncomputable def tsM (names : List Str) : List Str → Option (List Tk)
 | [] => some []
 | s :: r => match taskM names (wds s) with
  | none => none
  | some t => (tsM names r).map fun l => t :: l
noncomputable def parseM (text : Str) : List Tk × Int :=
 if 1024 < text.length then ([], 14) else match tsM ((spl 59 text).map hdw) (spl 59 text) with
  | none => ([], 2)
  | some ts => if goodM ts = 0 then (ts, 0) else ([], goodM ts)
theorem tkM_len {names : List Str} : ∀ {r : List Str} {t t' : Tk} {ks : List Str}, tkM names r t ks = some t' → t'.after.length ≤ t.after.length + sumL r + r.length
 | [], t, t', ks, h => by cases h; simp [sumL]
 | s :: r, t, t', ks, h => by
  unfold tkM at h
  split at h
  ·cases h
  ·split at h
   ·cases h
   ·split at h
    ·cases h
    ·rename_i t1 h1
     have h2 := setM_len h1
     have h3 := tkM_len h
     have := (cut_len 61 s).2
     have hs : sumL (s :: r) = s.length + sumL r := by simp [sumL]
     rw [hs]; simp only [List.length_cons]; omega
theorem taskM_len {names : List Str} {s : Str} {t : Tk} (h : taskM names (wds s) = some t) : t.after.length ≤ s.length + 1 := by
 unfold taskM at h
 have h1 := tkM_len h
 have h2 : sumL (wds s) + (wds s).length = s.length + 1 := spl_sum 32 s
 have h3 : sumL (wds s).tail + (wds s).tail.length ≤ sumL (wds s) + (wds s).length := by
  cases wds s with
  | nil => simp
  | cons a b => simp [sumL]; omega
 simp only [List.length_nil] at h1
 omega
theorem tsM_len {names : List Str} : ∀ {r : List Str} {ts : List Tk}, tsM names r = some ts → ts.length = r.length ∧ ∀ B, (∀ s ∈ r, s.length ≤ B) → ∀ t ∈ ts, t.after.length ≤ B + 1
 | [], ts, h => by cases h; exact ⟨rfl, fun B _ t ht => by cases ht⟩
 | s :: r, ts, h => by
  unfold tsM at h
  split at h
  ·cases h
  ·rename_i t ht
   rw [Option.map_eq_some_iff] at h
   obtain ⟨l, h1, rfl⟩ := h
   obtain ⟨i1, i2⟩ := tsM_len h1
   refine ⟨by simp [i1], fun B hB u hu => ?_⟩
   rcases List.mem_cons.1 hu with rfl | hu
   ·have := taskM_len ht
    have := hB s (.head _)
    omega
   ·exact i2 B (fun s hs => hB s (.tail _ hs)) u hu
theorem RD.nil (H : Hp) : RD H .slice0 [] [] := ⟨rfl, RL.nil H 6, fun i x t h => by simp at h⟩
theorem parse1_loop {nx rx : AV} {rws : List AV} {ps : List Str} {R D : Nat} (hpl : ps.length ≤ 2000) (hps : ∀ s ∈ ps, s.length ≤ 1100) (hRD : R ≠ D) : ∀ (r : List Str) (i : Nat) (H : Hp) (dx : AV) (xs : List AV) (ts : List Tk), i ≤ ps.length → ps.drop i = r → Gl H → 11 ≤ D → (∀ j ∈ rid dx, 11 ≤ j) → PS H rx nx rws ps → Cs H R [.slice0] 59 0 → Cs H D [dx] 59 0 → OL H 107 6 dx (List.zipWith tkC ts xs) → RD H dx xs ts → ts.length = i → (∀ x ∈ xs, ∀ j ∈ rid x, j ∉ rid dx ∧ j ≠ D) → D ∉ rid dx → (∀ j, j ∈ rid rx ∨ j ∈ rid nx ∨ (∃ wx ∈ rws, j ∈ rid wx) ∨ j = R → j ∉ rid dx ∧ j ≠ D) →
  ∃ H' S, Out S H H' ∧ (∀ j ∈ S, j = D ∨ j = R ∨ j ∈ rid dx ∨ H.next ≤ j) ∧ ((∃ dx' xs' l, tsM (ps.map hdw) r = some l ∧ (∀ j71 : K.Fn 2, l_def_Parse1 JN GO cK j71 (.ptr R 0) nx (.ptr D 0) rx (.int .i64 (ps.length : Nat)) (.int .i64 (i : Nat)) H = j71 (.ptr R 0) (.ptr D 0) H') ∧ Cs H' D [dx'] 59 0 ∧ Cs H' R [.slice0] 59 0 ∧ RD H' dx' xs' (ts ++ l) ∧ ∀ j ∈ fpD dx' xs', j ∈ fpD dx xs ∨ H.next ≤ j) ∨
   (tsM (ps.map hdw) r = none ∧ ∀ j71 : K.Fn 2, l_def_Parse1 JN GO cK j71 (.ptr R 0) nx (.ptr D 0) rx (.int .i64 (ps.length : Nat)) (.int .i64 (i : Nat)) H = some (.tuple [.agg [.slice0], .int .i64 2], H')))
 | [], i, H, dx, xs, ts, hi, h, hg, hD11, hdx11, hP, hR, hD, hO, hT, htl, hxd, hDd, hd => by
  obtain rfl := drop_nil hi h
  refine ⟨H, [], Out.refl _ _, (fun j hj => by cases hj), .inl ⟨dx, xs, [], rfl, fun j71 => ?_, hD, hR, by simpa using hT, fun j hj => .inl hj⟩⟩
  rw [ql_def_Parse1]
  simp only [bl_def_Parse1, lt_f, k_s, k_x, Int.reduceBEq, Int.reduceBNe, Int.reduceLT, Int.reduceLE, Int.reduceGT, Int.reduceGE, Int.reduceNeg]
 | s :: r, i, H, dx, xs, ts, hi, h, hg, hD11, hdx11, hP, hR, hD, hO, hT, htl, hxd, hDd, hd => by
  obtain ⟨h1, h2, h3⟩ := hd_drop h
  have es := wrap_s h1 (by omega)
  have hsl := hps s (List.mem_of_getElem? h2)
  have hri : rws[i]? = some (rws[i]'(by rw [hP.len]; exact h1)) := List.getElem?_eq_getElem _
  generalize hwx : rws[i]'(by rw [hP.len]; exact h1) = wx at hri
  have hwm := List.mem_of_getElem? hri
  have hw := hP.w i wx s hri h2
  obtain ⟨q, q1, q2⟩ := hP.r.rw.ia1 hri .i64
  have hsum := spl_sum 32 s
  have hwl : (wds s).length ≤ 5000 := by have : (wds s).length = (spl 32 s).length := rfl; omega
  have hws : ∀ a ∈ wds s, a.length ≤ 80000 := fun a ha => by have := (spl_mem ha).2.2; omega
  obtain ⟨H1, t1, t2⟩ := task_c (names := ps.map hdw) hg (by rw [List.length_map]; omega) (spl_ne 32 s) hwl hws (by show sumL (spl 32 s) + (spl 32 s).length ≤ _; omega) hP.n.rw hw
  have hn1 := t1.nx
  have hgn := hg.nx
  unfold tsM
  rcases t2 with ⟨t, x, u1, u2, u3, u4⟩ | ⟨u1, v, u2, u3, u4⟩
  ·rw [u1]
   simp only
   have hx1 := u3.one
   have htlen := taskM_len u1
   have hst0 : st 6 (.ptr H1.next 0) (.agg (tkC t x)) (al H1 [(.str []), .slice0, (.int .i64 0), (.int .i64 0), (.int .i64 0), (.str [])] 107 0) = some (al H1 (tkC t x) 107 0) := st_tk t x hx1 H1
   have o2 := al_out H1 (tkC t x) 107 0
   have o12 : Out [] H (al H1 (tkC t x) 107 0) := t1.trans o2
   have hDlt := hD.1
   have hDc : cellAt (al H1 (tkC t x) 107 0) D 0 = some dx := (hD.out o12 (by simp)).cellAt rfl
   obtain ⟨dx1, H2, p1, p2, p3, p4, p5⟩ := (hO.out o12 (by simp)).push (el2 := 107) (z := [(.str []), .slice0, (.int .i64 0), (.int .i64 0), (.int .i64 0), (.str [])]) (vs := tkC t x) (by simp [tkC, oneC_s, oneC_i, hx1]) rfl (by decide) (by rw [List.length_zipWith, hT.len, Nat.min_self]; omega)
   have hn2 := p3.nx
   rw [al_nx] at hn2
   have hDD := (hD.out o12 (by simp)).out p3 hDd
   obtain ⟨H3, w1, w2, w3, w4⟩ := st1 hDD (by decide) (o := 0) (by simp) (v := dx1) p5
   have hzw : List.zipWith tkC ts xs ++ [tkC t x] = List.zipWith tkC (ts ++ [t]) (xs ++ [x]) := by
    rw [List.zipWith_append (by rw [hT.len])]; rfl
   rw [hzw] at p2
   have hdx1 : ∀ j ∈ rid dx1, j ∈ rid dx ∨ H1.next + 1 ≤ j := fun j hj => (p4 j hj).imp id fun z => by rw [al_nx] at z; exact z
   have hdl := hO.1.rw.lt
   have hDd1 : D ∉ rid dx1 := fun z => (hdx1 D z).elim hDd fun y => by omega
   have o3 : Out (D :: rid dx) H H3 := ((o12.mono fun j hj => by cases hj).trans (p3.mono fun j hj => .tail _ hj)).trans (w3.mono fun j hj => by rw [List.mem_singleton] at hj; subst hj; exact .head _)
   have hn3 := o3.nx
   have hxlt := u3.lt
   have hO3 := p2.out w3 fun j hj => by rw [List.mem_singleton]; intro e; subst e; exact hDd1 hj
   have hxold : ∀ y ∈ xs, ∀ j ∈ rid y, j < H.next := fun y hy j hj => hT.lt j (List.mem_append_right _ (List.mem_flatMap.2 ⟨y, hy, hj⟩))
   have hT3 : RD H3 dx1 (xs ++ [x]) (ts ++ [t]) := by
    refine ⟨by simp [hT.len], hO3.rl, fun k y t' hy ht' => ?_⟩
    by_cases hk : k < xs.length
    ·rw [List.getElem?_append_left hk] at hy
     rw [List.getElem?_append_left (by rw [← hT.len]; exact hk)] at ht'
     have hym := List.mem_of_getElem? hy
     exact (hT.aft k y t' hy ht').out o3 fun j hj => by rw [List.mem_cons, not_or]; exact ⟨(hxd y hym j hj).2, (hxd y hym j hj).1⟩
    ·have hk2 := (List.getElem?_eq_some_iff.1 hy).1
     rw [List.length_append] at hk2
     obtain rfl : k = xs.length := by simp at hk2; omega
     rw [List.getElem?_append_right (Nat.le_refl _), Nat.sub_self] at hy
     rw [List.getElem?_append_right (by rw [hT.len]; exact Nat.le_refl _), hT.len, Nat.sub_self] at ht'
     cases hy; cases ht'
     refine ((u3.out0 o2).out p3 fun j hj z => ?_).out w3 fun j hj => ?_
     ·have := u4 j hj; have := hdl j z; omega
     ·rw [List.mem_singleton]; have := u4 j hj; omega
   have hPo : ∀ {A B : Hp} {S : List Nat}, PS A rx nx rws ps → Out S A B → (∀ j, j ∈ rid rx ∨ j ∈ rid nx ∨ (∃ wx ∈ rws, j ∈ rid wx) → j ∉ S) → PS B rx nx rws ps := fun hp ho hs =>
    ⟨hp.r.out ho fun j hj => hs j (.inl hj), hp.n.out ho fun j hj => hs j (.inr (.inl hj)), hp.len, fun k wy s' hk hs' => (hp.w k wy s' hk hs').out ho fun j hj => hs j (.inr (.inr ⟨wy, List.mem_of_getElem? hk, hj⟩)), hp.dw, hp.dn⟩
   have hd3 : ∀ j, j ∈ rid rx ∨ j ∈ rid nx ∨ (∃ wx ∈ rws, j ∈ rid wx) ∨ j = R → j ∉ D :: rid dx := fun j hj => by rw [List.mem_cons, not_or]; exact ⟨(hd j hj).2, (hd j hj).1⟩
   have hlow : ∀ j, j ∈ rid rx ∨ j ∈ rid nx ∨ (∃ wx ∈ rws, j ∈ rid wx) ∨ j = R → j < H.next := fun j hj => by
    rcases hj with hj | hj | ⟨wy, hwy, hj⟩ | rfl
    ·exact hP.r.rw.lt j hj
    ·exact hP.n.rw.lt j hj
    ·obtain ⟨k, hk⟩ := List.getElem?_of_mem hwy
     have hkl := (List.getElem?_eq_some_iff.1 hk).1
     rw [hP.len] at hkl
     exact (hP.w k wy _ hk (List.getElem?_eq_getElem hkl)).lt j hj
    ·exact hR.1
   obtain ⟨H', S, i1, i2, i3⟩ := parse1_loop hpl hps hRD r (i + 1) H3 dx1 (xs ++ [x]) (ts ++ [t]) h1 h3 (hg.out o3 fun j hj => by
    rcases List.mem_cons.1 hj with rfl | hj
    ·exact hD11
    ·exact hdx11 j hj) hD11 (fun j hj => (hdx1 j hj).elim (hdx11 j) fun z => by omega) (hPo hP o3 fun j hj => hd3 j (hj.imp id fun z => z.imp id .inl)) (hR.out o3 (hd3 R (.inr (.inr (.inr rfl))))) w2 hO3 hT3 (by simp [htl]) (fun y hy j hj => by
     rcases List.mem_append.1 hy with hy | hy
     ·have := hxold y hy j hj
      exact ⟨fun z => (hdx1 j z).elim (hxd y hy j hj).1 fun w => by omega, (hxd y hy j hj).2⟩
     ·rw [List.mem_singleton] at hy
      subst hy
      have := u4 j hj
      have := hxlt j hj
      exact ⟨fun z => (hdx1 j z).elim (fun w => by have := hdl j w; omega) fun w => by omega, by omega⟩) hDd1 (fun j hj => ⟨fun z => (hdx1 j z).elim (hd j hj).1 fun w => by have := hlow j hj; omega, (hd j hj).2⟩)
   refine ⟨H', (D :: rid dx) ++ S, (o3.mono fun j hj => List.mem_append_left _ hj).trans (i1.mono fun j hj => List.mem_append_right _ hj), fun j hj => ?_, ?_⟩
   ·rcases List.mem_append.1 hj with hj | hj
    ·rcases List.mem_cons.1 hj with rfl | hj
     ·exact .inl rfl
     ·exact .inr (.inr (.inl hj))
    ·rcases i2 j hj with z | z | z | z
     ·exact .inl z
     ·exact .inr (.inl z)
     ·exact .inr (.inr ((hdx1 j z).imp id fun y => by omega))
     ·exact .inr (.inr (.inr (by omega)))
   ·have hnc6 : newCells (al H1 (tkC t x) 107 0) (tkC t x) 107 0 = some (H1.next + 1, al (al H1 (tkC t x) 107 0) (tkC t x) 107 0) := newCells_al (by rw [tk_len]; omega)
    have hfl6 : fl [(.str []), .slice0, (.int .i64 0), (.int .i64 0), (.int .i64 0), (.str [])] [(0, 6, .agg (tkC t x))] = some (tkC t x) := rfl
    have htk6 := tk_take t x
    have htl6 := tk_len t x
    have p1' := p1 _ rfl
    rw [al_nx] at p1'
    rcases i3 with ⟨dx', xs', l, k1, k2, k3, k4, k5, k6⟩ | ⟨k1, k2⟩
    ·refine .inl ⟨dx', xs', t :: l, by rw [k1]; rfl, fun j71 => ?_, k3, k4, by simpa [List.append_assoc] using k5, fun j hj => (k6 j hj).elim (fun z => ?_) fun z => .inr (by omega)⟩
     ·rw [ql_def_Parse1]
      simp (disch := (first | assumption | omega | (simp only [k_d, k_c, Nat.reduceAdd, Nat.reduceLeDiff, Nat.reduceLT] <;> fail) | (simp only [k_c]; omega) | (simp only [k_d, k_c, Nat.reduceAdd, Nat.reduceLeDiff, Nat.reduceLT, *] <;> fail) | fail)) only [bl_def_Parse1, lt_t h1, q1, q2, u2, hst0, hDc, htl6, htk6, hfl6, hnc6, p1', w1, es, k2, k_a, k_b, Nat.reduceAdd, k_s, k_x, Int.reduceBEq, Int.reduceBNe, Int.reduceLT, Int.reduceLE, Int.reduceGT, Int.reduceGE, Int.reduceNeg]
     ·rcases List.mem_append.1 z with z | z
      ·exact (hdx1 j z).imp (fun y => List.mem_append_left _ y) fun y => by omega
      ·rw [List.flatMap_append, List.mem_append] at z
       rcases z with z | z
       ·exact .inl (List.mem_append_right _ z)
       ·have : j ∈ rid x := by simpa using z
        exact .inr (u4 j this)
    ·refine .inr ⟨by rw [k1]; rfl, fun j71 => ?_⟩
     rw [ql_def_Parse1]
     simp (disch := (first | assumption | omega | (simp only [k_d, k_c, Nat.reduceAdd, Nat.reduceLeDiff, Nat.reduceLT] <;> fail) | (simp only [k_c]; omega) | (simp only [k_d, k_c, Nat.reduceAdd, Nat.reduceLeDiff, Nat.reduceLT, *] <;> fail) | fail)) only [bl_def_Parse1, lt_t h1, q1, q2, u2, hst0, hDc, htl6, htk6, hfl6, hnc6, p1', w1, es, k2, k_a, k_b, Nat.reduceAdd, k_s, k_x, Int.reduceBEq, Int.reduceBNe, Int.reduceLT, Int.reduceLE, Int.reduceGT, Int.reduceGE, Int.reduceNeg]
  ·rw [u1]
   have hst0 : st 6 (.ptr H1.next 0) (.agg v) (al H1 [(.str []), .slice0, (.int .i64 0), (.int .i64 0), (.int .i64 0), (.str [])] 107 0) = some (al H1 v 107 0) := st_alN u4 u3.symm rfl (by decide) u3.symm
   have o2 := al_out H1 v 107 0
   have hR2 := hR.out (t1.trans o2) (by simp)
   obtain ⟨H3, w1, w2, w3, w4⟩ := stAll (n := 1) (vs := [AV.slice0]) hR2 rfl rfl rfl
   have hR3 : cellsAt H3 R 0 1 = some [.slice0] := w2.cellsAt 1 0 (by simp)
   refine ⟨H3, [R], ((t1.trans o2).mono fun j hj => by cases hj).trans w3, fun j hj => by rw [List.mem_singleton] at hj; exact .inr (.inl hj), .inr ⟨rfl, fun j71 => ?_⟩⟩
   rw [ql_def_Parse1]
   simp (disch := (first | assumption | omega | (simp only [k_d, k_c, Nat.reduceAdd, Nat.reduceLeDiff, Nat.reduceLT] <;> fail) | (simp only [k_c]; omega) | (simp only [k_d, k_c, Nat.reduceAdd, Nat.reduceLeDiff, Nat.reduceLT, *] <;> fail) | fail)) only [bl_def_Parse1, lt_t h1, q1, q2, u2, hst0, w1, hR3, k_a, k_b, Nat.reduceAdd, k_s, k_x, Int.reduceBEq, Int.reduceBNe, Int.reduceLT, Int.reduceLE, Int.reduceGT, Int.reduceGE, Int.reduceNeg]
theorem parse_c {text : Str} {H : Hp} (hg : Gl H) (hl : text.length ≤ 4294967296) : ∃ dx xs H', cK (.func (.func 59) [] []) [.str text] H = some (.tuple [dv dx, .int .i64 (parseM text).2], H') ∧ RD H' dx xs (parseM text).1 ∧ Out [] H H' ∧ ∀ j ∈ fpD dx xs, H.next ≤ j := by
 have hgn := hg.nx
 have o1 := al_out H [.slice0] 59 0
 have c1 := al_cs H [.slice0] 59 0
 unfold parseM
 by_cases hbig : 1024 < text.length
 ·rw [if_pos hbig]
  have d : decide ((1024 : Int) < (text.length : Int)) = true := decide_eq_true (by omega)
  refine ⟨.slice0, [], al H [.slice0] 59 0, c_def_Parse ?_, RD.nil _, o1, fun j hj => by cases hj⟩
  have hst : st 1 (.ptr H.next 0) (.agg [.slice0]) (al H [.slice0] 59 0) = some (al H [.slice0] 59 0) := st_alN rfl rfl rfl (by decide) rfl
  unfold s_def_Parse
  simp (disch := (first | assumption | omega | (simp only [k_d, k_c, Nat.reduceAdd, Nat.reduceLeDiff, Nat.reduceLT] <;> fail) | (simp only [k_c]; omega) | (simp only [k_d, k_c, Nat.reduceAdd, Nat.reduceLeDiff, Nat.reduceLT, *] <;> fail) | fail)) only [d, hst, k_a, k_b, Nat.reduceAdd, k_s, k_x, Int.reduceBEq, Int.reduceBNe, Int.reduceLT, Int.reduceLE, Int.reduceGT, Int.reduceGE, Int.reduceNeg]
 rw [if_neg hbig]
 have d : decide ((1024 : Int) < (text.length : Int)) = false := decide_eq_false (by omega)
 obtain ⟨px, H1, s1, s2, s3, s4⟩ := split_c (c := 59) (by decide) (s := text) (by omega) (al H [.slice0] 59 0)
 have hn1 := s3.nx
 rw [al_nx] at hn1
 have hsum := spl_sum 59 text
 have hpl := s2.len1
 rw [strs_len] at hpl
 have hps : ∀ s ∈ spl 59 text, s.length ≤ 1100 := fun s hs => by have := (spl_mem hs).2.2; omega
 have c2 := c1.out s3 (by simp)
 obtain ⟨rx, nx, rws, H2, S2, i1, i2, i3, i4, i5, i6⟩ := parse_loop (R := .ptr H.next 0) (B := H1.next) (ps := spl 59 text) (by omega) (fun s hs => by have := hps s hs; omega) (spl 59 text) 0 H1 .slice0 .slice0 [] (Nat.zero_le _) List.drop_zero s2 ⟨.nil, .nil, by rw [List.take_zero]; rfl, fun i wx s h => by simp at h, (fun wx h => by cases h), fun j h => by cases h⟩ (fun j hj => ⟨by simp [rid], by simp [rid]⟩) (Nat.le_refl _) (fun j hj => by rcases hj with hj | hj <;> cases hj) (fun wx h => by cases h)
 rw [show (((0 : Nat) : Int)) = 0 from rfl] at i1
 have hn2 := i3.nx
 have ho2 : Out [] H H2 := (o1.trans s3).then i3 fun j hj => by have := i4 j hj; exact .inr (by omega)
 have c3 := c2.out i3 fun z => by have := i4 _ z; omega
 have o3 := al_out H2 [.slice0] 59 0
 have cD := al_cs H2 [.slice0] 59 0
 have hP3 : PS (al H2 [.slice0] 59 0) rx nx rws (spl 59 text) := ⟨i2.r.out o3 (by simp), i2.n.out o3 (by simp), i2.len, fun k wx s h1 h2 => (i2.w k wx s h1 h2).out0 o3, i2.dw, i2.dn⟩
 have hlow : ∀ j, j ∈ rid rx ∨ j ∈ rid nx ∨ (∃ wx ∈ rws, j ∈ rid wx) → j < H2.next := fun j hj => by
  rcases hj with hj | hj | ⟨wy, hwy, hj⟩
  ·exact i2.r.rw.lt j hj
  ·exact i2.n.rw.lt j hj
  ·obtain ⟨k, hk⟩ := List.getElem?_of_mem hwy
   have hkl := (List.getElem?_eq_some_iff.1 hk).1
   rw [i2.len] at hkl
   exact (i2.w k wy _ hk (List.getElem?_eq_getElem hkl)).lt j hj
 obtain ⟨H3, S3, k1, k2, k3⟩ := parse1_loop (R := H.next) (D := H2.next) (by omega) hps (by omega) (spl 59 text) 0 (al H2 [.slice0] 59 0) .slice0 [] [] (Nat.zero_le _) List.drop_zero (hg.out0 (ho2.trans o3)) (by omega) (fun j hj => by cases hj) hP3 (c3.out o3 (by simp)) cD (OL.nil _ _ _) (RD.nil _) rfl (fun x hx => by cases hx) (by simp [rid]) (fun j hj => ⟨by simp [rid], by
  rcases hj with hj | hj | hj | rfl
  ·have := hlow j (.inl hj); omega
  ·have := hlow j (.inr (.inl hj)); omega
  ·have := hlow j (.inr (.inr hj)); omega
  ·omega⟩)
 rw [show (((0 : Nat) : Int)) = 0 from rfl] at k3
 have hS3 : ∀ j ∈ S3, H.next ≤ j := fun j hj => by
  rcases k2 j hj with z | z | z | z
  ·omega
  ·omega
  ·cases z
  ·rw [al_nx] at z; omega
 have ho3 : Out [] H H3 := (ho2.trans o3).then k1 fun j hj => .inr (hS3 j hj)
 have hrl := i2.r.rw.len1
 rw [i2.len] at hrl
 have hlx : lenx rx = some (.int .i64 ((spl 59 text).length : Nat)) := hrl
 have hn3 := k1.nx
 rw [al_nx] at hn3
 rcases k3 with ⟨dx, xs, ts, m1, m2, m3, m4, m5, m6⟩ | ⟨m1, m2⟩
 ·rw [List.nil_append] at m5
  rw [m1]
  simp only
  obtain ⟨tl1, tl2⟩ := tsM_len m1
  have hfp : ∀ j ∈ fpD dx xs, H2.next + 1 ≤ j := fun j hj => (m6 j hj).elim (fun z => by cases z) fun z => by rw [al_nx] at z; exact z
  obtain ⟨H4, g1, g2⟩ := dgood_c (ts := ts) (by rw [tl1]; omega) (fun t ht => by have := tl2 1100 hps t ht; omega) m5
  have hn4 := g2.nx
  have hDc : cellsAt H3 H2.next 0 1 = some [dx] := m3.cellsAt 1 0 (by simp)
  have hD4 : cellsAt H4 H2.next 0 1 = some [dx] := (m3.out g2 (by simp)).cellsAt 1 0 (by simp)
  have cR := m4.out g2 (by simp)
  have hdx1 := m5.row.one
  by_cases h0 : goodM ts = 0
  ·rw [if_pos h0]
   have d0 : ((goodM ts) != 0) = false := by rw [h0]; rfl
   obtain ⟨H5, w1, w2, w3, w4⟩ := stAll (n := 1) (vs := [dx]) cR rfl rfl (by simp [hdx1])
   have hR5 : cellsAt H5 H.next 0 1 = some [dx] := w2.cellsAt 1 0 (by simp)
   refine ⟨dx, xs, H5, c_def_Parse ?_, (m5.out0 g2).out w3 fun j hj => by rw [List.mem_singleton]; have := hfp j hj; omega, (ho3.trans g2).then w3 fun j hj => by rw [List.mem_singleton] at hj; exact .inr (by omega), fun j hj => by have := hfp j hj; omega⟩
   unfold s_def_Parse
   simp (disch := (first | assumption | omega | (simp only [k_d, k_c, Nat.reduceAdd, Nat.reduceLeDiff, Nat.reduceLT] <;> fail) | (simp only [k_c]; omega) | (simp only [k_d, k_c, Nat.reduceAdd, Nat.reduceLeDiff, Nat.reduceLT, *] <;> fail) | fail)) only [d, s1, hpl, i1, hlx, m2, hDc, hD4, g1, d0, w1, hR5, k_a, k_b, Nat.reduceAdd, k_s, k_x, Int.reduceBEq, Int.reduceBNe, Int.reduceLT, Int.reduceLE, Int.reduceGT, Int.reduceGE, Int.reduceNeg]
  ·rw [if_neg h0]
   have d0 : ((goodM ts) != 0) = true := by simp [h0]
   obtain ⟨H5, w1, w2, w3, w4⟩ := stAll (n := 1) (vs := [AV.slice0]) cR rfl rfl rfl
   have hR5 : cellsAt H5 H.next 0 1 = some [.slice0] := w2.cellsAt 1 0 (by simp)
   refine ⟨.slice0, [], H5, c_def_Parse ?_, RD.nil _, (ho3.trans g2).then w3 fun j hj => by rw [List.mem_singleton] at hj; exact .inr (by omega), fun j hj => by cases hj⟩
   unfold s_def_Parse
   simp (disch := (first | assumption | omega | (simp only [k_d, k_c, Nat.reduceAdd, Nat.reduceLeDiff, Nat.reduceLT] <;> fail) | (simp only [k_c]; omega) | (simp only [k_d, k_c, Nat.reduceAdd, Nat.reduceLeDiff, Nat.reduceLT, *] <;> fail) | fail)) only [d, s1, hpl, i1, hlx, m2, hDc, hD4, g1, d0, w1, hR5, k_a, k_b, Nat.reduceAdd, k_s, k_x, Int.reduceBEq, Int.reduceBNe, Int.reduceLT, Int.reduceLE, Int.reduceGT, Int.reduceGE, Int.reduceNeg]
 ·rw [m1]
  simp only
  refine ⟨.slice0, [], H3, c_def_Parse ?_, RD.nil _, ho3, fun j hj => by cases hj⟩
  unfold s_def_Parse
  simp (disch := (first | assumption | omega | (simp only [k_d, k_c, Nat.reduceAdd, Nat.reduceLeDiff, Nat.reduceLT] <;> fail) | (simp only [k_c]; omega) | (simp only [k_d, k_c, Nat.reduceAdd, Nat.reduceLeDiff, Nat.reduceLT, *] <;> fail) | fail)) only [d, s1, hpl, i1, hlx, m2, k_a, k_b, Nat.reduceAdd, k_s, k_x, Int.reduceBEq, Int.reduceBNe, Int.reduceLT, Int.reduceLE, Int.reduceGT, Int.reduceGE, Int.reduceNeg]
theorem parseM_good {text : Str} (h : (parseM text).2 = 0) : goodM (parseM text).1 = 0 ∧ 1 ≤ (parseM text).1.length ∧ (parseM text).1.length ≤ 16 ∧ aftAll (parseM text).1 ∧ noCyc (parseM text).1.length (edFrom 0 (parseM text).1) ∧ (∀ t ∈ (parseM text).1, odd1 t = false ∧ odd3 t = false) := by
 have key : ∀ ts : List Tk, goodM ts = 0 → 1 ≤ ts.length ∧ ts.length ≤ 16 ∧ aftAll ts ∧ noCyc ts.length (edFrom 0 ts) ∧ ∀ t ∈ ts, odd1 t = false ∧ odd3 t = false := by
  intro ts h
  unfold goodM at h
  split at h
  ·cases h
  ·rename_i h1
   split at h
   ·cases h
   ·rename_i h2
    split at h
    ·cases h
    ·split at h
     ·cases h
     ·rename_i h3
      split at h
      ·cases h
      ·rename_i h4
       split at h
       ·rename_i h5
        have h1 := Decidable.not_not.1 h1
        refine ⟨h1.1, h1.2, any_p4 (by simpa using h4), h5, fun t ht => ?_⟩
        obtain ⟨i, hi⟩ := List.getElem?_of_mem ht
        have hil := (List.getElem?_eq_some_iff.1 hi).1
        rw [Bool.not_eq_true, List.any_eq_false] at h2 h3
        have a := h2 i (List.mem_range.2 hil)
        have b := h3 i (List.mem_range.2 hil)
        unfold p1 at a
        unfold p3 at b
        rw [hi] at a b
        exact ⟨by simpa using a, by simpa using b⟩
       ·cases h
 have hg : goodM (parseM text).1 = 0 := by
  unfold parseM at h ⊢
  by_cases hb : 1024 < text.length
  ·rw [if_pos hb] at h; cases h
  ·rw [if_neg hb] at h ⊢
   cases hts : tsM ((spl 59 text).map hdw) (spl 59 text) with
   | none => rw [hts] at h; cases h
   | some ts =>
    rw [hts] at h
    simp only at h ⊢
    by_cases h0 : goodM ts = 0
    ·rw [if_pos h0]; exact h0
    ·rw [if_neg h0] at h; exact absurd h h0
 exact ⟨hg, key _ hg⟩
end Go.Proofs.YtkhhnpkmblldbaaGreatDoor.DfK
namespace Go.Proofs.YtkhhnpkmblldbaaGreatDoor.Am.K
open Go
set_option linter.unusedVariables false
set_option linter.unusedSimpArgs false
theorem setR_left : ∀ (vs c r : List AV) (k : Nat), k + vs.length ≤ c.length → setR (c ++ r) k vs = setR c k vs ++ r
 | [], c, r, k, h => rfl
 | v :: vs, c, r, k, h => by
  simp only [List.length_cons] at h
  show setR ((c ++ r).set k v) (k + 1) vs = setR (c.set k v) (k + 1) vs ++ r
  rw [List.set_append_left _ _ (by omega)]
  exact setR_left vs _ _ _ (by rw [List.length_set]; omega)
theorem setR_right : ∀ (vs a r : List AV) (k : Nat), setR (a ++ r) (a.length + k) vs = a ++ setR r k vs
 | [], a, r, k => rfl
 | v :: vs, a, r, k => by
  show setR ((a ++ r).set (a.length + k) v) (a.length + k + 1) vs = a ++ setR (r.set k v) (k + 1) vs
  rw [List.set_append_right _ _ (by omega), Nat.add_sub_cancel_left, Nat.add_assoc]
  exact setR_right vs _ _ _
theorem flatten_set {es : Nat} {vs : List AV} {k : Nat} (hk : k + vs.length ≤ es) : ∀ {L : List (List AV)} {i : Nat} {c : List AV}, (∀ c ∈ L, c.length = es) → L[i]? = some c → (L.set i (setR c k vs)).flatten = setR L.flatten (i * es + k) vs
 | [], i, c, _, h => by simp at h
 | a :: L, 0, c, hl, h => by
  simp only [List.getElem?_cons_zero, Option.some.injEq] at h
  subst h
  have := hl a (.head _)
  rw [Nat.zero_mul, Nat.zero_add]
  show setR a k vs ++ L.flatten = setR (a ++ L.flatten) k vs
  rw [setR_left _ _ _ _ (by omega)]
 | a :: L, i + 1, c, hl, h => by
  simp only [List.getElem?_cons_succ] at h
  have ha := hl a (.head _)
  show a ++ (L.set i (setR c k vs)).flatten = setR (a ++ L.flatten) ((i + 1) * es + k) vs
  rw [flatten_set hk (fun d hd => hl d (.tail _ hd)) h, Nat.add_mul, Nat.one_mul, show i * es + es + k = a.length + (i * es + k) by omega, setR_right]
theorem OL.stAt {H : Hp} {el es : Nat} {x : AV} {L : List (List AV)} (h : OL H el es x L) {i k b o : Nat} {c vs : List AV} (hi : L[i]? = some c) (hia : ∀ kd, ia es x (.int kd i) = some (.ptr b o)) (hv : ∀ v ∈ vs, oneC v = true) (hk : k + vs.length ≤ es) (hes : 0 < es) :
  ∃ H', setCells H b (o + k) vs = some H' ∧ OL H' el es x (L.set i (setR c k vs)) ∧ Out (rid x) H H' ∧ H'.next = H.next := by
 obtain ⟨ho, hl⟩ := h
 have hil := (List.getElem?_eq_some_iff.1 hi).1
 have hfl := flatten_len hl
 have hfs := flatten_set hk hl hi
 have hc := hl c (List.mem_of_getElem? hi)
 have hpos : i * es + es ≤ L.flatten.length := by
  rw [hfl]
  have := Nat.mul_le_mul_right es (show i + 1 ≤ L.length by omega)
  rw [Nat.add_mul, Nat.one_mul] at this
  exact this
 have hL' : ∀ d ∈ L.set i (setR c k vs), d.length = es := fun d hd => by
  rcases List.mem_or_eq_of_mem_set hd with hd | rfl
  ·exact hl d hd
  ·rw [setR_len]; exact hc
 generalize hF : L.flatten = F at *
 cases ho with
 | nil => simp at hpos; omega
 | emp => simp at hpos; omega
 | @mk i0 off n cap ex _ ct lo hi0 fl hi' hg hf hlo hhi hcap hn hcc hs h1 he =>
  have hin : i < n := by
   rw [hfl] at hn
   exact Nat.eq_of_mul_eq_mul_right hes hn ▸ hil
  have e := hia .i64
  rw [ia_s hin] at e
  injection e with e
  injection e with eb eo
  subst eb
  subst eo
  have hcn : n * es ≤ cap * es := Nat.mul_le_mul_right _ hcap
  obtain ⟨H', c', q1, q2, q3, q4, q5⟩ := setCells_get vs H i0 (off + i * es + k) ct lo hi0 el fl hg hf (by omega) (by omega) (fun m hm => by
   have := hs (i * es + k + m) (by omega)
   rw [show off + i * es + k + m = off + (i * es + k + m) by omega]
   exact this) hv
  refine ⟨H', q1, ⟨?_, hL'⟩, ⟨by omega, fun j hj hn' => q4 j fun e => hn' (by subst e; rw [rid_s he]; exact .head _)⟩, q2⟩
  rw [hfs]
  refine .mk (by omega) q3 hf hlo hhi hcap (by rw [setR_len]; exact hn) (fun m w hm => ?_) (fun m hm => ?_) (fun w hw => ?_) he
  ·rw [q5]
   rw [setR_get _ _ _ _ (by omega)] at hm
   split at hm
   ·rw [if_pos (by omega), show off + m - (off + i * es + k) = m - (i * es + k) by omega]; exact hm
   ·rw [if_neg (by omega)]; exact hcc m w hm
  ·rw [q5]
   split
   ·rename_i hb
    rw [List.getElem?_eq_getElem (by omega)]; rfl
   ·exact hs m hm
  ·obtain ⟨m, hm⟩ := List.getElem?_of_mem hw
   rw [setR_get _ _ _ _ (by omega)] at hm
   split at hm
   ·exact hv w (List.mem_of_getElem? hm)
   ·exact h1 w (List.mem_of_getElem? hm)
theorem OL.st1 {H : Hp} {el es : Nat} {x : AV} {L : List (List AV)} (h : OL H el es x L) {i k b o : Nat} {c : List AV} {v : AV} (hi : L[i]? = some c) (hia : ∀ kd, ia es x (.int kd i) = some (.ptr b o)) (hv : oneC v = true) (hk : k < es) :
  ∃ H', st 1 (.ptr b (o + k)) v H = some H' ∧ OL H' el es x (L.set i (c.set k v)) ∧ Out (rid x) H H' ∧ H'.next = H.next := by
 obtain ⟨H', h1, h2⟩ := h.stAt (k := k) (vs := [v]) hi hia (fun u hu => by rw [List.mem_singleton] at hu; subst hu; exact hv) (by simp only [List.length_cons, List.length_nil]; omega) (by omega)
 refine ⟨H', ?_, h2⟩
 unfold st
 simp only [cellsV_one hv]
 exact h1
theorem OL.stN {H : Hp} {el es : Nat} {x : AV} {L : List (List AV)} (h : OL H el es x L) {i b o : Nat} {vs : List AV} (hi : i < L.length) (hia : ∀ kd, ia es x (.int kd i) = some (.ptr b o)) (hv : vs.all oneC = true) (hn : vs.length = es) (hes : 0 < es) :
  ∃ H', st es (.ptr b o) (.agg vs) H = some H' ∧ OL H' el es x (L.set i vs) ∧ Out (rid x) H H' ∧ H'.next = H.next := by
 have hi' : L[i]? = some L[i] := List.getElem?_eq_getElem hi
 obtain ⟨H', h1, h2⟩ := h.stAt (k := 0) (vs := vs) hi' hia (List.all_eq_true.1 hv) (by omega) hes
 rw [setR_all vs _ (by rw [hn, h.2 _ (List.mem_of_getElem? hi')])] at h2
 refine ⟨H', ?_, h2⟩
 unfold st
 have : Nat.beq es vs.length = true := by rw [hn]; exact Nat.beq_refl _
 simp only [cellsV_agg, this, cond_true]
 exact h1
end Go.Proofs.YtkhhnpkmblldbaaGreatDoor.Am.K
namespace Go.Proofs.YtkhhnpkmblldbaaGreatDoor.DfK
open Go Am Am.K DfEnv DfM LibP DfG
set_option linter.unusedVariables false
set_option linter.unusedSimpArgs false
set_option maxRecDepth 10000
set_option maxHeartbeats 1000000
structure RT where
 ph : Int
 tr : Int
 til : Int
 dat : Str
 deriving DecidableEq
def rtC (t : RT) : List AV := [.int .i64 t.ph, .int .i64 t.tr, .int .i64 t.til, .str t.dat]
def rts (l : List RT) : List (List AV) := l.map rtC
structure Rn where
 ts : List Tk
 st : Int
 rs : List RT
 sg : List Str
abbrev rv (dx : AV) (st : Int) (tx sx : AV) : List AV := [dx, .int .i64 st, tx, sx]
structure RV (H : Hp) (dx : AV) (xs : List AV) (tx sx : AV) (R : Rn) : Prop where
 d : RD H dx xs R.ts
 t : RL H 4 tx (rts R.rs)
 s : Rw H 1 sx (strs R.sg)
def fpR (dx : AV) (xs : List AV) (tx sx : AV) : List Nat := fpD dx xs ++ (rid tx ++ rid sx)
theorem RV.out {H H' : Hp} {dx tx sx : AV} {xs : List AV} {R : Rn} {S : List Nat} (h : RV H dx xs tx sx R) (k : Out S H H') (hs : ∀ j ∈ fpR dx xs tx sx, j ∉ S) : RV H' dx xs tx sx R :=
 ⟨h.d.out k fun j hj => hs j (List.mem_append_left _ hj), h.t.out k fun j hj => hs j (List.mem_append_right _ (List.mem_append_left _ hj)), h.s.out k fun j hj => hs j (List.mem_append_right _ (List.mem_append_right _ hj))⟩
theorem RV.out0 {H H' : Hp} {dx tx sx : AV} {xs : List AV} {R : Rn} (h : RV H dx xs tx sx R) (k : Out [] H H') : RV H' dx xs tx sx R := h.out k fun _ _ q => by cases q
theorem RV.lt {H : Hp} {dx tx sx : AV} {xs : List AV} {R : Rn} (h : RV H dx xs tx sx R) : ∀ j ∈ fpR dx xs tx sx, j < H.next := fun j hj => by
 rcases List.mem_append.1 hj with hj | hj
 ·exact h.d.lt j hj
 ·rcases List.mem_append.1 hj with hj | hj
  ·exact h.t.1.lt j hj
  ·exact h.s.lt j hj
theorem rts_len (l : List RT) : (rts l).length = l.length := by simp [rts]
theorem rts_get {l : List RT} {i : Nat} {t : RT} (h : l[i]? = some t) : (rts l)[i]? = some (rtC t) := by simp [rts, h]
theorem fd_rt (t : RT) : (rtC t)[0]? = some (.int .i64 t.ph) ∧ (rtC t)[1]? = some (.int .i64 t.tr) ∧ (rtC t)[2]? = some (.int .i64 t.til) ∧ (rtC t)[3]? = some (.str t.dat) := ⟨rfl, rfl, rfl, rfl⟩
end Go.Proofs.YtkhhnpkmblldbaaGreatDoor.DfK
namespace Go.Proofs.YtkhhnpkmblldbaaGreatDoor.DfK
open Go Am Am.K DfEnv DfM LibP DfG
set_option linter.unusedVariables false
set_option linter.unusedSimpArgs false
set_option maxRecDepth 10000
set_option maxHeartbeats 1000000
theorem sameS_rw {H : Hp} {es : Nat} {x : AV} {l : List AV} (h : Rw H es x l) : sameS x x = true := by
 cases h <;> simp [sameS]
theorem same_rw {H : Hp} {es : Nat} {x : AV} {l : List AV} (h : Rw H es x l) : same x x = true := by
 cases h <;> simp [same, sameS]
theorem tk_one {t : Tk} {x : AV} (hx : oneC x = true) : ∀ v ∈ tkC t x, oneC v = true := by
 intro v hv
 simp only [tkC, List.mem_cons, List.not_mem_nil, or_false] at hv
 rcases hv with rfl | rfl | rfl | rfl | rfl | rfl <;> first | rfl | exact hx
theorem RD.ones {H : Hp} {dx : AV} {xs : List AV} {ts : List Tk} (h : RD H dx xs ts) : ∀ v ∈ (List.zipWith tkC ts xs).flatten, oneC v = true := by
 intro v hv
 obtain ⟨c, hc, hv⟩ := List.mem_flatten.1 hv
 obtain ⟨i, hi⟩ := List.getElem?_of_mem hc
 rw [List.getElem?_zipWith] at hi
 cases ht : ts[i]? with
 | none => rw [ht] at hi; simp at hi
 | some t =>
  cases hx : xs[i]? with
  | none => rw [ht, hx] at hi; simp at hi
  | some x =>
   rw [ht, hx] at hi
   simp only [Option.some.injEq] at hi
   subst hi
   exact tk_one (h.aft i x t hx ht).one v hv
theorem rts_ones (l : List RT) : ∀ v ∈ (rts l).flatten, oneC v = true := by
 intro v hv
 obtain ⟨c, hc, hv⟩ := List.mem_flatten.1 hv
 obtain ⟨t, _, rfl⟩ := List.mem_map.1 hc
 simp only [rtC, List.mem_cons, List.not_mem_nil, or_false] at hv
 rcases hv with rfl | rfl | rfl | rfl <;> rfl
theorem zip_six {ts : List Tk} {xs : List AV} : ∀ c ∈ List.zipWith tkC ts xs, c.length = 6 := by
 intro c hc
 obtain ⟨i, hi⟩ := List.getElem?_of_mem hc
 rw [List.getElem?_zipWith] at hi
 cases ht : ts[i]? with
 | none => rw [ht] at hi; simp at hi
 | some t =>
  cases hx : xs[i]? with
  | none => rw [ht, hx] at hi; simp at hi
  | some x =>
   rw [ht, hx] at hi
   simp only [Option.some.injEq] at hi
   subst hi; rfl
theorem rts_four (l : List RT) : ∀ c ∈ rts l, c.length = 4 := fun c hc => by
 obtain ⟨t, _, rfl⟩ := List.mem_map.1 hc; rfl
theorem zip_set {ts : List Tk} {xs : List AV} {i : Nat} {t : Tk} {x y : AV} (ht : ts[i]? = some t) (hx : xs[i]? = some x) : (List.zipWith tkC ts xs).set i ((tkC t x).set 1 y) = List.zipWith tkC ts (xs.set i y) := by
 apply List.ext_getElem?
 intro k
 rw [List.getElem?_set, List.getElem?_zipWith, List.getElem?_zipWith, List.getElem?_set]
 have hil := (List.getElem?_eq_some_iff.1 ht).1
 have hxl := (List.getElem?_eq_some_iff.1 hx).1
 by_cases e : i = k
 ·subst e
  rw [if_pos rfl, if_pos rfl, if_pos hxl, if_pos (by rw [List.length_zipWith]; omega), ht]; rfl
 ·rw [if_neg e, if_neg e]
theorem clone_loop {ts : List Tk} {dx x31 : AV} {P B : Nat} (hn : ts.length ≤ 1000) (hal : ∀ t ∈ ts, t.after.length ≤ 1000) : ∀ (r : List Tk) (i : Nat) (H : Hp) (xk : List AV), i ≤ ts.length → ts.drop i = r → RD H dx xk ts → OL H 107 6 dx (List.zipWith tkC ts xk) → cellAt H P 0 = some dx → P < H.next → B ≤ H.next → P ∉ rid dx → (∀ x ∈ xk, ∀ j ∈ rid x, j ∉ rid dx) → (∀ (m : Nat) (x : AV), m < i → xk[m]? = some x → ∀ j ∈ rid x, B ≤ j) →
  ∃ xk' H', (∀ j28 : K.Fn 2, l__run_Run_clone JN GO cK j28 (.ptr P 0) x31 dx (.int .i64 (ts.length : Nat)) (.int .i64 (i : Nat)) H = j28 (.ptr P 0) x31 H') ∧ RD H' dx xk' ts ∧ (∀ x ∈ xk', ∀ j ∈ rid x, B ≤ j ∧ j ∉ rid dx) ∧ Out (rid dx) H H'
 | [], i, H, xk, hi, h, hR, hO, hP, hPl, hB, hPd, hd, hb => by
  obtain rfl := drop_nil hi h
  refine ⟨xk, H, fun j28 => ?_, hR, fun x hx j hj => ⟨?_, hd x hx j hj⟩, Out.refl _ _⟩
  ·rw [ql__run_Run_clone]
   simp only [bl__run_Run_clone, lt_f, k_s, k_x, Int.reduceBEq, Int.reduceBNe, Int.reduceLT, Int.reduceLE, Int.reduceGT, Int.reduceGE, Int.reduceNeg]
  ·obtain ⟨m, hm⟩ := List.getElem?_of_mem hx
   have := (List.getElem?_eq_some_iff.1 hm).1
   rw [hR.len] at this
   exact hb m x this hm j hj
 | t :: r, i, H, xk, hi, h, hR, hO, hP, hPl, hB, hPd, hd, hb => by
  obtain ⟨h1, h2, h3⟩ := hd_drop h
  have ht := List.mem_of_getElem? h2
  obtain ⟨x, b, o, q0, q1, q2, q3, q4, q5, q6⟩ := hR.at h2
  have es := wrap_s h1 (by omega)
  have o1 := al_out H (tkC t x) 107 0
  have hst := st_tk t x q1 H
  obtain ⟨e0, e1, e2, e3, e4, e5⟩ := fd_tk t x
  obtain ⟨y, H2, y1, y2, y3, y4, y5⟩ := cloneInt_c (q2.out0 o1) (fun v hv => by obtain ⟨z, _, rfl⟩ := List.mem_map.1 hv; rfl) (by rw [ints_len]; have := hal t ht; omega)
  have o2 := o1.trans y3
  have hn2 := o2.nx
  have hdl := hR.row.1.lt
  have hO2 := hO.out o2 (by simp)
  have hzi : (List.zipWith tkC ts xk)[i]? = some (tkC t x) := by rw [List.getElem?_zipWith, h2, q0]
  obtain ⟨H3, w1, w2, w3, w4⟩ := hO2.st1 (k := 1) hzi q3 y2.oneX (by decide)
  rw [zip_set h2 q0] at w2
  have hP1 : cellAt (al H (tkC t x) 107 0) P 0 = some dx := by rw [cellAt_al_ne hPl]; exact hP
  have hP2 : cellAt H2 P 0 = some dx := by rw [o2.cellAt hPl (by simp)]; exact hP
  have hP3 : cellAt H3 P 0 = some dx := by rw [w3.cellAt (by omega) hPd]; exact hP2
  have hxil := (List.getElem?_eq_some_iff.1 q0).1
  have hyd : ∀ j ∈ rid y, j ∉ rid dx := fun j hj z => by have := y4 j hj; rw [al_nx] at this; have := hdl j z; omega
  have hyb : ∀ j ∈ rid y, B ≤ j := fun j hj => by have := y4 j hj; rw [al_nx] at this; omega
  have hR3 : RD H3 dx (xk.set i y) ts := by
   refine ⟨by rw [List.length_set]; exact hR.len, w2.rl, fun m z u hz hu => ?_⟩
   rw [List.getElem?_set] at hz
   split at hz
   ·rename_i e
    subst e
    cases hz
    rw [h2] at hu; cases hu
    exact y2.rw.out w3 hyd
   ·exact ((hR.aft m z u hz hu).out0 o2).out w3 (hd z (List.mem_of_getElem? hz))
  obtain ⟨xk', H', i1, i2, i3, i4⟩ := clone_loop (x31 := x31) (P := P) (B := B) hn hal r (i + 1) H3 (xk.set i y) h1 h3 hR3 w2 hP3 (by omega) (by omega) hPd (fun z hz => by
   rcases List.mem_or_eq_of_mem_set hz with hz | rfl
   ·exact hd z hz
   ·exact hyd) (fun m z hm hz => by
   rw [List.getElem?_set] at hz
   split at hz
   ·cases hz
    exact hyb
   ·exact hb m z (by omega) hz)
  refine ⟨xk', H', fun j28 => ?_, i2, i3, ((o2.mono fun j hj => by cases hj).trans w3).trans i4⟩
  rw [ql__run_Run_clone]
  simp (disch := (first | assumption | omega | (simp only [k_d, k_c, Nat.reduceAdd, Nat.reduceLeDiff, Nat.reduceLT] <;> fail) | (simp only [k_c]; omega) | (simp only [k_d, k_c, Nat.reduceAdd, Nat.reduceLeDiff, Nat.reduceLT, *] <;> fail) | fail)) only [bl__run_Run_clone, lt_t h1, q3, q5, hst, hP1, e1, y1, w1, hP2, SM_t (same_rw hR.row.1), es, i1, k_a, k_b, Nat.reduceAdd, k_s, k_x, Int.reduceBEq, Int.reduceBNe, Int.reduceLT, Int.reduceLE, Int.reduceGT, Int.reduceGE, Int.reduceNeg]
structure RO (H : Hp) (dx : AV) (xs : List AV) (tx sx : AV) (R : Rn) : Prop where
 v : RV H dx xs tx sx R
 t : OL H 126 4 tx (rts R.rs)
 s : Ow H 9 1 sx (strs R.sg)
 dt : ∀ j ∈ rid tx, j ∉ fpD dx xs ∧ j ∉ rid sx
 ds : ∀ j ∈ rid sx, j ∉ fpD dx xs
structure Sm (R : Rn) : Prop where
 n : R.ts.length ≤ 1000
 a : ∀ t ∈ R.ts, t.after.length ≤ 1000
 r : R.rs.length ≤ 1000
 s : R.sg.length ≤ 1000
theorem clone_c {H : Hp} {dx tx sx : AV} {xs : List AV} {R : Rn} (h : RV H dx xs tx sx R) (hs : Sm R) :
  ∃ dx' xs' tx' sx' H', cK (.func (.func 102) [] []) [.agg (rv dx R.st tx sx)] H = some (.agg (rv dx' R.st tx' sx'), H') ∧ RO H' dx' xs' tx' sx' R ∧ Out [] H H' ∧ ∀ j ∈ fpR dx' xs' tx' sx', H.next ≤ j := by
 have hbx : bx 62 (.agg (rv dx R.st tx sx)) H = some (H.next, al H (rv dx R.st tx sx) 62 0) := bx_alA (by simp)
 have o1 := al_out H (rv dx R.st tx sx) 62 0
 have c1 := al_cs H (rv dx R.st tx sx) 62 0
 have n1 : (al H (rv dx R.st tx sx) 62 0).next = H.next + 1 := rfl
 generalize al H (rv dx R.st tx sx) 62 0 = H1 at *
 have hnc : newCells H1 [.slice0, (.int .i64 0), .slice0, .slice0] 62 0 = some (H.next + 1, al H1 [.slice0, (.int .i64 0), .slice0, .slice0] 62 0) := by rw [← n1]; exact newCells_al (by simp)
 have o2 := al_out H1 [.slice0, (.int .i64 0), .slice0, .slice0] 62 0
 have c2 := al_cs H1 [.slice0, (.int .i64 0), .slice0, .slice0] 62 0
 have n2 : (al H1 [.slice0, (.int .i64 0), .slice0, .slice0] 62 0).next = H.next + 2 := by rw [al_nx, n1]
 rw [n1] at c2
 generalize hA2 : al H1 [.slice0, (.int .i64 0), .slice0, .slice0] 62 0 = H2 at *
 have o12 := o1.trans o2
 have cP2 := c1.out o2 (by simp)
 have hv2 := h.out0 o12
 have k1 : cellAt H2 H.next 0 = some dx := cP2.cellAt rfl
 have hR2 := hv2.d
 have hfl : (List.zipWith tkC R.ts xs).flatten.length ≤ 6000 := by
  rw [flatten_len zip_six, List.length_zipWith]
  have := hs.n
  have : min R.ts.length xs.length ≤ 1000 := Nat.le_trans (Nat.min_le_left _ _) hs.n
  omega
 obtain ⟨dx', H3, a1, a2, a3, a4, a5⟩ := cloneTask_c hR2.row.1 hR2.ones (by omega)
 have cP3 := cP2.out a3 (by simp)
 have hd1 : oneC dx' = true := a2.oneX
 obtain ⟨H4, b1, b2, b3, b4⟩ := st1 cP3 (by decide) (o := 0) (by simp) (v := dx') hd1
 have hs1 : (rv dx R.st tx sx).set 0 dx' = rv dx' R.st tx sx := rfl
 rw [hs1] at b2
 have n3 := a3.nx
 have hPd : H.next ∉ rid dx' := fun z => by have := a4 _ z; omega
 have hP4 : cellAt H4 H.next 0 = some dx' := b2.cellAt rfl
 have hR3 := hR2.out0 a3
 have hlt2 := hR2.lt
 have hlt0 := h.d.lt
 have hR4 : RD H4 dx' xs R.ts := ⟨hR3.len, (show OL H3 107 6 dx' (List.zipWith tkC R.ts xs) from ⟨a2, zip_six⟩).rl.out b3 (fun j hj => by rw [List.mem_singleton]; intro e; subst e; exact hPd hj), fun m z u hz hu => (hR3.aft m z u hz hu).out b3 fun j hj => by
  rw [List.mem_singleton]
  have := (h.d.aft m z u hz hu).lt j hj
  omega⟩
 have hO4 : OL H4 107 6 dx' (List.zipWith tkC R.ts xs) := (show OL H3 107 6 dx' (List.zipWith tkC R.ts xs) from ⟨a2, zip_six⟩).out b3 (fun j hj => by rw [List.mem_singleton]; intro e; subst e; exact hPd hj)
 have hdl := hR4.lenx
 obtain ⟨xs', H5, l1, l2, l3, l4⟩ := clone_loop (x31 := .ptr (H.next + 1) 0) (P := H.next) (B := H.next + 2) hs.n hs.a R.ts 0 H4 xs (Nat.zero_le _) List.drop_zero hR4 hO4 hP4 b2.1 (by omega) hPd (fun x hx j hj z => by
  obtain ⟨m, hm⟩ := List.getElem?_of_mem hx
  have hml := (List.getElem?_eq_some_iff.1 hm).1
  rw [h.d.len] at hml
  have := (h.d.aft m x _ hm (List.getElem?_eq_getElem hml)).lt j hj
  have := a4 j z
  omega) (fun m x hm => by omega)
 rw [show (((0 : Nat) : Int)) = 0 from rfl] at l1
 have cP5 := b2.out l4 hPd
 have n5 := l4.nx
 have lowT : ∀ {S : List Nat} {A B : Hp}, Out S A B → True := fun _ => trivial
 have o25 : Out (H.next :: rid dx') H2 H5 := ((a3.mono (S' := H.next :: rid dx') fun j hj => by cases hj).trans (b3.mono fun j hj => by rw [List.mem_singleton] at hj; subst hj; exact .head _)).trans (l4.mono fun j hj => .tail _ hj)
 have hnotin : ∀ j, j < H.next → j ∉ H.next :: rid dx' := fun j hj z => by
  rcases List.mem_cons.1 z with e | z
  ·omega
  ·have := a4 j z; omega
 have ht5 : RL H5 4 tx (rts R.rs) := hv2.t.out o25 fun j hj => hnotin j (h.t.1.lt j hj)
 have hs5 : Rw H5 1 sx (strs R.sg) := hv2.s.out o25 fun j hj => hnotin j (h.s.lt j hj)
 have k2 : cellAt H5 H.next 2 = some tx := cP5.cellAt rfl
 obtain ⟨tx', H6, t1, t2, t3, t4, t5⟩ := cloneRTask_c ht5.1 (rts_ones R.rs) (by rw [flatten_len (rts_four _), rts_len]; have := hs.r; omega)
 have cP6 := cP5.out t3 (by simp)
 obtain ⟨H7, u1, u2, u3, u4⟩ := st1 cP6 (by decide) (o := 2) (by simp) (v := tx') t2.oneX
 have hs2 : (rv dx' R.st tx sx).set 2 tx' = rv dx' R.st tx' sx := rfl
 rw [hs2] at u2
 have n6 := t3.nx
 have k3 : cellAt H7 H.next 3 = some sx := u2.cellAt rfl
 have hP7 : ∀ j, H.next + 2 ≤ j ∨ j < H.next → j ∉ [H.next] := fun j hj => by rw [List.mem_singleton]; omega
 have hs7 : Rw H7 1 sx (strs R.sg) := (hs5.out0 t3).out u3 fun j hj => hP7 j (.inr (h.s.lt j hj))
 obtain ⟨sx', H8, v1, v2, v3, v4, v5⟩ := cloneStr_c hs7 (fun v hv => by obtain ⟨z, _, rfl⟩ := List.mem_map.1 hv; rfl) (by rw [strs_len]; have := hs.s; omega)
 have cP8 := u2.out v3 (by simp)
 obtain ⟨H9, w1, w2, w3, w4⟩ := st1 cP8 (by decide) (o := 3) (by simp) (v := sx') v2.oneX
 have hs3 : (rv dx' R.st tx' sx).set 3 sx' = rv dx' R.st tx' sx' := rfl
 rw [hs3] at w2
 have n8 := v3.nx
 have k4 : cellsAt H9 H.next 0 4 = some (rv dx' R.st tx' sx') := w2.cellsAt 4 0 (by simp)
 have hQd : H.next + 1 ∉ rid dx' := fun z => by have := a4 _ z; omega
 have hQ : ∀ S : List Nat, S = [H.next] → H.next + 1 ∉ S := fun S e => by rw [e, List.mem_singleton]; omega
 have cQ9 := (((((((c2.out a3 (by simp)).out b3 (hQ _ rfl)).out l4 hQd).out t3 (by simp)).out u3 (hQ _ rfl)).out v3 (by simp)).out w3 (hQ _ rfl))
 obtain ⟨H10, z1, z2, z3, z4⟩ := stAll (n := 4) (vs := rv dx' R.st tx' sx') cQ9 rfl rfl (by simp [hd1, t2.oneX, v2.oneX, oneC_i])
 have k5 : cellsAt H10 (H.next + 1) 0 4 = some (rv dx' R.st tx' sx') := z2.cellsAt 4 0 (by simp)
 have hT6 : OL H6 126 4 tx' (rts R.rs) := ⟨t2, rts_four _⟩
 have n7 := u3.nx
 have n9 := w3.nx
 have hi2 : ∀ j, H.next + 2 ≤ j → j ∉ [H.next] ∧ j ∉ [H.next + 1] := fun j hj => by rw [List.mem_singleton, List.mem_singleton]; omega
 have hd' : ∀ j ∈ fpD dx' xs', H.next + 2 ≤ j ∧ j < H5.next := fun j hj => ⟨by
  rcases List.mem_append.1 hj with hj | hj
  ·have := a4 j hj; omega
  ·obtain ⟨x, hx, hj⟩ := List.mem_flatMap.1 hj
   exact (l3 x hx j hj).1, l2.lt j hj⟩
 have ht' : ∀ j ∈ rid tx', H5.next ≤ j ∧ j < H6.next := fun j hj => ⟨t4 j hj, t2.rw.lt j hj⟩
 have hs' : ∀ j ∈ rid sx', H7.next ≤ j := v4
 have n45 : H.next + 2 ≤ H5.next := by omega
 have hT10 : OL H10 126 4 tx' (rts R.rs) := (((hT6.out u3 fun j hj => (hi2 j (by have := ht' j hj; omega)).1).out v3 (by simp)).out w3 fun j hj => (hi2 j (by have := ht' j hj; omega)).1).out z3 fun j hj => (hi2 j (by have := ht' j hj; omega)).2
 have hS10 : Ow H10 9 1 sx' (strs R.sg) := (v2.out w3 fun j hj => (hi2 j (by have := hs' j hj; omega)).1).out z3 fun j hj => (hi2 j (by have := hs' j hj; omega)).2
 have hD10 : RD H10 dx' xs' R.ts := ((((l2.out0 t3).out u3 fun j hj => (hi2 j (hd' j hj).1).1).out0 v3).out w3 fun j hj => (hi2 j (hd' j hj).1).1).out z3 fun j hj => (hi2 j (hd' j hj).1).2
 have key : ∀ {S : List Nat} {A B : Hp}, Out [] H A → Out S A B → (∀ j ∈ S, H.next ≤ j) → Out [] H B := fun h k hS => h.then k fun j hj => .inr (hS j hj)
 have one : ∀ (m : Nat), H.next ≤ m → ∀ j ∈ [m], H.next ≤ j := fun m hm j hj => by rw [List.mem_singleton] at hj; omega
 have out : Out [] H H10 := key (key (key (key (key (key (key (key o12 a3 (fun j hj => by cases hj)) b3 (one _ (Nat.le_refl _))) l4 fun j hj => by have := a4 j hj; omega) t3 (fun j hj => by cases hj)) u3 (one _ (Nat.le_refl _))) v3 (fun j hj => by cases hj)) w3 (one _ (Nat.le_refl _))) z3 (one _ (Nat.le_succ _))
 refine ⟨dx', xs', tx', sx', H10, c__run_Run_clone ?_, ⟨⟨hD10, hT10.rl, hS10.rw⟩, hT10, hS10, fun j hj => ⟨fun z => ?_, fun z => ?_⟩, fun j hj z => ?_⟩, out, fun j hj => ?_⟩
 ·unfold s__run_Run_clone
  simp (disch := (first | assumption | omega | (simp only [k_d, k_c, Nat.reduceAdd, Nat.reduceLeDiff, Nat.reduceLT] <;> fail) | (simp only [k_c]; omega) | (simp only [k_d, k_c, Nat.reduceAdd, Nat.reduceLeDiff, Nat.reduceLT, *] <;> fail) | fail)) only [hbx, hnc, n1, hA2, k1, a1, b1, hP4, hdl, l1, k2, t1, u1, k3, v1, w1, k4, z1, k5, k_a, k_b, Nat.reduceAdd, k_s, k_x, Int.reduceBEq, Int.reduceBNe, Int.reduceLT, Int.reduceLE, Int.reduceGT, Int.reduceGE, Int.reduceNeg]
 ·have := ht' j hj; have := hd' j z; omega
 ·have := ht' j hj; have := hs' j z; omega
 ·have := hs' j hj; have := hd' j z; omega
 ·rcases List.mem_append.1 hj with hj | hj
  ·have := hd' j hj; omega
  ·rcases List.mem_append.1 hj with hj | hj
   ·have := ht' j hj; omega
   ·have := hs' j hj; omega
def phN (rs : List RT) (a : Int) : Int := ((rs[a.toNat]?).map (·.ph)).getD 0
def blk (rs : List RT) (t : Tk) : Bool := t.after.any (fun a => phN rs a != 3)
def rdy (rs : List RT) (sg : List Str) (t : Tk) (r : RT) : Bool := (r.ph == 0) && (!(blk rs t) && ((t.on == []) || sg.any (fun a => t.on == a)))
def settleT (rs : List RT) (sg : List Str) (t : Tk) (r : RT) : RT := if rdy rs sg t r then { r with ph := 1 } else r
def settleM (R : Rn) : Rn := { R with rs := List.zipWith (settleT R.rs R.sg) R.ts R.rs, st := if R.rs.all (fun r => r.ph == 3) then 1 else R.st }
theorem settleT_ph (rs : List RT) (sg : List Str) (t : Tk) (r : RT) : ((settleT rs sg t r).ph == 3) = (r.ph == 3) := by
 unfold settleT
 split
 ·rename_i h
  unfold rdy at h
  rw [Bool.and_eq_true, beq_iff_eq] at h
  rw [h.1]; rfl
 ·rfl
theorem any_congr' {α : Type} {p q : α → Bool} : ∀ {l : List α}, (∀ a ∈ l, p a = q a) → l.any p = l.any q
 | [], _ => rfl
 | a :: l, h => by rw [List.any_cons, List.any_cons, h a (.head _), any_congr' fun b hb => h b (.tail _ hb)]
theorem settle1_c {H : Hp} {p G : Nat} {tx : AV} {rk : List RT} (hG : cellAt H G 0 = some (.ptr p 0)) (hC : cellAt H p 2 = some tx) (hT : RL H 4 tx (rts rk)) {a : Int} (h0 : 0 ≤ a) (h1 : a < rk.length) :
  cK (.func (.func 149) [] [.ptr G 0]) [.int .i64 a] H = some (.bool (phN rk a != 3), H) := by
 obtain ⟨m, rfl⟩ : ∃ m : Nat, a = m := ⟨a.toNat, by omega⟩
 have hm : rk[m]? = some (rk[m]'(by omega)) := List.getElem?_eq_getElem _
 obtain ⟨b, o, q1, q2, q3, q4, q5⟩ := hT.at (by decide) (rts_get hm)
 have e0 := q5 0 _ (fd_rt _).1
 rw [Nat.add_zero] at e0
 have hp : phN rk (m : Int) = (rk[m]'(by omega)).ph := by unfold phN; rw [Int.toNat_natCast, hm]; rfl
 refine c_run_Run_settle_1 ?_
 unfold s_run_Run_settle_1
 rw [hp]
 simp (disch := (first | assumption | omega | (simp only [k_d, k_c, Nat.reduceAdd, Nat.reduceLeDiff, Nat.reduceLT] <;> fail) | (simp only [k_c]; omega) | (simp only [k_d, k_c, Nat.reduceAdd, Nat.reduceLeDiff, Nat.reduceLT, *] <;> fail) | fail)) only [hG, hC, q1, e0, k_a, k_b, Nat.reduceAdd, k_s, k_x, Int.reduceBEq, Int.reduceBNe, Int.reduceLT, Int.reduceLE, Int.reduceGT, Int.reduceGE, Int.reduceNeg]
theorem rts_set (l : List RT) (i : Nat) (t : RT) : (rts l).set i (rtC t) = rts (l.set i t) := by simp [rts, List.map_set]
theorem settle_loop {ts : List Tk} {dx tx sx : AV} {xs : List AV} {st : Int} {p G : Nat} {sg : List Str} {rs0 : List RT} (hn : ts.length ≤ 1000) (hal : ∀ t ∈ ts, t.after.length ≤ 1000) (hsg : sg.length ≤ 1000) (hr0 : rs0.length = ts.length) (ha : ∀ t ∈ ts, ∀ a ∈ t.after, 0 ≤ a ∧ a < (ts.length : Int)) (hpt : p ∉ rid tx) (hGt : G ∉ rid tx) (hd : ∀ j ∈ rid tx, j ∉ fpD dx xs ∧ j ∉ rid sx) :
  ∀ (r : List Tk) (i : Nat) (H : Hp) (rk : List RT) (all : Bool), i ≤ ts.length → ts.drop i = r → Cs H p (rv dx st tx sx) 62 0 → cellAt H G 0 = some (.ptr p 0) → G < H.next → RD H dx xs ts → OL H 126 4 tx (rts rk) → Rw H 1 sx (strs sg) → rk.length = ts.length → (∀ k, i ≤ k → rk[k]? = rs0[k]?) → (∀ k, k < i → rk[k]? = (List.zipWith (settleT rs0 sg) ts rs0)[k]?) →
  ∃ H', (∀ j16 : K.Fn 2, l_run_Run_settle JN GO cK j16 (.ptr G 0) (.bool all) dx (.int .i64 (ts.length : Nat)) (.int .i64 (i : Nat)) H = j16 (.ptr G 0) (.bool (all && (rs0.drop i).all (fun r => r.ph == 3))) H') ∧ Cs H' p (rv dx st tx sx) 62 0 ∧ cellAt H' G 0 = some (.ptr p 0) ∧ OL H' 126 4 tx (rts (List.zipWith (settleT rs0 sg) ts rs0)) ∧ Out (rid tx) H H'
 | [], i, H, rk, all, hi, h, hC, hG, hGl, hR, hO, hS, hl, h1, h2 => by
  obtain rfl := drop_nil hi h
  have hrk : rk = List.zipWith (settleT rs0 sg) ts rs0 := by
   apply List.ext_getElem?
   intro k
   by_cases hk : k < ts.length
   ·exact h2 k hk
   ·rw [List.getElem?_eq_none (by omega), List.getElem?_eq_none (by rw [List.length_zipWith]; omega)]
  refine ⟨H, fun j16 => ?_, hC, hG, by rw [← hrk]; exact hO, Out.refl _ _⟩
  rw [ql_run_Run_settle, List.drop_eq_nil_of_le (by omega), List.all_nil, Bool.and_true]
  simp only [bl_run_Run_settle, lt_f, k_s, k_x, Int.reduceBEq, Int.reduceBNe, Int.reduceLT, Int.reduceLE, Int.reduceGT, Int.reduceGE, Int.reduceNeg]
 | t :: r, i, H, rk, all, hi, h, hC, hG, hGl, hR, hO, hS, hl, h1, h2 => by
  obtain ⟨g1, g2, g3⟩ := hd_drop h
  have ht := List.mem_of_getElem? g2
  obtain ⟨x, b, o, q0, q1, q2, q3, q4, q5, q6⟩ := hR.at g2
  have es := wrap_s g1 (by omega)
  have hst := st_tk t x q1 H
  obtain ⟨e0, e1, e2, e3, e4, e5⟩ := fd_tk t x
  have o1 := al_out H (tkC t x) 107 0
  have cT := al_cs H (tkC t x) 107 0
  have hcell : ∀ H' : Hp, Out [] H H' → cellAt H' G 0 = some (.ptr p 0) ∧ cellAt H' p 2 = some tx ∧ cellAt H' p 3 = some sx := fun H' k => ⟨by rw [k.cellAt hGl (by simp)]; exact hG, (hC.out k (by simp)).cellAt rfl, (hC.out k (by simp)).cellAt rfl⟩
  obtain ⟨H2, f1, f2⟩ := containsFuncint_c (fv := .func (.func 149) [] [.ptr G 0]) (p := fun a => phN rk a != 3) (q2.out0 o1) (by have := hal t ht; omega) (fun H' k a hm => by
   obtain ⟨c1, c2, c3⟩ := hcell H' (o1.trans k)
   exact ⟨H', settle1_c c1 c2 (hO.rl.out0 (o1.trans k)) (ha t ht a hm).1 (by rw [hl]; exact (ha t ht a hm).2), Out.refl _ _⟩)
  have o2 := o1.trans f2
  have hn2 := o2.nx
  obtain ⟨c1, c2, c3⟩ := hcell H2 o2
  have cT2 := cT.out f2 (by simp)
  have k5 : cellAt H2 H.next 5 = some (.str t.on) := cT2.cellAt e5
  have kx : cellAt (al H (tkC t x) 107 0) H.next 1 = some x := cT.cellAt e1
  have hil : i < rs0.length := by omega
  have hri : rs0[i]? = some (rs0[i]'hil) := List.getElem?_eq_getElem _
  have hrk : rk[i]? = some (rs0[i]'hil) := by rw [h1 i (Nat.le_refl _), hri]
  have hdr : rs0.drop i = (rs0[i]'hil) :: rs0.drop (i + 1) := (List.getElem_cons_drop hil).symm
  generalize rs0[i]'hil = u at *
  obtain ⟨b', o', p1, p2, p3, p4, p5⟩ := (hO.rl.out0 o2).at (by decide) (rts_get hrk)
  have u0 := p5 0 _ (fd_rt u).1
  rw [Nat.add_zero] at u0
  have hblk : (t.after.any fun a => phN rk a != 3) = blk rs0 t := by
   unfold blk
   refine any_congr' fun a hm => ?_
   obtain ⟨a0, a1⟩ := ha t ht a hm
   unfold phN
   by_cases hk : a.toNat < i
   ·have hz := h2 _ hk
    rw [List.getElem?_zipWith, List.getElem?_eq_getElem (show a.toNat < ts.length by omega), List.getElem?_eq_getElem (show a.toNat < rs0.length by omega)] at hz
    rw [hz, List.getElem?_eq_getElem (show a.toNat < rs0.length by omega)]
    simp only [Option.map_some, Option.getD_some]
    have := settleT_ph rs0 sg (ts[a.toNat]'(by omega)) (rs0[a.toNat]'(by omega))
    simp only [bne, this]
   ·rw [h1 _ (by omega)]
  rw [hblk] at f1
  have hz : (List.zipWith (settleT rs0 sg) ts rs0)[i]? = some (settleT rs0 sg t u) := by rw [List.getElem?_zipWith, g2, hri]
  have hct := containsstring_c (hS.out0 o2) (by omega) t.on
  rw [hdr, List.all_cons]
  have fin : ∀ (H3 : Hp) (rk3 : List RT), Out (rid tx) H2 H3 → OL H3 126 4 tx (rts rk3) → rk3.length = ts.length → (∀ k, k ≠ i → rk3[k]? = rk[k]?) → rk3[i]? = some (settleT rs0 sg t u) →
    (∀ H' : Hp, (∀ j16 : K.Fn 2, l_run_Run_settle JN GO cK j16 (.ptr G 0) (.bool (all && (u.ph == 3))) dx (.int .i64 (ts.length : Nat)) (.int .i64 ((i + 1 : Nat) : Int)) H3 = j16 (.ptr G 0) (.bool ((all && (u.ph == 3)) && (rs0.drop (i + 1)).all (fun r => r.ph == 3))) H') → (∀ b3 o3, ia 4 tx (.int .i64 (i : Nat)) = some (.ptr b3 o3) → cellAt H3 b3 o3 = some (.int .i64 (settleT rs0 sg t u).ph)) → cellAt H3 G 0 = some (.ptr p 0) → cellAt H3 p 2 = some tx → ∀ j16 : K.Fn 2, l_run_Run_settle JN GO cK j16 (.ptr G 0) (.bool all) dx (.int .i64 (ts.length : Nat)) (.int .i64 (i : Nat)) H = j16 (.ptr G 0) (.bool ((all && (u.ph == 3)) && (rs0.drop (i + 1)).all (fun r => r.ph == 3))) H') →
    ∃ H', (∀ j16 : K.Fn 2, l_run_Run_settle JN GO cK j16 (.ptr G 0) (.bool all) dx (.int .i64 (ts.length : Nat)) (.int .i64 (i : Nat)) H = j16 (.ptr G 0) (.bool (all && ((u.ph == 3) && (rs0.drop (i + 1)).all (fun r => r.ph == 3)))) H') ∧ Cs H' p (rv dx st tx sx) 62 0 ∧ cellAt H' G 0 = some (.ptr p 0) ∧ OL H' 126 4 tx (rts (List.zipWith (settleT rs0 sg) ts rs0)) ∧ Out (rid tx) H H' := by
   intro H3 rk3 k3 hO3 hl3 hne hei hrun
   have o3 : Out (rid tx) H H3 := (o2.mono fun j hj => by cases hj).trans k3
   have hG3 : cellAt H3 G 0 = some (.ptr p 0) := by rw [o3.cellAt hGl hGt]; exact hG
   have hC3 := hC.out o3 hpt
   have hn3 := k3.nx
   obtain ⟨H', i1, i2, i3, i4, i5⟩ := settle_loop hn hal hsg hr0 ha hpt hGt hd r (i + 1) H3 rk3 (all && (u.ph == 3)) g1 g3 hC3 hG3 (by omega) (hR.out o3 fun j hj z => (hd j z).1 hj) hO3 (hS.out o3 fun j hj z => (hd j z).2 hj) hl3 (fun k hk => by rw [hne k (by omega)]; exact h1 k (by omega)) (fun k hk => by
    by_cases e : k = i
    ·subst e; rw [hei, hz]
    ·rw [hne k e]; exact h2 k (by omega))
   refine ⟨H', fun j16 => ?_, i2, i3, i4, o3.trans i5⟩
   rw [← Bool.and_assoc]
   refine hrun H' i1 (fun b3 o3' hb => ?_) hG3 (hC3.cellAt rfl) j16
   obtain ⟨b4, o4, r1, r2, r3, r4, r5⟩ := hO3.rl.at (by decide) (rts_get hei)
   have e4 := r1 .i64
   rw [hb] at e4
   cases e4
   have := r5 0 _ (fd_rt (settleT rs0 sg t u)).1
   rwa [Nat.add_zero] at this
  have hph := settleT_ph rs0 sg t u
  have noset : settleT rs0 sg t u = u → (∀ H' : Hp, (∀ j16 : K.Fn 2, l_run_Run_settle JN GO cK j16 (.ptr G 0) (.bool (all && (u.ph == 3))) dx (.int .i64 (ts.length : Nat)) (.int .i64 ((i + 1 : Nat) : Int)) H2 = j16 (.ptr G 0) (.bool ((all && (u.ph == 3)) && (rs0.drop (i + 1)).all (fun r => r.ph == 3))) H') → ∀ j16 : K.Fn 2, l_run_Run_settle JN GO cK j16 (.ptr G 0) (.bool all) dx (.int .i64 (ts.length : Nat)) (.int .i64 (i : Nat)) H = j16 (.ptr G 0) (.bool ((all && (u.ph == 3)) && (rs0.drop (i + 1)).all (fun r => r.ph == 3))) H') →
    ∃ H', (∀ j16 : K.Fn 2, l_run_Run_settle JN GO cK j16 (.ptr G 0) (.bool all) dx (.int .i64 (ts.length : Nat)) (.int .i64 (i : Nat)) H = j16 (.ptr G 0) (.bool (all && ((u.ph == 3) && (rs0.drop (i + 1)).all (fun r => r.ph == 3)))) H') ∧ Cs H' p (rv dx st tx sx) 62 0 ∧ cellAt H' G 0 = some (.ptr p 0) ∧ OL H' 126 4 tx (rts (List.zipWith (settleT rs0 sg) ts rs0)) ∧ Out (rid tx) H H' := by
   intro e hrun
   exact fin H2 rk (Out.refl _ _) (hO.out o2 (by simp)) hl (fun k hk => rfl) (by rw [hrk, e]) fun H' z _ _ _ => hrun H' z
  have d3 : ∀ z : Bool, (u.ph == 3) = z → (u.ph == 3) = z := fun z h => h
  by_cases hr : rdy rs0 sg t u = true
  ·have hs : settleT rs0 sg t u = { u with ph := 1 } := by unfold settleT; rw [if_pos hr]
   obtain ⟨H3, w1, w2, w3, w4⟩ := (hO.out o2 (by simp)).st1 (k := 0) (v := .int .i64 1) (rts_get hrk) p1 rfl (by decide)
   have hset : (rtC u).set 0 (.int .i64 1) = rtC { u with ph := 1 } := rfl
   rw [hset, rts_set] at w2
   rw [Nat.add_zero] at w1
   have hkl := (List.getElem?_eq_some_iff.1 hrk).1
   refine fin H3 (rk.set i { u with ph := 1 }) w3 w2 (by rw [List.length_set]; exact hl) (fun k hk => by rw [List.getElem?_set_ne (fun e => hk e.symm)]) (by rw [List.getElem?_set_self hkl, hs]) fun H' z hb hG3 hC3 j16 => ?_
   have hb3 := hb b' o' (p1 .i64)
   rw [hs] at hb3
   have hb3' : cellAt H3 b' o' = some (.int .i64 1) := hb3
   unfold rdy at hr
   simp only [Bool.and_eq_true, Bool.or_eq_true, Bool.not_eq_true'] at hr
   obtain ⟨r1, r2, r3⟩ := hr
   have r0 : u.ph = 0 := by simpa using r1
   have r13 : (u.ph == 3) = false := by rw [r0]; rfl
   rw [r13, Bool.and_false] at z ⊢
   rw [ql_run_Run_settle]
   cases hon : (t.on == []) with
   | true => cases all <;> simp (disch := (first | assumption | omega | (simp only [k_d, k_c, Nat.reduceAdd, Nat.reduceLeDiff, Nat.reduceLT] <;> fail) | (simp only [k_c]; omega) | (simp only [k_d, k_c, Nat.reduceAdd, Nat.reduceLeDiff, Nat.reduceLT, *] <;> fail) | fail)) only [bl_run_Run_settle, lt_t g1, q3, q5, hst, kx, f1, c1, c2, c3, p1, u0, r1, r2, k5, hon, w1, hG3, hC3, hb3', es, z, k_a, k_b, Nat.reduceAdd, k_s, k_x, Int.reduceBEq, Int.reduceBNe, Int.reduceLT, Int.reduceLE, Int.reduceGT, Int.reduceGE, Int.reduceNeg]
   | false =>
    have r3' := r3.resolve_left (by rw [hon]; simp)
    rw [r3'] at hct
    cases all <;> simp (disch := (first | assumption | omega | (simp only [k_d, k_c, Nat.reduceAdd, Nat.reduceLeDiff, Nat.reduceLT] <;> fail) | (simp only [k_c]; omega) | (simp only [k_d, k_c, Nat.reduceAdd, Nat.reduceLeDiff, Nat.reduceLT, *] <;> fail) | fail)) only [bl_run_Run_settle, lt_t g1, q3, q5, hst, kx, f1, c1, c2, c3, p1, u0, r1, r2, k5, hon, hct, w1, hG3, hC3, hb3', es, z, k_a, k_b, Nat.reduceAdd, k_s, k_x, Int.reduceBEq, Int.reduceBNe, Int.reduceLT, Int.reduceLE, Int.reduceGT, Int.reduceGE, Int.reduceNeg]
  ·have hs : settleT rs0 sg t u = u := by unfold settleT; rw [if_neg hr]
   refine noset hs fun H' z j16 => ?_
   rw [ql_run_Run_settle]
   unfold rdy at hr
   cases r1 : (u.ph == 0) with
   | false => cases all <;> simp only [Bool.true_and, Bool.false_and] at z ⊢ <;> simp (disch := (first | assumption | omega | (simp only [k_d, k_c, Nat.reduceAdd, Nat.reduceLeDiff, Nat.reduceLT] <;> fail) | (simp only [k_c]; omega) | (simp only [k_d, k_c, Nat.reduceAdd, Nat.reduceLeDiff, Nat.reduceLT, *] <;> fail) | fail)) only [bl_run_Run_settle, lt_t g1, q3, q5, hst, kx, f1, c1, c2, c3, p1, u0, r1, k5, es, z, k_a, k_b, Nat.reduceAdd, k_s, k_x, Int.reduceBEq, Int.reduceBNe, Int.reduceLT, Int.reduceLE, Int.reduceGT, Int.reduceGE, Int.reduceNeg]
   | true =>
    cases r2 : blk rs0 t with
    | true =>
     rw [r2] at f1
     cases all <;> simp only [Bool.true_and, Bool.false_and] at z ⊢ <;> simp (disch := (first | assumption | omega | (simp only [k_d, k_c, Nat.reduceAdd, Nat.reduceLeDiff, Nat.reduceLT] <;> fail) | (simp only [k_c]; omega) | (simp only [k_d, k_c, Nat.reduceAdd, Nat.reduceLeDiff, Nat.reduceLT, *] <;> fail) | fail)) only [bl_run_Run_settle, lt_t g1, q3, q5, hst, kx, f1, c1, c2, c3, p1, u0, r1, r2, k5, es, z, k_a, k_b, Nat.reduceAdd, k_s, k_x, Int.reduceBEq, Int.reduceBNe, Int.reduceLT, Int.reduceLE, Int.reduceGT, Int.reduceGE, Int.reduceNeg]
    | false =>
     rw [r2] at f1
     rw [r1, r2] at hr
     have hon : (t.on == []) = false := by
      cases hq : (t.on == []) with
      | false => rfl
      | true => rw [hq] at hr; simp at hr
     have hno : (sg.any fun a => t.on == a) = false := by
      rw [hon] at hr
      cases hq : (sg.any fun a => t.on == a) with
      | false => rfl
      | true => rw [hq] at hr; simp at hr
     rw [hno] at hct
     cases all <;> simp only [Bool.true_and, Bool.false_and] at z ⊢ <;> simp (disch := (first | assumption | omega | (simp only [k_d, k_c, Nat.reduceAdd, Nat.reduceLeDiff, Nat.reduceLT] <;> fail) | (simp only [k_c]; omega) | (simp only [k_d, k_c, Nat.reduceAdd, Nat.reduceLeDiff, Nat.reduceLT, *] <;> fail) | fail)) only [bl_run_Run_settle, lt_t g1, q3, q5, hst, kx, f1, c1, c2, c3, p1, u0, r1, r2, k5, hon, hct, es, z, k_a, k_b, Nat.reduceAdd, k_s, k_x, Int.reduceBEq, Int.reduceBNe, Int.reduceLT, Int.reduceLE, Int.reduceGT, Int.reduceGE, Int.reduceNeg]
theorem settle_c {H : Hp} {p : Nat} {dx tx sx : AV} {xs : List AV} {R : Rn} (hC : Cs H p (rv dx R.st tx sx) 62 0) (hO : RO H dx xs tx sx R) (hp : p ∉ fpR dx xs tx sx) (hs : Sm R) (hl : R.rs.length = R.ts.length) (ha : ∀ t ∈ R.ts, ∀ a ∈ t.after, 0 ≤ a ∧ a < (R.ts.length : Int)) :
  ∃ H', cK (.func (.func 111) [] []) [.ptr p 0] H = some (.tuple [], H') ∧ Cs H' p (rv dx (settleM R).st tx sx) 62 0 ∧ RO H' dx xs tx sx (settleM R) ∧ Out (p :: rid tx) H H' := by
 have hbx : bx 152 (.ptr p 0) H = some (H.next, al H [.ptr p 0] 152 0) := bx_al1 rfl
 have o1 := al_out H [.ptr p 0] 152 0
 have hpt : p ∉ rid tx := fun z => hp (List.mem_append_right _ (List.mem_append_left _ z))
 have hG1 : cellAt (al H [.ptr p 0] 152 0) H.next 0 = some (.ptr p 0) := by rw [cellAt_al rfl]; rfl
 have hC1 := hC.out o1 (by simp)
 have k0 : cellAt (al H [.ptr p 0] 152 0) p 0 = some dx := hC1.cellAt rfl
 have hR1 := hO.v.d.out0 o1
 have hdl := hR1.lenx
 have htl := hO.v.t.1.lt
 obtain ⟨H2, i1, i2, i3, i4, i5⟩ := settle_loop (G := H.next) hs.n hs.a hs.s hl ha hpt (fun z => by have := htl _ z; omega) hO.dt R.ts 0 (al H [.ptr p 0] 152 0) R.rs true (Nat.zero_le _) List.drop_zero hC1 hG1 (by rw [al_nx]; omega) hR1 (hO.t.out o1 (by simp)) (hO.s.rw.out0 o1) hl (fun k _ => rfl) (fun k hk => by omega)
 rw [List.drop_zero, Bool.true_and, show (((0 : Nat) : Int)) = 0 from rfl] at i1
 have hR2 := hR1.out i5 fun j hj z => (hO.dt j z).1 hj
 have hS2 := (hO.s.out o1 (by simp)).out i5 fun j hj z => (hO.dt j z).2 hj
 have o2 : Out (rid tx) H H2 := (o1.mono fun j hj => by cases hj).trans i5
 cases hall : R.rs.all (fun r => r.ph == 3) with
 | true =>
  rw [hall] at i1
  obtain ⟨H3, w1, w2, w3, w4⟩ := st1 i2 (by decide) (o := 1) (by simp) (v := .int .i64 1) rfl
  have hst : (settleM R).st = 1 := by unfold settleM; rw [hall]; rfl
  have hset : (rv dx R.st tx sx).set 1 (.int .i64 1) = rv dx 1 tx sx := rfl
  rw [hset] at w2
  have hnp : ∀ {x : AV}, (∀ j ∈ rid x, j ∈ fpR dx xs tx sx) → ∀ j ∈ rid x, j ∉ [p] := fun hx j hj => by rw [List.mem_singleton]; intro e; subst e; exact hp (hx j hj)
  have hd3 : RD H3 dx xs R.ts := hR2.out w3 fun j hj => by rw [List.mem_singleton]; intro e; subst e; exact hp (List.mem_append_left _ hj)
  have ht3 := i4.out w3 (hnp fun j hj => List.mem_append_right _ (List.mem_append_left _ hj))
  have hs3 := hS2.out w3 (hnp fun j hj => List.mem_append_right _ (List.mem_append_right _ hj))
  refine ⟨H3, c_run_Run_settle ?_, by rw [hst]; exact w2, ⟨⟨hd3, ht3.rl, hs3.rw⟩, ht3, hs3, hO.dt, hO.ds⟩, (o2.mono fun j hj => .tail _ hj).trans (w3.mono fun j hj => by rw [List.mem_singleton] at hj; subst hj; exact .head _)⟩
  unfold s_run_Run_settle
  simp (disch := (first | assumption | omega | (simp only [k_d, k_c, Nat.reduceAdd, Nat.reduceLeDiff, Nat.reduceLT] <;> fail) | (simp only [k_c]; omega) | (simp only [k_d, k_c, Nat.reduceAdd, Nat.reduceLeDiff, Nat.reduceLT, *] <;> fail) | fail)) only [hbx, hG1, k0, hdl, i1, i3, w1, k_a, k_b, Nat.reduceAdd, k_s, k_x, Int.reduceBEq, Int.reduceBNe, Int.reduceLT, Int.reduceLE, Int.reduceGT, Int.reduceGE, Int.reduceNeg]
 | false =>
  rw [hall] at i1
  have hst : (settleM R).st = R.st := by unfold settleM; rw [hall]; rfl
  refine ⟨H2, c_run_Run_settle ?_, by rw [hst]; exact i2, ⟨⟨hR2, i4.rl, hS2.rw⟩, i4, hS2, hO.dt, hO.ds⟩, o2.mono fun j hj => .tail _ hj⟩
  unfold s_run_Run_settle
  simp (disch := (first | assumption | omega | (simp only [k_d, k_c, Nat.reduceAdd, Nat.reduceLeDiff, Nat.reduceLT] <;> fail) | (simp only [k_c]; omega) | (simp only [k_d, k_c, Nat.reduceAdd, Nat.reduceLeDiff, Nat.reduceLT, *] <;> fail) | fail)) only [hbx, hG1, k0, hdl, i1, i3, k_a, k_b, Nat.reduceAdd, k_s, k_x, Int.reduceBEq, Int.reduceBNe, Int.reduceLT, Int.reduceLE, Int.reduceGT, Int.reduceGE, Int.reduceNeg]
theorem RO.out {H H' : Hp} {dx tx sx : AV} {xs : List AV} {R : Rn} {S : List Nat} (h : RO H dx xs tx sx R) (k : Out S H H') (hs : ∀ j ∈ fpR dx xs tx sx, j ∉ S) : RO H' dx xs tx sx R :=
 ⟨h.v.out k hs, h.t.out k fun j hj => hs j (List.mem_append_right _ (List.mem_append_left _ hj)), h.s.out k fun j hj => hs j (List.mem_append_right _ (List.mem_append_right _ hj)), h.dt, h.ds⟩
theorem RO.out0 {H H' : Hp} {dx tx sx : AV} {xs : List AV} {R : Rn} (h : RO H dx xs tx sx R) (k : Out [] H H') : RO H' dx xs tx sx R := h.out k fun _ _ q => by cases q
theorem rt_one (t : RT) : (rtC t).all oneC = true := rfl
theorem RO.set {H : Hp} {dx tx sx : AV} {xs : List AV} {R : Rn} {i b o : Nat} (h : RO H dx xs tx sx R) (hi : i < R.rs.length) (hia : ∀ kd, ia 4 tx (.int kd i) = some (.ptr b o)) (t : RT) :
  ∃ H', st 4 (.ptr b o) (.agg (rtC t)) H = some H' ∧ RO H' dx xs tx sx { R with rs := R.rs.set i t } ∧ Out (rid tx) H H' ∧ H'.next = H.next := by
 obtain ⟨H', h1, h2, h3, h4⟩ := h.t.stN (vs := rtC t) (by rw [rts_len]; exact hi) hia (rt_one t) rfl (by decide)
 rw [rts_set] at h2
 exact ⟨H', h1, ⟨⟨h.v.d.out h3 fun j hj z => (h.dt j z).1 hj, h2.rl, h.v.s.out h3 fun j hj z => (h.dt j z).2 hj⟩, h2, h.s.out h3 fun j hj z => (h.dt j z).2 hj, h.dt, h.ds⟩, h3, h4⟩
abbrev zR : List AV := [.slice0, .int .i64 0, .slice0, .slice0]
abbrev Rn0 : Rn := ⟨[], 0, [], []⟩
theorem RO.zero (H : Hp) : RO H .slice0 [] .slice0 .slice0 Rn0 :=
 ⟨⟨RD.nil H, RL.nil H 4, .nil⟩, OL.nil H _ 4, .nil, fun j hj => (by cases hj), fun j hj => by cases hj⟩
structure Okr (R : Rn) : Prop where
 sm : Sm R
 len : R.rs.length = R.ts.length
 aft : ∀ t ∈ R.ts, ∀ a ∈ t.after, 0 ≤ a ∧ a < (R.ts.length : Int)
def Ans (f : AV) (args : List AV) (H : Hp) (R : Rn) (e : Int) : Prop :=
 ∃ dx xs tx sx H', cK f args H = some (.tuple [.agg (rv dx R.st tx sx), .int .i64 e], H') ∧ RO H' dx xs tx sx R ∧ Out [] H H' ∧ ∀ j ∈ fpR dx xs tx sx, H.next ≤ j
theorem Ans.err {f : AV} {args : List AV} {H H1 H' : Hp} {e : Int} {m : Nat} (h : cK f args H = some (.tuple [.agg zR, .int .i64 e], H')) (k : Out [] H H1) (k2 : Out [m] H1 H') (hm : H.next ≤ m) : Ans f args H Rn0 e :=
 ⟨.slice0, [], .slice0, .slice0, H', h, RO.zero H', k.then k2 (fun j hj => by rw [List.mem_singleton] at hj; exact .inr (by omega)), fun j hj => by cases hj⟩
theorem one_ge {n m : Nat} (h : n ≤ m) : ∀ j ∈ [m], n ≤ j := fun j hj => by rw [List.mem_singleton] at hj; omega
theorem outNew {H A B : Hp} {S : List Nat} (h : Out [] H A) (k : Out S A B) (hS : ∀ j ∈ S, H.next ≤ j) : Out [] H B := h.then k fun j hj => .inr (hS j hj)
theorem mks_n {H : Hp} {z : List AV} {el n s : Nat} (k j : IntKind) (hn : n ≤ 1048576) (hl : n * z.length ≤ 16777216) : mks z el s (.int k n) (.int j n) H = some (.slice H.next 0 n n true s, al H (List.replicate n z).flatten el 0) := by
 unfold mks
 have hr : rep n z = (List.replicate n z).flatten := by
  unfold rep
  rfl
 have hlen : (List.replicate n z).flatten.length = n * z.length := by simp
 simp only
 rw [if_pos ⟨by omega, by omega, by omega⟩, Int.toNat_natCast, hr, newCells_al (by rw [hlen]; omega)]
 rfl
abbrev rt0 : RT := ⟨0, 0, 0, []⟩
noncomputable def newM (ts : List Tk) : Rn × Int := if goodM ts = 0 then (settleM ⟨ts, 0, List.replicate ts.length rt0, []⟩, 0) else (Rn0, goodM ts)
theorem new_c {H : Hp} {dx : AV} {xs : List AV} {ts : List Tk} (h : RD H dx xs ts) (hn : ts.length ≤ 1000) (hal : ∀ t ∈ ts, t.after.length ≤ 1000) :
  Ans (.func (.func 82) [] []) [dv dx] H (newM ts).1 (newM ts).2 := by
 have hd1 := h.row.one
 have hbx : bx 59 (.agg [dx]) H = some (H.next, al H [dx] 59 0) := bx_alA (by simp)
 have o1 := al_out H [dx] 59 0
 have c1 := al_cs H [dx] 59 0
 have n1 : (al H [dx] 59 0).next = H.next + 1 := rfl
 generalize al H [dx] 59 0 = H1 at *
 have o2 := al_out H1 zR 62 0
 have c2 := al_cs H1 zR 62 0
 have n2 : (al H1 zR 62 0).next = H.next + 2 := by rw [al_nx, n1]
 rw [n1] at c2
 generalize hA2 : al H1 zR 62 0 = H2 at *
 have o12 := o1.trans o2
 have cP2 := c1.out o2 (by simp)
 have k1 : cellsAt H2 H.next 0 1 = some [dx] := cP2.cellsAt 1 0 (by simp)
 obtain ⟨H3, g1, o3⟩ := dgood_c (ts := ts) (by omega) (fun t ht => by have := hal t ht; omega) (h.out0 o12)
 have n3 := o3.nx
 have o13 := o12.trans o3
 have cP3 := cP2.out o3 (by simp)
 have cQ3 := c2.out o3 (by simp)
 unfold newM
 by_cases h0 : goodM ts = 0
 ·rw [if_pos h0]
  have hq : 1 ≤ ts.length ∧ ts.length ≤ 16 ∧ aftAll ts := by
   have h := h0
   unfold goodM at h
   split at h
   ·cases h
   ·rename_i h1
    split at h
    ·cases h
    ·split at h
     ·cases h
     ·split at h
      ·cases h
      ·split at h
       ·cases h
       ·rename_i h4
        have h1 := Decidable.not_not.1 h1
        exact ⟨h1.1, h1.2, any_p4 (by simpa using h4)⟩
  rw [h0] at g1
  have k2 : cellsAt H3 H.next 0 1 = some [dx] := cP3.cellsAt 1 0 (by simp)
  have k3 : cellAt H3 H.next 0 = some dx := cP3.cellAt rfl
  have hR3 := h.out0 o13
  have hdl := hR3.lenx
  have hfl : (List.replicate ts.length [(AV.int .i64 0), (.int .i64 0), (.int .i64 0), (.str [])]).flatten = (rts (List.replicate ts.length rt0)).flatten := by
   simp [rts, rtC]
  have hmk := mks_n (H := H3) (z := [(.int .i64 0), (.int .i64 0), (.int .i64 0), (.str [])]) (el := 126) (s := 4) (n := ts.length) .i64 .i64 (by omega) (by simp; omega)
  rw [hfl] at hmk
  have o4 := al_out H3 (rts (List.replicate ts.length rt0)).flatten 126 0
  have cM := al_cs H3 (rts (List.replicate ts.length rt0)).flatten 126 0
  have n4 : (al H3 (rts (List.replicate ts.length rt0)).flatten 126 0).next = H3.next + 1 := rfl
  generalize al H3 (rts (List.replicate ts.length rt0)).flatten 126 0 = H4 at *
  have hlen4 : (rts (List.replicate ts.length rt0)).flatten.length = ts.length * 4 := by rw [flatten_len (rts_four _), rts_len, List.length_replicate]
  have hT4 : RL H4 4 (.slice H3.next 0 ts.length ts.length true 4) (rts (List.replicate ts.length rt0)) := ⟨.mk cM.ro (by rw [hlen4]) (Nat.le_refl _) (by rw [Bool.true_and, ← Bool.not_eq_true, Nat.beq_eq]; omega), rts_four _⟩
  have hV4 : RV H4 dx xs (.slice H3.next 0 ts.length ts.length true 4) .slice0 ⟨ts, 0, List.replicate ts.length rt0, []⟩ := ⟨hR3.out0 o4, hT4, .nil⟩
  have hOk : Okr ⟨ts, 0, List.replicate ts.length rt0, []⟩ := ⟨⟨hn, hal, by rw [List.length_replicate]; omega, by simp⟩, by simp, fun t ht a ha => by
   obtain ⟨i, hi⟩ := List.getElem?_of_mem ht
   have := (aft_all hq.2.2 hi).1 a ha
   exact ⟨this.1, by show a < (ts.length : Int); omega⟩⟩
  obtain ⟨dx', xs', tx', sx', H5, r1, r2, r3, r4⟩ := clone_c hV4 hOk.sm
  have n5 := r3.nx
  have r1' : cK (.func (.func 102) [] []) [.agg [dx, .int .i64 0, .slice H3.next 0 ts.length ts.length true 4, .slice0]] H4 = some (.agg (rv dx' 0 tx' sx'), H5) := r1
  have o5 := al_out H5 (rv dx' 0 tx' sx') 62 0
  have cA := al_cs H5 (rv dx' 0 tx' sx') 62 0
  have stA : st 4 (.ptr H5.next 0) (.agg (rv dx' 0 tx' sx')) (al H5 zR 62 0) = some (al H5 (rv dx' 0 tx' sx') 62 0) := st_alN (by simp [r2.v.d.row.one, r2.t.rl.one, r2.s.oneX, oneC_i]) rfl rfl (by decide) rfl
  have n6 : (al H5 (rv dx' 0 tx' sx') 62 0).next = H5.next + 1 := rfl
  have hncA : newCells H5 zR 62 0 = some (H5.next, al H5 zR 62 0) := newCells_al (by simp)
  generalize hA6 : al H5 (rv dx' 0 tx' sx') 62 0 = H6 at *
  have fl5 := r2.v.lt
  obtain ⟨H7, s1, s2, s3, s4⟩ := settle_c (R := ⟨ts, 0, List.replicate ts.length rt0, []⟩) cA (r2.out0 o5) (fun z => by have := fl5 _ z; omega) hOk.sm hOk.len hOk.aft
  have htx : ∀ j ∈ H5.next :: rid tx', H4.next ≤ j := fun j hj => by
   rcases List.mem_cons.1 hj with rfl | hj
   ·exact n5
   ·exact r4 j (List.mem_append_right _ (List.mem_append_left _ hj))
  have hQ7 : Cs H7 (H.next + 1) zR 62 0 := (((cQ3.out o4 (by simp)).out r3 (by simp)).out o5 (by simp)).out s4 fun z => by have := htx _ z; omega
  generalize settleM ⟨ts, 0, List.replicate ts.length rt0, []⟩ = R7 at *
  have kA7 : cellsAt H7 H5.next 0 4 = some (rv dx' R7.st tx' sx') := s2.cellsAt 4 0 (by simp)
  obtain ⟨H8, w1, w2, w3, w4⟩ := stAll (n := 4) (vs := rv dx' R7.st tx' sx') hQ7 rfl rfl (by simp [r2.v.d.row.one, r2.t.rl.one, r2.s.oneX, oneC_i])
  have kQ : cellsAt H8 (H.next + 1) 0 4 = some (rv dx' R7.st tx' sx') := w2.cellsAt 4 0 (by simp)
  have k4 : cellsAt H4 H.next 0 1 = some [dx] := (cP3.out o4 (by simp)).cellsAt 1 0 (by simp)
  have fl1 : fl zR [(0, 1, .agg [dx]), (2, 1, .slice H3.next 0 ts.length ts.length true 4)] = some [dx, .int .i64 0, .slice H3.next 0 ts.length ts.length true 4, .slice0] := by
   rw [fl_consN (l := [dx]) (n := 1) rfl (by simp), fl_cons1 rfl (by simp), fl_nil]; rfl
  have smd : same (.agg [dx]) (.agg [dx]) = true := by
   show sameL _ _ = true
   unfold sameL
   rw [sameS_rw h.row.1]; rfl
  have d0 : ((0 : Int) != 0) = false := rfl
  have out := outNew (outNew (((o13.trans o4).trans r3).trans o5) s4 fun j hj => by have := htx j hj; omega) w3 (one_ge (Nat.le_succ _))
  refine ⟨dx', xs', tx', sx', H8, c_run_New ?_, s3.out w3 (fun j hj => by rw [List.mem_singleton]; have := r4 j hj; omega), out, fun j hj => by have := r4 j hj; omega⟩
  unfold s_run_New
  simp (disch := (first | assumption | omega | (simp only [k_d, k_c, Nat.reduceAdd, Nat.reduceLeDiff, Nat.reduceLT] <;> fail) | (simp only [k_c]; omega) | (simp only [k_d, k_c, Nat.reduceAdd, Nat.reduceLeDiff, Nat.reduceLT, *] <;> fail) | fail)) only [hbx, n1, hA2, k1, g1, d0, k2, k3, hdl, hmk, fl1, r1', hncA, stA, k4, SM_t smd, s1, kA7, w1, kQ, k_a, k_b, Nat.reduceAdd, k_s, k_x, Int.reduceBEq, Int.reduceBNe, Int.reduceLT, Int.reduceLE, Int.reduceGT, Int.reduceGE, Int.reduceNeg]
 ·rw [if_neg h0]
  have d0 : (goodM ts != 0) = true := by simp [h0]
  obtain ⟨H4, w1, w2, w3, w4⟩ := stAll (n := 4) (vs := zR) cQ3 rfl rfl rfl
  have k5 : cellsAt H4 (H.next + 1) 0 4 = some zR := w2.cellsAt 4 0 (by simp)
  refine Ans.err (c_run_New (?_ : _ = some (_, H4))) o13 w3 (Nat.le_succ _)
  unfold s_run_New
  simp (disch := (first | assumption | omega | (simp only [k_d, k_c, Nat.reduceAdd, Nat.reduceLeDiff, Nat.reduceLT] <;> fail) | (simp only [k_c]; omega) | (simp only [k_d, k_c, Nat.reduceAdd, Nat.reduceLeDiff, Nat.reduceLT, *] <;> fail) | fail)) only [hbx, n1, hA2, k1, g1, d0, w1, k5, k_a, k_b, Nat.reduceAdd, k_s, k_x, Int.reduceBEq, Int.reduceBNe, Int.reduceLT, Int.reduceLE, Int.reduceGT, Int.reduceGE, Int.reduceNeg]
theorem Okr.set {R : Rn} (h : Okr R) (i : Nat) (t : RT) : Okr { R with rs := R.rs.set i t } := ⟨⟨h.sm.n, h.sm.a, by rw [List.length_set]; exact h.sm.r, h.sm.s⟩, by rw [List.length_set]; exact h.len, h.aft⟩
theorem min_i (ty : Array TypeId) (x y : Int) (H : Hp) : builtinA P .min ty [.int .i64 x, .int .i64 y] H = some (.int .i64 (if y < x then y else x), H) := Eq.trans rfl (id rfl)
theorem RO.upd {H H' : Hp} {dx tx sx : AV} {xs : List AV} {R : Rn} {l : List RT} (h : RO H dx xs tx sx R) (hO : OL H' 126 4 tx (rts l)) (k : Out (rid tx) H H') : RO H' dx xs tx sx { R with rs := l } :=
 ⟨⟨h.v.d.out k fun j hj z => (h.dt j z).1 hj, hO.rl, h.v.s.out k fun j hj z => (h.dt j z).2 hj⟩, hO, h.s.out k fun j hj z => (h.dt j z).2 hj, h.dt, h.ds⟩
end Go.Proofs.YtkhhnpkmblldbaaGreatDoor.DfK
namespace Go.Proofs.YtkhhnpkmblldbaaGreatDoor.DfK
open Go Am Am.K DfEnv DfM LibP DfG
set_option linter.unusedVariables false
set_option linter.unusedSimpArgs false
set_option maxRecDepth 10000
set_option maxHeartbeats 1000000
def Sit (H : Hp) (i : Nat) (s : List Nat) (pos : Nat) : Prop := i < H.next ∧ H.h.get i = some (.sit s pos)
def sal (H : Hp) (s : List Nat) : Hp := ⟨H.h.put 34 H.next (.sit s 0), H.next + 1⟩
theorem range_s {t : TypeId} (hu : P.underlying t = some .string) (s : List Nat) (H : Hp) : rangeA P t (.str s) H = some (.ptr H.next 0, sal H s) := by
 unfold rangeA
 rw [hu]; rfl
theorem sal_sit (H : Hp) (s : List Nat) : Sit (sal H s) H.next s 0 := ⟨Nat.lt_succ_self _, by show (Tr.put 34 H.h H.next _).get H.next = _; rw [Tr.put, Tr.get_putP, if_pos rfl]⟩
theorem sal_out (H : Hp) (s : List Nat) : Out [] H (sal H s) := ⟨Nat.le_succ _, fun j hj _ => by show (Tr.put 34 H.h H.next _).get j = _; rw [Tr.put, Tr.get_putP, if_neg (by omega)]⟩
theorem Sit.out {H H' : Hp} {i pos : Nat} {s : List Nat} {S : List Nat} (h : Sit H i s pos) (k : Out S H H') (hi : i ∉ S) : Sit H' i s pos := ⟨Nat.lt_of_lt_of_le h.1 k.1, by rw [k.2 i h.1 hi]; exact h.2⟩
theorem next_s {H : Hp} {i pos b : Nat} {s : List Nat} (h : Sit H i s pos) (hb : s[pos]? = some b) (h7 : b < 128) :
  ∃ H', nextA (.ptr i 0) true H = some (.tuple [.bool true, .int .i64 (pos : Nat), .int .i32 (b : Nat)], H') ∧ Sit H' i s (pos + 1) ∧ Out [i] H H' ∧ H'.next = H.next := by
 have hl := (List.getElem?_eq_some_iff.1 hb).1
 have hd : s.drop pos = b :: s.drop (pos + 1) := by
  rw [List.drop_eq_getElem_cons hl]
  rw [List.getElem?_eq_getElem hl] at hb
  cases hb; rfl
 refine ⟨Am.setObj H i (.sit s (pos + 1)), ?_, ⟨h.1, by rw [get_setObj, if_pos rfl]⟩, ⟨Nat.le_refl _, fun j _ hn => by rw [get_setObj, if_neg (by simpa using hn)]⟩, rfl⟩
 have h8 : Nat.blt b 128 = true := by rw [Nat.blt_eq]; exact h7
 unfold nextA
 simp only [h.2, hd, h8, cond_true]
theorem next_e {H : Hp} {i pos : Nat} {s : List Nat} (h : Sit H i s pos) (hp : s.length ≤ pos) : nextA (.ptr i 0) true H = some (.tuple [.bool false], H) := by
 have hd : s.drop pos = [] := List.drop_eq_nil_of_le hp
 unfold nextA
 simp only [h.2, hd]
structure Ev where
 kd : Int
 rn : Int
 tk : Int
 ty : Int
 n : Int
 nm : Str
 ky : Str
 dt : Str
def evC (e : Ev) : List AV := [.int .i64 e.kd, .int .i64 e.rn, .int .i64 e.tk, .int .i64 e.ty, .int .i64 e.n, .str e.nm, .str e.ky, .str e.dt]
def fieldsM (k : Int) : Str :=
 if k = 1 then [77, 68] else if k = 2 then [82, 77, 75] else if k = 3 ∨ k = 5 then [82, 84, 89] else if k = 4 then [82, 84, 89, 68] else if k = 6 ∨ k = 9 then [78] else if k = 7 then [82, 77] else if k = 8 then [82] else []
def inI (n a b : Int) : Bool := decide (a ≤ n) && decide (n ≤ b)
noncomputable def goodF (e : Ev) (c : Nat) : Bool :=
 if c = 82 then inI e.rn 1 64 else if c = 84 then inI e.tk 0 15 else if c = 89 then inI e.ty 1 9 else if c = 78 then inI e.n 1 (if e.kd = 9 then 1048575 else 1099511627776)
 else if c = 77 then okN e.nm else if c = 75 then decide (e.ky.length ≤ 16) else if e.kd = 1 then decide (e.dt.length ≤ 900) else decide (e.dt.length ≤ 64)
def only1 (e x : Ev) (c : Nat) : Ev :=
 if c = 82 then { x with rn := e.rn } else if c = 84 then { x with tk := e.tk } else if c = 89 then { x with ty := e.ty } else if c = 78 then { x with n := e.n }
 else if c = 77 then { x with nm := e.nm } else if c = 75 then { x with ky := e.ky } else if c = 68 then { x with dt := e.dt } else x
def ev0 (k : Int) : Ev := ⟨k, 0, 0, 0, 0, [], [], []⟩
def onlyM (e : Ev) (l : Str) : Ev := l.foldl (only1 e) (ev0 e.kd)
def eqE' (a b : Ev) : Bool := (a.kd == b.kd) && ((a.rn == b.rn) && ((a.tk == b.tk) && ((a.ty == b.ty) && ((a.n == b.n) && ((a.nm == b.nm) && ((a.ky == b.ky) && (a.dt == b.dt)))))))
noncomputable def goodE (e : Ev) : Bool := !(fieldsM e.kd == []) && (eqE' (onlyM e (fieldsM e.kd)) e && (fieldsM e.kd).all (goodF e))
theorem ev_len (e : Ev) : (evC e).length = 8 := rfl
theorem ev_fd (e : Ev) : (evC e)[0]? = some (.int .i64 e.kd) ∧ (evC e)[1]? = some (.int .i64 e.rn) ∧ (evC e)[2]? = some (.int .i64 e.tk) ∧ (evC e)[3]? = some (.int .i64 e.ty) ∧ (evC e)[4]? = some (.int .i64 e.n) ∧ (evC e)[5]? = some (.str e.nm) ∧ (evC e)[6]? = some (.str e.ky) ∧ (evC e)[7]? = some (.str e.dt) := ⟨rfl, rfl, rfl, rfl, rfl, rfl, rfl, rfl⟩
theorem fields_c (k : Int) (H : Hp) : cK (.func (.func 54) [] []) [.int .i64 k] H = some (.str (fieldsM k), H) := by
 refine c_event_fields ?_
 unfold s_event_fields fieldsM
 by_cases h1 : k = 1
 ·subst h1; simp only [k_s, k_x, Int.reduceBEq, Int.reduceBNe, Int.reduceLT, Int.reduceLE, Int.reduceGT, Int.reduceGE, Int.reduceNeg, ↓reduceIte]
 have b1 : (k == 1) = false := by simp [h1]
 by_cases h2 : k = 2
 ·subst h2; simp only [b1, k_s, k_x, Int.reduceBEq, Int.reduceBNe, Int.reduceLT, Int.reduceLE, Int.reduceGT, Int.reduceGE, Int.reduceNeg]; rfl
 have b2 : (k == 2) = false := by simp [h2]
 by_cases h3 : k = 3
 ·subst h3; simp only [b1, b2, k_s, k_x, Int.reduceBEq, Int.reduceBNe, Int.reduceLT, Int.reduceLE, Int.reduceGT, Int.reduceGE, Int.reduceNeg]; rfl
 have b3 : (k == 3) = false := by simp [h3]
 by_cases h5 : k = 5
 ·subst h5; simp only [b1, b2, b3, k_s, k_x, Int.reduceBEq, Int.reduceBNe, Int.reduceLT, Int.reduceLE, Int.reduceGT, Int.reduceGE, Int.reduceNeg]; rfl
 have b5 : (k == 5) = false := by simp [h5]
 by_cases h4 : k = 4
 ·subst h4; simp only [b1, b2, b3, b5, k_s, k_x, Int.reduceBEq, Int.reduceBNe, Int.reduceLT, Int.reduceLE, Int.reduceGT, Int.reduceGE, Int.reduceNeg]; rfl
 have b4 : (k == 4) = false := by simp [h4]
 by_cases h6 : k = 6
 ·subst h6; simp only [b1, b2, b3, b5, b4, k_s, k_x, Int.reduceBEq, Int.reduceBNe, Int.reduceLT, Int.reduceLE, Int.reduceGT, Int.reduceGE, Int.reduceNeg]; rfl
 have b6 : (k == 6) = false := by simp [h6]
 by_cases h9 : k = 9
 ·subst h9; simp only [b1, b2, b3, b5, b4, b6, k_s, k_x, Int.reduceBEq, Int.reduceBNe, Int.reduceLT, Int.reduceLE, Int.reduceGT, Int.reduceGE, Int.reduceNeg]; rfl
 have b9 : (k == 9) = false := by simp [h9]
 by_cases h7 : k = 7
 ·subst h7; simp only [b1, b2, b3, b5, b4, b6, b9, k_s, k_x, Int.reduceBEq, Int.reduceBNe, Int.reduceLT, Int.reduceLE, Int.reduceGT, Int.reduceGE, Int.reduceNeg]; rfl
 have b7 : (k == 7) = false := by simp [h7]
 by_cases h8 : k = 8
 ·subst h8; simp only [b1, b2, b3, b5, b4, b6, b9, b7, k_s, k_x, Int.reduceBEq, Int.reduceBNe, Int.reduceLT, Int.reduceLE, Int.reduceGT, Int.reduceGE, Int.reduceNeg]; rfl
 have b8 : (k == 8) = false := by simp [h8]
 simp only [b1, b2, b3, b5, b4, b6, b9, b7, b8, h1, h2, h3, h4, h5, h6, h7, h8, h9, or_self, ↓reduceIte, k_s, k_x, Int.reduceBEq, Int.reduceBNe, Int.reduceLT, Int.reduceLE, Int.reduceGT, Int.reduceGE, Int.reduceNeg]
theorem ein_c (n a b : Int) (H : Hp) : cK (.func (.func 92) [] []) [.int .i64 n, .int .i64 a, .int .i64 b] H = some (.bool (inI n a b), H) := by
 refine c_event_in ?_
 unfold s_event_in inI
 by_cases h1 : a ≤ n
 ·simp (disch := (first | assumption | omega | (simp only [k_d, k_c, Nat.reduceAdd, Nat.reduceLeDiff, Nat.reduceLT] <;> fail) | (simp only [k_c]; omega) | (simp only [k_d, k_c, Nat.reduceAdd, Nat.reduceLeDiff, Nat.reduceLT, *] <;> fail) | fail)) only [h1, Bool.true_and, k_a, k_b, Nat.reduceAdd, k_s, k_x, Int.reduceBEq, Int.reduceBNe, Int.reduceLT, Int.reduceLE, Int.reduceGT, Int.reduceGE, Int.reduceNeg]
 ·simp (disch := (first | assumption | omega | (simp only [k_d, k_c, Nat.reduceAdd, Nat.reduceLeDiff, Nat.reduceLT] <;> fail) | (simp only [k_c]; omega) | (simp only [k_d, k_c, Nat.reduceAdd, Nat.reduceLeDiff, Nat.reduceLT, *] <;> fail) | fail)) only [h1, Bool.false_and, k_a, k_b, Nat.reduceAdd, k_s, k_x, Int.reduceBEq, Int.reduceBNe, Int.reduceLT, Int.reduceLE, Int.reduceGT, Int.reduceGE, Int.reduceNeg]
theorem good1e_c (e : Ev) (c : Nat) (H : Hp) : ∃ H', cK (.func (.func 58) [] []) [.agg (evC e), .int .i32 (c : Nat)] H = some (.bool (goodF e c), H') ∧ Out [] H H' := by
 have hbx : bx 29 (.agg (evC e)) H = some (H.next, al H (evC e) 29 0) := bx_alA (by rw [ev_len]; omega)
 have o1 := al_out H (evC e) 29 0
 have c1 := al_cs H (evC e) 29 0
 generalize al H (evC e) 29 0 = H1 at *
 obtain ⟨e0, e1, e2, e3, e4, e5, e6, e7⟩ := ev_fd e
 have k0 := c1.cellAt e0
 have k1 := c1.cellAt e1
 have k2 := c1.cellAt e2
 have k3 := c1.cellAt e3
 have k4 := c1.cellAt e4
 have k5 := c1.cellAt e5
 have k6 := c1.cellAt e6
 have k7 := c1.cellAt e7
 have hd : ∀ n : Nat, c ≠ n → (((c : Nat) : Int) == (n : Nat)) = false := fun n hn => by rw [beq_eq_false_iff_ne]; omega
 refine ⟨H1, c__event_Event_good ?_, o1⟩
 unfold s__event_Event_good goodF
 by_cases h1 : c = 82
 ·subst h1; simp (disch := (first | assumption | omega | (simp only [k_d, k_c, Nat.reduceAdd, Nat.reduceLeDiff, Nat.reduceLT] <;> fail) | (simp only [k_c]; omega) | (simp only [k_d, k_c, Nat.reduceAdd, Nat.reduceLeDiff, Nat.reduceLT, *] <;> fail) | fail)) only [hbx, k1, ein_c, ↓reduceIte, Int.cast_ofNat_Int, k_a, k_b, Nat.reduceAdd, k_s, k_x, Int.reduceBEq, Int.reduceBNe, Int.reduceLT, Int.reduceLE, Int.reduceGT, Int.reduceGE, Int.reduceNeg]
 have b1 : (((c : Nat) : Int) == 82) = false := hd 82 h1
 rw [if_neg h1]
 by_cases h2 : c = 84
 ·subst h2; simp (disch := (first | assumption | omega | (simp only [k_d, k_c, Nat.reduceAdd, Nat.reduceLeDiff, Nat.reduceLT] <;> fail) | (simp only [k_c]; omega) | (simp only [k_d, k_c, Nat.reduceAdd, Nat.reduceLeDiff, Nat.reduceLT, *] <;> fail) | fail)) only [hbx, k2, ein_c, ↓reduceIte, Int.cast_ofNat_Int, k_a, k_b, Nat.reduceAdd, k_s, k_x, Int.reduceBEq, Int.reduceBNe, Int.reduceLT, Int.reduceLE, Int.reduceGT, Int.reduceGE, Int.reduceNeg]
 have b2 : (((c : Nat) : Int) == 84) = false := hd 84 h2
 rw [if_neg h2]
 by_cases h3 : c = 89
 ·subst h3; simp (disch := (first | assumption | omega | (simp only [k_d, k_c, Nat.reduceAdd, Nat.reduceLeDiff, Nat.reduceLT] <;> fail) | (simp only [k_c]; omega) | (simp only [k_d, k_c, Nat.reduceAdd, Nat.reduceLeDiff, Nat.reduceLT, *] <;> fail) | fail)) only [hbx, k3, ein_c, ↓reduceIte, Int.cast_ofNat_Int, k_a, k_b, Nat.reduceAdd, k_s, k_x, Int.reduceBEq, Int.reduceBNe, Int.reduceLT, Int.reduceLE, Int.reduceGT, Int.reduceGE, Int.reduceNeg]
 have b3 : (((c : Nat) : Int) == 89) = false := hd 89 h3
 rw [if_neg h3]
 by_cases h4 : c = 78
 ·subst h4
  rw [if_pos rfl]
  by_cases hk : e.kd = 9
  ·have bk : (e.kd == 9) = true := by simp [hk]
   rw [if_pos hk]
   unfold inI
   by_cases hn : 1 ≤ e.n
   ·simp (disch := (first | assumption | omega | (simp only [k_d, k_c, Nat.reduceAdd, Nat.reduceLeDiff, Nat.reduceLT] <;> fail) | (simp only [k_c]; omega) | (simp only [k_d, k_c, Nat.reduceAdd, Nat.reduceLeDiff, Nat.reduceLT, *] <;> fail) | fail)) only [hbx, k0, k4, bk, hn, Bool.true_and, Int.cast_ofNat_Int, k_a, k_b, Nat.reduceAdd, k_s, k_x, Int.reduceBEq, Int.reduceBNe, Int.reduceLT, Int.reduceLE, Int.reduceGT, Int.reduceGE, Int.reduceNeg]
   ·simp (disch := (first | assumption | omega | (simp only [k_d, k_c, Nat.reduceAdd, Nat.reduceLeDiff, Nat.reduceLT] <;> fail) | (simp only [k_c]; omega) | (simp only [k_d, k_c, Nat.reduceAdd, Nat.reduceLeDiff, Nat.reduceLT, *] <;> fail) | fail)) only [hbx, k0, k4, bk, hn, Bool.false_and, Int.cast_ofNat_Int, k_a, k_b, Nat.reduceAdd, k_s, k_x, Int.reduceBEq, Int.reduceBNe, Int.reduceLT, Int.reduceLE, Int.reduceGT, Int.reduceGE, Int.reduceNeg]
  ·have bk : (e.kd == 9) = false := by simp [hk]
   rw [if_neg hk]
   unfold inI
   by_cases hn : 1 ≤ e.n
   ·simp (disch := (first | assumption | omega | (simp only [k_d, k_c, Nat.reduceAdd, Nat.reduceLeDiff, Nat.reduceLT] <;> fail) | (simp only [k_c]; omega) | (simp only [k_d, k_c, Nat.reduceAdd, Nat.reduceLeDiff, Nat.reduceLT, *] <;> fail) | fail)) only [hbx, k0, k4, bk, hn, Bool.true_and, Int.cast_ofNat_Int, k_a, k_b, Nat.reduceAdd, k_s, k_x, Int.reduceBEq, Int.reduceBNe, Int.reduceLT, Int.reduceLE, Int.reduceGT, Int.reduceGE, Int.reduceNeg]
   ·simp (disch := (first | assumption | omega | (simp only [k_d, k_c, Nat.reduceAdd, Nat.reduceLeDiff, Nat.reduceLT] <;> fail) | (simp only [k_c]; omega) | (simp only [k_d, k_c, Nat.reduceAdd, Nat.reduceLeDiff, Nat.reduceLT, *] <;> fail) | fail)) only [hbx, k0, k4, bk, hn, Bool.false_and, Int.cast_ofNat_Int, k_a, k_b, Nat.reduceAdd, k_s, k_x, Int.reduceBEq, Int.reduceBNe, Int.reduceLT, Int.reduceLE, Int.reduceGT, Int.reduceGE, Int.reduceNeg]
 have b4 : (((c : Nat) : Int) == 78) = false := hd 78 h4
 rw [if_neg h4]
 by_cases h5 : c = 77
 ·subst h5; simp (disch := (first | assumption | omega | (simp only [k_d, k_c, Nat.reduceAdd, Nat.reduceLeDiff, Nat.reduceLT] <;> fail) | (simp only [k_c]; omega) | (simp only [k_d, k_c, Nat.reduceAdd, Nat.reduceLeDiff, Nat.reduceLT, *] <;> fail) | fail)) only [hbx, k5, name_c, ↓reduceIte, Int.cast_ofNat_Int, k_a, k_b, Nat.reduceAdd, k_s, k_x, Int.reduceBEq, Int.reduceBNe, Int.reduceLT, Int.reduceLE, Int.reduceGT, Int.reduceGE, Int.reduceNeg]
 have b5 : (((c : Nat) : Int) == 77) = false := hd 77 h5
 rw [if_neg h5]
 have hle : ∀ (a n : Nat), decide (((a : Nat) : Int) ≤ ((n : Nat) : Int)) = decide (a ≤ n) := fun a n => by simp
 by_cases h6 : c = 75
 ·subst h6
  have := hle e.ky.length 16
  rw [show (((16 : Nat) : Int)) = 16 from rfl] at this
  simp (disch := (first | assumption | omega | (simp only [k_d, k_c, Nat.reduceAdd, Nat.reduceLeDiff, Nat.reduceLT] <;> fail) | (simp only [k_c]; omega) | (simp only [k_d, k_c, Nat.reduceAdd, Nat.reduceLeDiff, Nat.reduceLT, *] <;> fail) | fail)) only [hbx, k6, this, ↓reduceIte, Int.cast_ofNat_Int, k_a, k_b, Nat.reduceAdd, k_s, k_x, Int.reduceBEq, Int.reduceBNe, Int.reduceLT, Int.reduceLE, Int.reduceGT, Int.reduceGE, Int.reduceNeg]
 have b6 : (((c : Nat) : Int) == 75) = false := hd 75 h6
 rw [if_neg h6]
 by_cases h7 : e.kd = 1
 ·have b7 : (e.kd == 1) = true := by simp [h7]
  have := hle e.dt.length 900
  rw [show (((900 : Nat) : Int)) = 900 from rfl] at this
  rw [if_pos h7]
  simp (disch := (first | assumption | omega | (simp only [k_d, k_c, Nat.reduceAdd, Nat.reduceLeDiff, Nat.reduceLT] <;> fail) | (simp only [k_c]; omega) | (simp only [k_d, k_c, Nat.reduceAdd, Nat.reduceLeDiff, Nat.reduceLT, *] <;> fail) | fail)) only [hbx, k0, k7, b1, b2, b3, b4, b5, b6, b7, this, k_a, k_b, Nat.reduceAdd, k_s, k_x, Int.reduceBEq, Int.reduceBNe, Int.reduceLT, Int.reduceLE, Int.reduceGT, Int.reduceGE, Int.reduceNeg]
 ·have b7 : (e.kd == 1) = false := by simp [h7]
  have := hle e.dt.length 64
  rw [show (((64 : Nat) : Int)) = 64 from rfl] at this
  rw [if_neg h7]
  simp (disch := (first | assumption | omega | (simp only [k_d, k_c, Nat.reduceAdd, Nat.reduceLeDiff, Nat.reduceLT] <;> fail) | (simp only [k_c]; omega) | (simp only [k_d, k_c, Nat.reduceAdd, Nat.reduceLeDiff, Nat.reduceLT, *] <;> fail) | fail)) only [hbx, k0, k7, b1, b2, b3, b4, b5, b6, b7, this, k_a, k_b, Nat.reduceAdd, k_s, k_x, Int.reduceBEq, Int.reduceBNe, Int.reduceLT, Int.reduceLE, Int.reduceGT, Int.reduceGE, Int.reduceNeg]
theorem only_loop {e : Ev} {E X it : Nat} {l : Str} {y : AV} (hl : ∀ c ∈ l, c < 128) (h1 : E ≠ X) (h2 : E ≠ it) (h3 : X ≠ it) : ∀ (r : Str) (i : Nat) (H : Hp) (x : Ev), l.drop i = r → Sit H it l i → Cs H E (evC e) 29 0 → Cs H X (evC x) 29 0 →
  ∃ H', (∀ j19 : K.Fn 2, l__event_Event_only JN GO cK j19 (.ptr E 0) y (.ptr X 0) (.ptr it 0) H = j19 y (.ptr X 0) H') ∧ Cs H' X (evC (r.foldl (only1 e) x)) 29 0 ∧ Out [it, X] H H' ∧ H'.next = H.next
 | [], i, H, x, h, hS, hE, hX => by
  have hi : l.length ≤ i := by
   rcases Nat.lt_or_ge i l.length with q | q
   ·rw [List.drop_eq_getElem_cons q] at h; cases h
   ·exact q
  refine ⟨H, fun j19 => ?_, hX, Out.refl _ _, rfl⟩
  rw [ql__event_Event_only]
  simp only [bl__event_Event_only, next_e hS hi, k_s, k_x, Int.reduceBEq, Int.reduceBNe, Int.reduceLT, Int.reduceLE, Int.reduceGT, Int.reduceGE, Int.reduceNeg]
 | c :: r, i, H, x, h, hS, hE, hX => by
  obtain ⟨g1, g2, g3⟩ := hd_drop h
  obtain ⟨H1, n1, n2, n3, n4⟩ := next_s hS g2 (hl c (List.mem_of_getElem? g2))
  have hE1 := hE.out n3 (by simpa using h2)
  have hX1 := hX.out n3 (by simpa using h3)
  obtain ⟨e0, e1, e2, e3, e4, e5, e6, e7⟩ := ev_fd e
  have hd : ∀ n : Nat, c ≠ n → (((c : Nat) : Int) == (n : Nat)) = false := fun n hn => by rw [beq_eq_false_iff_ne]; omega
  have fin : ∀ (H2 : Hp) (x' : Ev), Cs H2 X (evC x') 29 0 → Out [X] H1 H2 → H2.next = H1.next → only1 e x c = x' → ∃ H', (∀ j19 : K.Fn 2, l__event_Event_only JN GO cK j19 (.ptr E 0) y (.ptr X 0) (.ptr it 0) H2 = j19 y (.ptr X 0) H') ∧ Cs H' X (evC ((c :: r).foldl (only1 e) x)) 29 0 ∧ Out [it, X] H H' ∧ H'.next = H.next := by
   intro H2 x' hx2 ho hn hx
   obtain ⟨H', i1, i2, i3, i4⟩ := only_loop (y := y) hl h1 h2 h3 r (i + 1) H2 x' g3 (n2.out ho (by simpa using fun q => h3 q.symm)) (hE1.out ho (by simpa using h1)) hx2
   refine ⟨H', i1, by rw [List.foldl_cons, hx]; exact i2, ((n3.mono (fun j hj => by simp at hj; simp [hj])).trans (ho.mono (fun j hj => by simp at hj; simp [hj]))).trans i3, by omega⟩
  have sv : ∀ (o : Nat) (v : AV), o < 8 → oneC v = true → ∃ H2, st 1 (.ptr X o) v H1 = some H2 ∧ Cs H2 X ((evC x).set o v) 29 0 ∧ Out [X] H1 H2 ∧ H2.next = H1.next := fun o v ho hv => st1 hX1 (by decide) (by rw [ev_len]; exact ho) hv
  by_cases q1 : c = 82
  ·subst q1
   obtain ⟨H2, s1, s2, s3, s4⟩ := sv 1 (.int .i64 e.rn) (by omega) rfl
   obtain ⟨H', i1, i2, i3, i4⟩ := fin H2 { x with rn := e.rn } s2 s3 s4 rfl
   refine ⟨H', fun j19 => ?_, i2, i3, i4⟩
   rw [ql__event_Event_only]
   simp (disch := (first | assumption | omega | (simp only [k_d, k_c, Nat.reduceAdd, Nat.reduceLeDiff, Nat.reduceLT] <;> fail) | (simp only [k_c]; omega) | (simp only [k_d, k_c, Nat.reduceAdd, Nat.reduceLeDiff, Nat.reduceLT, *] <;> fail) | fail)) only [bl__event_Event_only, n1, hE1.cellAt e1, s1, i1, Int.cast_ofNat_Int, k_a, k_b, Nat.reduceAdd, k_s, k_x, Int.reduceBEq, Int.reduceBNe, Int.reduceLT, Int.reduceLE, Int.reduceGT, Int.reduceGE, Int.reduceNeg]
  have b1 : (((c : Nat) : Int) == 82) = false := hd 82 q1
  by_cases q2 : c = 84
  ·subst q2
   obtain ⟨H2, s1, s2, s3, s4⟩ := sv 2 (.int .i64 e.tk) (by omega) rfl
   obtain ⟨H', i1, i2, i3, i4⟩ := fin H2 { x with tk := e.tk } s2 s3 s4 rfl
   refine ⟨H', fun j19 => ?_, i2, i3, i4⟩
   rw [ql__event_Event_only]
   simp (disch := (first | assumption | omega | (simp only [k_d, k_c, Nat.reduceAdd, Nat.reduceLeDiff, Nat.reduceLT] <;> fail) | (simp only [k_c]; omega) | (simp only [k_d, k_c, Nat.reduceAdd, Nat.reduceLeDiff, Nat.reduceLT, *] <;> fail) | fail)) only [bl__event_Event_only, n1, hE1.cellAt e2, s1, i1, Int.cast_ofNat_Int, k_a, k_b, Nat.reduceAdd, k_s, k_x, Int.reduceBEq, Int.reduceBNe, Int.reduceLT, Int.reduceLE, Int.reduceGT, Int.reduceGE, Int.reduceNeg]
  have b2 : (((c : Nat) : Int) == 84) = false := hd 84 q2
  by_cases q3 : c = 89
  ·subst q3
   obtain ⟨H2, s1, s2, s3, s4⟩ := sv 3 (.int .i64 e.ty) (by omega) rfl
   obtain ⟨H', i1, i2, i3, i4⟩ := fin H2 { x with ty := e.ty } s2 s3 s4 rfl
   refine ⟨H', fun j19 => ?_, i2, i3, i4⟩
   rw [ql__event_Event_only]
   simp (disch := (first | assumption | omega | (simp only [k_d, k_c, Nat.reduceAdd, Nat.reduceLeDiff, Nat.reduceLT] <;> fail) | (simp only [k_c]; omega) | (simp only [k_d, k_c, Nat.reduceAdd, Nat.reduceLeDiff, Nat.reduceLT, *] <;> fail) | fail)) only [bl__event_Event_only, n1, hE1.cellAt e3, s1, i1, Int.cast_ofNat_Int, k_a, k_b, Nat.reduceAdd, k_s, k_x, Int.reduceBEq, Int.reduceBNe, Int.reduceLT, Int.reduceLE, Int.reduceGT, Int.reduceGE, Int.reduceNeg]
  have b3 : (((c : Nat) : Int) == 89) = false := hd 89 q3
  by_cases q4 : c = 78
  ·subst q4
   obtain ⟨H2, s1, s2, s3, s4⟩ := sv 4 (.int .i64 e.n) (by omega) rfl
   obtain ⟨H', i1, i2, i3, i4⟩ := fin H2 { x with n := e.n } s2 s3 s4 rfl
   refine ⟨H', fun j19 => ?_, i2, i3, i4⟩
   rw [ql__event_Event_only]
   simp (disch := (first | assumption | omega | (simp only [k_d, k_c, Nat.reduceAdd, Nat.reduceLeDiff, Nat.reduceLT] <;> fail) | (simp only [k_c]; omega) | (simp only [k_d, k_c, Nat.reduceAdd, Nat.reduceLeDiff, Nat.reduceLT, *] <;> fail) | fail)) only [bl__event_Event_only, n1, hE1.cellAt e4, s1, i1, Int.cast_ofNat_Int, k_a, k_b, Nat.reduceAdd, k_s, k_x, Int.reduceBEq, Int.reduceBNe, Int.reduceLT, Int.reduceLE, Int.reduceGT, Int.reduceGE, Int.reduceNeg]
  have b4 : (((c : Nat) : Int) == 78) = false := hd 78 q4
  by_cases q5 : c = 77
  ·subst q5
   obtain ⟨H2, s1, s2, s3, s4⟩ := sv 5 (.str e.nm) (by omega) rfl
   obtain ⟨H', i1, i2, i3, i4⟩ := fin H2 { x with nm := e.nm } s2 s3 s4 rfl
   refine ⟨H', fun j19 => ?_, i2, i3, i4⟩
   rw [ql__event_Event_only]
   simp (disch := (first | assumption | omega | (simp only [k_d, k_c, Nat.reduceAdd, Nat.reduceLeDiff, Nat.reduceLT] <;> fail) | (simp only [k_c]; omega) | (simp only [k_d, k_c, Nat.reduceAdd, Nat.reduceLeDiff, Nat.reduceLT, *] <;> fail) | fail)) only [bl__event_Event_only, n1, hE1.cellAt e5, s1, i1, Int.cast_ofNat_Int, k_a, k_b, Nat.reduceAdd, k_s, k_x, Int.reduceBEq, Int.reduceBNe, Int.reduceLT, Int.reduceLE, Int.reduceGT, Int.reduceGE, Int.reduceNeg]
  have b5 : (((c : Nat) : Int) == 77) = false := hd 77 q5
  by_cases q6 : c = 75
  ·subst q6
   obtain ⟨H2, s1, s2, s3, s4⟩ := sv 6 (.str e.ky) (by omega) rfl
   obtain ⟨H', i1, i2, i3, i4⟩ := fin H2 { x with ky := e.ky } s2 s3 s4 rfl
   refine ⟨H', fun j19 => ?_, i2, i3, i4⟩
   rw [ql__event_Event_only]
   simp (disch := (first | assumption | omega | (simp only [k_d, k_c, Nat.reduceAdd, Nat.reduceLeDiff, Nat.reduceLT] <;> fail) | (simp only [k_c]; omega) | (simp only [k_d, k_c, Nat.reduceAdd, Nat.reduceLeDiff, Nat.reduceLT, *] <;> fail) | fail)) only [bl__event_Event_only, n1, hE1.cellAt e6, s1, i1, Int.cast_ofNat_Int, k_a, k_b, Nat.reduceAdd, k_s, k_x, Int.reduceBEq, Int.reduceBNe, Int.reduceLT, Int.reduceLE, Int.reduceGT, Int.reduceGE, Int.reduceNeg]
  have b6 : (((c : Nat) : Int) == 75) = false := hd 75 q6
  by_cases q7 : c = 68
  ·subst q7
   obtain ⟨H2, s1, s2, s3, s4⟩ := sv 7 (.str e.dt) (by omega) rfl
   obtain ⟨H', i1, i2, i3, i4⟩ := fin H2 { x with dt := e.dt } s2 s3 s4 rfl
   refine ⟨H', fun j19 => ?_, i2, i3, i4⟩
   rw [ql__event_Event_only]
   simp (disch := (first | assumption | omega | (simp only [k_d, k_c, Nat.reduceAdd, Nat.reduceLeDiff, Nat.reduceLT] <;> fail) | (simp only [k_c]; omega) | (simp only [k_d, k_c, Nat.reduceAdd, Nat.reduceLeDiff, Nat.reduceLT, *] <;> fail) | fail)) only [bl__event_Event_only, n1, hE1.cellAt e7, s1, i1, Int.cast_ofNat_Int, k_a, k_b, Nat.reduceAdd, k_s, k_x, Int.reduceBEq, Int.reduceBNe, Int.reduceLT, Int.reduceLE, Int.reduceGT, Int.reduceGE, Int.reduceNeg]
  have b7 : (((c : Nat) : Int) == 68) = false := hd 68 q7
  obtain ⟨H', i1, i2, i3, i4⟩ := fin H1 x hX1 (Out.refl _ _) rfl (by unfold only1; rw [if_neg q1, if_neg q2, if_neg q3, if_neg q4, if_neg q5, if_neg q6, if_neg q7])
  refine ⟨H', fun j19 => ?_, i2, i3, i4⟩
  rw [ql__event_Event_only]
  simp (disch := (first | assumption | omega | (simp only [k_d, k_c, Nat.reduceAdd, Nat.reduceLeDiff, Nat.reduceLT] <;> fail) | (simp only [k_c]; omega) | (simp only [k_d, k_c, Nat.reduceAdd, Nat.reduceLeDiff, Nat.reduceLT, *] <;> fail) | fail)) only [bl__event_Event_only, n1, b1, b2, b3, b4, b5, b6, b7, i1, k_a, k_b, Nat.reduceAdd, k_s, k_x, Int.reduceBEq, Int.reduceBNe, Int.reduceLT, Int.reduceLE, Int.reduceGT, Int.reduceGE, Int.reduceNeg]
abbrev zE : List AV := [(.int .i64 0), (.int .i64 0), (.int .i64 0), (.int .i64 0), (.int .i64 0), (.str []), (.str []), (.str [])]
theorem only_c (e : Ev) {l : Str} (hl : ∀ c ∈ l, c < 128) (H : Hp) : ∃ H', cK (.func (.func 55) [] []) [.agg (evC e), .str l] H = some (.agg (evC (onlyM e l)), H') ∧ Out [] H H' := by
 have hbx : bx 29 (.agg (evC e)) H = some (H.next, al H (evC e) 29 0) := bx_alA (by rw [ev_len]; omega)
 have o1 := al_out H (evC e) 29 0
 have c1 := al_cs H (evC e) 29 0
 have n1 : (al H (evC e) 29 0).next = H.next + 1 := rfl
 generalize al H (evC e) 29 0 = H1 at *
 have hnc : newCells H1 zE 29 0 = some (H.next + 1, al H1 zE 29 0) := by rw [← n1]; exact newCells_al (by simp)
 have o2 := al_out H1 zE 29 0
 have c2 := al_cs H1 zE 29 0
 have n2 : (al H1 zE 29 0).next = H.next + 2 := by rw [al_nx, n1]
 rw [n1] at c2
 generalize hA2 : al H1 zE 29 0 = H2 at *
 have k0 : cellAt H2 H.next 0 = some (.int .i64 e.kd) := (c1.out o2 (by simp)).cellAt rfl
 have hf : fl zE [(0, 1, .int .i64 e.kd)] = some (evC (ev0 e.kd)) := rfl
 have hnc2 : newCells H2 zE 29 0 = some (H.next + 2, al H2 zE 29 0) := by rw [← n2]; exact newCells_al (by simp)
 have hst : st 8 (.ptr (H.next + 2) 0) (.agg (evC (ev0 e.kd))) (al H2 zE 29 0) = some (al H2 (evC (ev0 e.kd)) 29 0) := st_alN rfl rfl n2.symm (by decide) rfl
 have o3 := al_out H2 (evC (ev0 e.kd)) 29 0
 have c3 := al_cs H2 (evC (ev0 e.kd)) 29 0
 have n3 : (al H2 (evC (ev0 e.kd)) 29 0).next = H.next + 3 := by rw [al_nx, n2]
 rw [n2] at c3
 generalize al H2 (evC (ev0 e.kd)) 29 0 = H3 at *
 have hrg : rangeA P 9 (.str l) H3 = some (.ptr (H.next + 3) 0, sal H3 l) := by rw [← n3]; exact range_s Tryz.underlying9 l H3
 have o4 := sal_out H3 l
 have s4 := sal_sit H3 l
 rw [n3] at s4
 have cE := ((c1.out o2 (by simp)).out o3 (by simp)).out o4 (by simp)
 have cV := (c2.out o3 (by simp)).out o4 (by simp)
 have cX := c3.out o4 (by simp)
 obtain ⟨H5, i1, i2, i3, i4⟩ := only_loop (y := .ptr (H.next + 1) 0) hl (by omega) (by omega) (by omega) l 0 (sal H3 l) (ev0 e.kd) List.drop_zero s4 cE cX
 have cV5 := cV.out i3 (by simp)
 have k8 : cellsAt H5 (H.next + 2) 0 8 = some (evC (onlyM e l)) := i2.cellsAt 8 0 (by rw [ev_len]; omega)
 obtain ⟨H6, t1, t2, t3, t4⟩ := stAll (n := 8) (vs := evC (onlyM e l)) cV5 rfl rfl rfl
 have k9 : cellsAt H6 (H.next + 1) 0 8 = some (evC (onlyM e l)) := t2.cellsAt 8 0 (by rw [ev_len]; omega)
 have out : Out [] H H6 := outNew (outNew (((o1.trans o2).trans o3).trans o4) i3 (fun j hj => by simp at hj; omega)) t3 (one_ge (by omega))
 refine ⟨H6, c__event_Event_only ?_, out⟩
 unfold s__event_Event_only
 simp (disch := (first | assumption | omega | (simp only [k_d, k_c, Nat.reduceAdd, Nat.reduceLeDiff, Nat.reduceLT] <;> fail) | (simp only [k_c]; omega) | (simp only [k_d, k_c, Nat.reduceAdd, Nat.reduceLeDiff, Nat.reduceLT, *] <;> fail) | fail)) only [hbx, n1, hA2, n2, k0, hf, hst, hrg, i1, k8, t1, k9, k_a, k_b, Nat.reduceAdd, k_s, k_x, Int.reduceBEq, Int.reduceBNe, Int.reduceLT, Int.reduceLE, Int.reduceGT, Int.reduceGE, Int.reduceNeg]
theorem eqA_ev (a b c d e : Int) (f g h : Str) (a' b' c' d' e' : Int) (f' g' h' : Str) (H : Hp) : eqA P 50 29 (.agg [.int .i64 a, .int .i64 b, .int .i64 c, .int .i64 d, .int .i64 e, .str f, .str g, .str h]) (.agg [.int .i64 a', .int .i64 b', .int .i64 c', .int .i64 d', .int .i64 e', .str f', .str g', .str h']) H = allO (fun z : Bool => some z) [a == a', b == b', c == c', d == d', e == e', f == f', g == g', h == h'] := by kernel_rfl
theorem eqG_ev : Program.eqGuardType P P.depth 29 = false := by kernel_rfl
theorem allO_b : ∀ l : List Bool, allO (fun z : Bool => some z) l = some (l.all id)
 | [] => rfl
 | b :: l => by
  unfold allO
  rw [allO_b l, List.all_cons]
  cases b <;> rfl
theorem eq_ev (a b : Ev) (H : Hp) : gA P .eql 29 false (.agg (evC a)) (.agg (evC b)) = true ∧ binA P .eql 29 (.agg (evC a)) (.agg (evC b)) H = some (.bool (eqE' a b)) := by
 constructor
 ·show (!(Program.eqGuardType P P.depth 29)) = true
  rw [eqG_ev]; rfl
 ·show (eqA P 50 29 (.agg (evC a)) (.agg (evC b)) H).map (fun b => AV.bool b) = _
  have h : eqA P 50 29 (.agg (evC a)) (.agg (evC b)) H = _ := eqA_ev a.kd a.rn a.tk a.ty a.n a.nm a.ky a.dt b.kd b.rn b.tk b.ty b.n b.nm b.ky b.dt H
  rw [h, allO_b]
  simp [eqE']
def findF (p : Nat → Bool) : Str → Nat → Option Nat
 | [], _ => none
 | c :: r, i => if p c then some i else findF p r (i + 1)
theorem findF_none (p : Nat → Bool) : ∀ (l : Str) (i : Nat), (findF p l i).isSome = l.any p
 | [], i => rfl
 | c :: r, i => by
  unfold findF
  rw [List.any_cons]
  cases h : p c with
  | true => rfl
  | false => rw [Bool.false_or]; exact findF_none p r (i + 1)
theorem indexF_loop {fv : AV} {it : Nat} {l : Str} {p : Nat → Bool} {H0 : Hp} (hl : ∀ c ∈ l, c < 128) (hp : ∀ H, Out [] H0 H → ∀ c ∈ l, ∃ H', cK fv [.int .i32 (c : Nat)] H = some (.bool (p c), H') ∧ Out [] H H') (hit : H0.next ≤ it) : ∀ (r : Str) (i : Nat) (H : Hp), l.drop i = r → Sit H it l i → Out [] H0 H →
  ∃ H', (∀ j3 : K.Fn 0, l_strings_indexFunc JN GO cK j3 fv (.bool true) (.ptr it 0) H = match findF p r i with | some k => some (.int .i64 (k : Nat), H') | none => j3 H') ∧ Out [] H0 H'
 | [], i, H, h, hS, hO => by
  have hi : l.length ≤ i := by
   rcases Nat.lt_or_ge i l.length with q | q
   ·rw [List.drop_eq_getElem_cons q] at h; cases h
   ·exact q
  refine ⟨H, fun j3 => ?_, hO⟩
  rw [ql_strings_indexFunc]
  simp only [bl_strings_indexFunc, next_e hS hi, k_s, k_x, Int.reduceBEq, Int.reduceBNe, Int.reduceLT, Int.reduceLE, Int.reduceGT, Int.reduceGE, Int.reduceNeg]
  rfl
 | c :: r, i, H, h, hS, hO => by
  obtain ⟨g1, g2, g3⟩ := hd_drop h
  obtain ⟨H1, n1, n2, n3, n4⟩ := next_s hS g2 (hl c (List.mem_of_getElem? g2))
  have hO1 : Out [] H0 H1 := outNew hO n3 (one_ge hit)
  obtain ⟨H2, f1, f2⟩ := hp H1 hO1 c (List.mem_of_getElem? g2)
  have hO2 := hO1.trans f2
  unfold findF
  cases hc : p c with
  | true =>
   refine ⟨H2, fun j3 => ?_, hO2⟩
   rw [ql_strings_indexFunc]
   rw [hc] at f1
   have bt : (true == true) = true := rfl
   simp (disch := (first | assumption | omega | (simp only [k_d, k_c, Nat.reduceAdd, Nat.reduceLeDiff, Nat.reduceLT] <;> fail) | (simp only [k_c]; omega) | (simp only [k_d, k_c, Nat.reduceAdd, Nat.reduceLeDiff, Nat.reduceLT, *] <;> fail) | fail)) only [bl_strings_indexFunc, n1, f1, bt, ↓reduceIte, k_a, k_b, Nat.reduceAdd, k_s, k_x, Int.reduceBEq, Int.reduceBNe, Int.reduceLT, Int.reduceLE, Int.reduceGT, Int.reduceGE, Int.reduceNeg]
  | false =>
   obtain ⟨H', i1, i2⟩ := indexF_loop hl hp hit r (i + 1) H2 g3 (n2.out f2 (by simp)) hO2
   refine ⟨H', fun j3 => ?_, i2⟩
   rw [ql_strings_indexFunc]
   rw [hc] at f1
   have bt : (false == true) = false := rfl
   simp (disch := (first | assumption | omega | (simp only [k_d, k_c, Nat.reduceAdd, Nat.reduceLeDiff, Nat.reduceLT] <;> fail) | (simp only [k_c]; omega) | (simp only [k_d, k_c, Nat.reduceAdd, Nat.reduceLeDiff, Nat.reduceLT, *] <;> fail) | fail)) only [bl_strings_indexFunc, n1, f1, bt, i1, Bool.false_eq_true, ↓reduceIte, k_a, k_b, Nat.reduceAdd, k_s, k_x, Int.reduceBEq, Int.reduceBNe, Int.reduceLT, Int.reduceLE, Int.reduceGT, Int.reduceGE, Int.reduceNeg]
theorem containsF_c {fv : AV} {l : Str} {p : Nat → Bool} {H0 : Hp} (hl : ∀ c ∈ l, c < 128) (hp : ∀ H, Out [] H0 H → ∀ c ∈ l, ∃ H', cK fv [.int .i32 (c : Nat)] H = some (.bool (p c), H') ∧ Out [] H H') :
  ∃ H', cK (.func (.func 56) [] []) [.str l, fv] H0 = some (.bool (l.any p), H') ∧ Out [] H0 H' := by
 have hrg := range_s Tryz.underlying9 l H0
 have o1 := sal_out H0 l
 have s1 := sal_sit H0 l
 obtain ⟨H', i1, i2⟩ := indexF_loop hl hp (Nat.le_refl _) l 0 (sal H0 l) List.drop_zero s1 o1
 refine ⟨H', c_strings_ContainsFunc ?_, i2⟩
 have h1 : cK (.func (.func 120) [] []) [.str l, fv, .bool true] H0 = some (.int .i64 (ixo (findF p l 0)), H') := by
  refine c_strings_indexFunc ?_
  unfold s_strings_indexFunc
  simp only [hrg, i1, k_s, k_x, Int.reduceBEq, Int.reduceBNe, Int.reduceLT, Int.reduceLE, Int.reduceGT, Int.reduceGE, Int.reduceNeg]
  cases findF p l 0 <;> rfl
 have h2 : cK (.func (.func 91) [] []) [.str l, fv] H0 = some (.int .i64 (ixo (findF p l 0)), H') := by
  refine c_strings_IndexFunc ?_
  unfold s_strings_IndexFunc
  simp only [h1, k_s, k_x, Int.reduceBEq, Int.reduceBNe, Int.reduceLT, Int.reduceLE, Int.reduceGT, Int.reduceGE, Int.reduceNeg]
 unfold s_strings_ContainsFunc
 simp only [h2, ixo_ge, findF_none, k_s, k_x, Int.reduceBEq, Int.reduceBNe, Int.reduceLT, Int.reduceLE, Int.reduceGT, Int.reduceGE, Int.reduceNeg]
theorem goodE1_c {e : Ev} {E : Nat} {H : Hp} (hE : Cs H E (evC e) 29 0) (c : Nat) : ∃ H', cK (.func (.func 57) [] [.ptr E 0]) [.int .i32 (c : Nat)] H = some (.bool (!goodF e c), H') ∧ Out [] H H' := by
 obtain ⟨H', h1, h2⟩ := good1e_c e c H
 have k8 : cellsAt H E 0 8 = some (evC e) := hE.cellsAt 8 0 (by rw [ev_len]; omega)
 refine ⟨H', c_event_Good_1 ?_, h2⟩
 unfold s_event_Good_1
 simp (disch := (first | assumption | omega | (simp only [k_d, k_c, Nat.reduceAdd, Nat.reduceLeDiff, Nat.reduceLT] <;> fail) | (simp only [k_c]; omega) | (simp only [k_d, k_c, Nat.reduceAdd, Nat.reduceLeDiff, Nat.reduceLT, *] <;> fail) | fail)) only [k8, h1, k_a, k_b, Nat.reduceAdd, k_s, k_x, Int.reduceBEq, Int.reduceBNe, Int.reduceLT, Int.reduceLE, Int.reduceGT, Int.reduceGE, Int.reduceNeg]
theorem fields_low (k : Int) : ∀ c ∈ fieldsM k, c < 128 := by
 unfold fieldsM
 intro c hc
 repeat' split at hc
 all_goals first | (simp at hc; omega) | (simp at hc)
theorem egood_c (e : Ev) (H : Hp) : ∃ H', cK (.func (.func 27) [] []) [.agg (evC e)] H = some (.bool (goodE e), H') ∧ Out [] H H' := by
 have hbx : bx 29 (.agg (evC e)) H = some (H.next, al H (evC e) 29 0) := bx_alA (by rw [ev_len]; omega)
 have o1 := al_out H (evC e) 29 0
 have c1 := al_cs H (evC e) 29 0
 generalize al H (evC e) 29 0 = H1 at *
 have k0 : cellAt H1 H.next 0 = some (.int .i64 e.kd) := c1.cellAt rfl
 have k8 : cellsAt H1 H.next 0 8 = some (evC e) := c1.cellsAt 8 0 (by rw [ev_len]; omega)
 unfold goodE
 cases hf : (fieldsM e.kd == []) with
 | true =>
  refine ⟨H1, c_event_Good ?_, o1⟩
  unfold s_event_Good
  simp (disch := (first | assumption | omega | (simp only [k_d, k_c, Nat.reduceAdd, Nat.reduceLeDiff, Nat.reduceLT] <;> fail) | (simp only [k_c]; omega) | (simp only [k_d, k_c, Nat.reduceAdd, Nat.reduceLeDiff, Nat.reduceLT, *] <;> fail) | fail)) only [hbx, k0, fields_c, hf, Bool.false_and, k_a, k_b, Nat.reduceAdd, k_s, k_x, Int.reduceBEq, Int.reduceBNe, Int.reduceLT, Int.reduceLE, Int.reduceGT, Int.reduceGE, Int.reduceNeg]
 | false =>
  obtain ⟨H2, h1, h2⟩ := only_c e (fields_low e.kd) H1
  have c2 := c1.out h2 (by simp)
  have k9 : cellsAt H2 H.next 0 8 = some (evC e) := c2.cellsAt 8 0 (by rw [ev_len]; omega)
  obtain ⟨q1, q2⟩ := eq_ev (onlyM e (fieldsM e.kd)) e H2
  have hs : same (.agg (evC e)) (.agg (evC e)) = true := by
   have hk : (IntKind.i64 == IntKind.i64) = true := rfl
   simp [same, evC, sameL, sameS]
  cases he : eqE' (onlyM e (fieldsM e.kd)) e with
  | false =>
   refine ⟨H2, c_event_Good ?_, o1.trans h2⟩
   rw [he] at q2
   unfold s_event_Good
   simp (disch := (first | assumption | omega | (simp only [k_d, k_c, Nat.reduceAdd, Nat.reduceLeDiff, Nat.reduceLT] <;> fail) | (simp only [k_c]; omega) | (simp only [k_d, k_c, Nat.reduceAdd, Nat.reduceLeDiff, Nat.reduceLT, *] <;> fail) | fail)) only [hbx, k0, fields_c, hf, k8, h1, k9, q1, IFT_t, q2, SM_t hs, Bool.false_and, Bool.true_and, k_a, k_b, Nat.reduceAdd, k_s, k_x, Int.reduceBEq, Int.reduceBNe, Int.reduceLT, Int.reduceLE, Int.reduceGT, Int.reduceGE, Int.reduceNeg]
  | true =>
   obtain ⟨H3, h3, h4⟩ := containsF_c (fv := .func (.func 57) [] [.ptr H.next 0]) (p := fun c => !goodF e c) (H0 := H2) (fields_low e.kd) (fun H' k c _ => goodE1_c (c2.out k (by simp)) c)
   refine ⟨H3, c_event_Good ?_, (o1.trans h2).trans h4⟩
   rw [he] at q2
   have hall : (!((fieldsM e.kd).any fun c => !goodF e c)) = (fieldsM e.kd).all (goodF e) := by
    rw [List.not_any_eq_all_not]
    simp
   unfold s_event_Good
   simp (disch := (first | assumption | omega | (simp only [k_d, k_c, Nat.reduceAdd, Nat.reduceLeDiff, Nat.reduceLT] <;> fail) | (simp only [k_c]; omega) | (simp only [k_d, k_c, Nat.reduceAdd, Nat.reduceLeDiff, Nat.reduceLT, *] <;> fail) | fail)) only [hbx, k0, fields_c, hf, k8, h1, k9, q1, IFT_t, q2, SM_t hs, h3, hall, Bool.true_and, k_a, k_b, Nat.reduceAdd, k_s, k_x, Int.reduceBEq, Int.reduceBNe, Int.reduceLT, Int.reduceLE, Int.reduceGT, Int.reduceGE, Int.reduceNeg]
abbrev Ky := Str × Str
def kyC (k : Ky) : List AV := [.str k.1, .str k.2]
theorem eqKy (a b c d : Str) (H : Hp) : eqA P 20 69 (.agg [.str a, .str b]) (.agg [.str c, .str d]) H = allO (fun z : Bool => some z) [a == c, b == d] := by kernel_rfl
theorem eqK_f {k q : Ky} (h : q ≠ k) (H : Hp) : eqA P 20 69 (.agg (kyC k)) (.agg (kyC q)) H = some false := by
 have h1 : eqA P 20 69 (.agg (kyC k)) (.agg (kyC q)) H = _ := eqKy k.1 k.2 q.1 q.2 H
 rw [h1, allO_b]
 simp only [List.all_cons, List.all_nil, id, Bool.and_true, Option.some.injEq, Bool.and_eq_false_iff, beq_eq_false_iff_ne]
 by_cases h2 : k.1 = q.1
 ·exact .inr fun h3 => h (Prod.ext h2.symm h3.symm)
 ·exact .inl h2
theorem eqK_t (k : Ky) (H : Hp) : eqA P 20 69 (.agg (kyC k)) (.agg (kyC k)) H = some true := by
 have h1 : eqA P 20 69 (.agg (kyC k)) (.agg (kyC k)) H = _ := eqKy k.1 k.2 k.1 k.2 H
 rw [h1, allO_b]
 simp
abbrev Ke := Ky × Int
def kyM (E : List (Ke × Nat)) : List ME := E.map fun x => ⟨.agg (kyC x.1.1), .int .i64 x.1.2, x.2⟩
theorem findKy0 {H : Hp} {k : Ky} : ∀ (E : List (Ke × Nat)) (i : Nat), (∀ x ∈ E, x.1.1 ≠ k) → findK P H 69 (.agg (kyC k)) (kyM E) i = some none
 | [], i, _ => rfl
 | x :: E, i, h => by
  show findK P H _ (.agg (kyC k)) (⟨.agg (kyC x.1.1), .int .i64 x.1.2, x.2⟩ :: kyM E) i = _
  unfold findK
  simp only [eqK_f (h x (.head _)) H]
  exact findKy0 E (i + 1) fun y hy => h y (.tail _ hy)
theorem noKy {H : Hp} {k : Ky} : ∀ (E : List (Ke × Nat)), (∀ x ∈ E, x.1.1 ≠ k) → noK P H 69 (.agg (kyC k)) (kyM E) = true
 | [], _ => rfl
 | x :: E, h => by
  show noK P H _ (.agg (kyC k)) (⟨.agg (kyC x.1.1), .int .i64 x.1.2, x.2⟩ :: kyM E) = _
  unfold noK
  simp only [eqK_f (h x (.head _)) H]
  exact noKy E fun y hy => h y (.tail _ hy)
theorem findKy1 {H : Hp} {k : Ky} {x : Ke × Nat} {B : List (Ke × Nat)} (hx : x.1.1 = k) (hB : ∀ y ∈ B, y.1.1 ≠ k) : ∀ (A : List (Ke × Nat)) (i : Nat), (∀ y ∈ A, y.1.1 ≠ k) →
  ∃ j, findK P H 69 (.agg (kyC k)) (kyM (A ++ x :: B)) i = some (some (j, ⟨.agg (kyC x.1.1), .int .i64 x.1.2, x.2⟩))
 | [], i, _ => by
  refine ⟨i, ?_⟩
  show findK P H _ (.agg (kyC k)) (⟨.agg (kyC x.1.1), .int .i64 x.1.2, x.2⟩ :: kyM B) i = _
  unfold findK
  subst hx
  simp only [eqK_t, noKy B hB, cond_true]
 | y :: A, i, h => by
  obtain ⟨j, hj⟩ := findKy1 hx hB A (i + 1) fun z hz => h z (.tail _ hz)
  refine ⟨j, ?_⟩
  show findK P H _ (.agg (kyC k)) (⟨.agg (kyC y.1.1), .int .i64 y.1.2, y.2⟩ :: kyM (A ++ x :: B)) i = _
  unfold findK
  simp only [eqK_f (h y (.head _)) H]
  exact hj
theorem chkKy (k : Ky) : chkK P 20 69 (.agg (kyC k)) = true := by kernel_rfl
def getK (ks : List Ke) (k : Ky) : Option Int := (ks.find? (fun x => x.1 == k)).map (·.2)
theorem getK_none {ks : List Ke} {k : Ky} (h : getK ks k = none) : ∀ x ∈ ks, x.1 ≠ k := by
 unfold getK at h
 rw [Option.map_eq_none_iff, List.find?_eq_none] at h
 intro x hx q
 exact h x hx (by rw [q]; exact beq_self_eq_true _)
theorem getK_some {ks : List Ke} {k : Ky} {id : Int} (h : getK ks k = some id) : ∃ a b, ks = a ++ (k, id) :: b ∧ ∀ x ∈ a, x.1 ≠ k := by
 unfold getK at h
 rw [Option.map_eq_some_iff] at h
 obtain ⟨x, h1, rfl⟩ := h
 rw [List.find?_eq_some_iff_append] at h1
 obtain ⟨h2, a, b, rfl, h3⟩ := h1
 have : x.1 = k := by simpa using h2
 subst this
 exact ⟨a, b, rfl, fun y hy q => by have := h3 y hy; rw [q] at this; simp at this⟩
abbrev kv (km : Nat) (lx : AV) : List AV := [.int .i64 128, .map km, lx]
structure KO (H : Hp) (kp km : Nat) (lx : AV) (ks : List Ke) : Prop where
 c : Cs H kp (kv km lx) 147 0
 m : ∃ bs c, bs.length = ks.length ∧ Mp H km (kyM (ks.zip bs)) c
 l : OL H 69 2 lx (ks.map fun x => kyC x.1)
 nd : (ks.map (·.1)).Nodup
 d1 : kp ≠ km
 d2 : ∀ j ∈ rid lx, j ≠ kp ∧ j ≠ km
def fpK (kp km : Nat) (lx : AV) : List Nat := kp :: km :: rid lx
theorem KO.out {H H' : Hp} {kp km : Nat} {lx : AV} {ks : List Ke} {S : List Nat} (h : KO H kp km lx ks) (k : Out S H H') (hs : ∀ j ∈ fpK kp km lx, j ∉ S) : KO H' kp km lx ks := by
 obtain ⟨bs, c, h1, h2⟩ := h.m
 exact ⟨h.c.out k (hs _ (.head _)), ⟨bs, c, h1, h2.out k (hs _ (.tail _ (.head _)))⟩, h.l.out k fun j hj => hs j (.tail _ (.tail _ hj)), h.nd, h.d1, h.d2⟩
theorem KO.out0 {H H' : Hp} {kp km : Nat} {lx : AV} {ks : List Ke} (h : KO H kp km lx ks) (k : Out [] H H') : KO H' kp km lx ks := h.out k fun _ _ q => by cases q
theorem KO.lt {H : Hp} {kp km : Nat} {lx : AV} {ks : List Ke} (h : KO H kp km lx ks) : ∀ j ∈ fpK kp km lx, j < H.next := by
 intro j hj
 obtain ⟨bs, c, h1, h2⟩ := h.m
 rcases List.mem_cons.1 hj with rfl | hj
 ·exact h.c.1
 ·rcases List.mem_cons.1 hj with rfl | hj
  ·exact h2.1
  ·exact h.l.1.rw.lt j hj
theorem keysNew_c (H : Hp) : ∃ kp km H', cK (.func (.func 37) [] []) [.int .i64 128] H = some (.ptr kp 0, H') ∧ KO H' kp km .slice0 [] ∧ Out [] H H' ∧ H.next ≤ kp ∧ H.next ≤ km := by
 obtain ⟨H1, m1, m2, m3, m4⟩ := mk0_ok H
 have hf : fl [(.int .i64 0), .map0, .slice0] [(0, 1, .int .i64 128), (1, 1, .map H.next)] = some (kv H.next .slice0) := rfl
 have hbx : bx 147 (.agg (kv H.next .slice0)) H1 = some (H1.next, al H1 (kv H.next .slice0) 147 0) := bx_alA (by simp)
 have o2 := al_out H1 (kv H.next .slice0) 147 0
 have c2 := al_cs H1 (kv H.next .slice0) 147 0
 refine ⟨H1.next, H.next, al H1 (kv H.next .slice0) 147 0, c_keys_New ?_, ⟨c2, ⟨[], 0, rfl, m2.out o2 (by simp)⟩, OL.nil _ _ _, by simp, by omega, fun j hj => by cases hj⟩, m3.trans o2, by omega, Nat.le_refl _⟩
 unfold s_keys_New
 simp only [max_i, min_i, Int.reduceLT, if_false, if_true, m1, hf, hbx, k_s, k_x, Int.reduceBEq, Int.reduceBNe, Int.reduceLT, Int.reduceLE, Int.reduceGT, Int.reduceGE, Int.reduceNeg]
theorem zip_lk {ks : List Ke} {bs : List Nat} {k : Ky} (h : ∀ x ∈ ks, x.1 ≠ k) : ∀ y ∈ ks.zip bs, y.1.1 ≠ k := fun y hy => h y.1 (List.of_mem_zip hy).1
theorem zip_mid {a b : List Ke} {x : Ke} {bs : List Nat} (h : bs.length = (a ++ x :: b).length) : ∃ b1 c b2, (a ++ x :: b).zip bs = a.zip b1 ++ (x, c) :: b.zip b2 := by
 have h1 : a.length < bs.length := by rw [h, List.length_append, List.length_cons]; omega
 refine ⟨bs.take a.length, bs[a.length], bs.drop (a.length + 1), ?_⟩
 conv => lhs; rw [show bs = bs.take a.length ++ bs[a.length] :: bs.drop (a.length + 1) by rw [List.getElem_cons_drop, List.take_append_drop]]
 rw [List.zip_append (by rw [List.length_take]; omega)]
 rfl
theorem getK_lk {H : Hp} {km : Nat} {ks : List Ke} (hm : ∃ bs c, bs.length = ks.length ∧ Mp H km (kyM (ks.zip bs)) c) (hnd : (ks.map (·.1)).Nodup) (k : Ky) (ok : Bool) :
  lookupA P 144 (.map km) (.agg (kyC k)) ok H = some (bif ok then .tuple [.int .i64 ((getK ks k).getD 0), .bool (getK ks k).isSome] else .int .i64 ((getK ks k).getD 0)) := by
 obtain ⟨bs, c, h1, h2⟩ := hm
 have hu : P.underlying 144 = some (.map 69 3) := Tryz.underlying144
 have hz : ((P.info? 3).bind (·.zero)).bind ofC = some (.int .i64 0) := by kernel_rfl
 unfold lookupA
 cases hg : getK ks k with
 | none =>
  simp only [hu, chkKy, cond_true, mapOf_m h2, findKy0 _ 0 (zip_lk (bs := bs) (getK_none hg)), hz, Option.map_some]
  cases ok <;> rfl
 | some id =>
  obtain ⟨a, b, rfl, h3⟩ := getK_some hg
  obtain ⟨b1, c1, b2, h4⟩ := zip_mid h1
  rw [h4] at h2
  have hb : ∀ x ∈ b, x.1 ≠ k := by
   intro x hx q
   rw [List.map_append, List.map_cons, List.nodup_append, List.nodup_cons] at hnd
   exact hnd.2.1.1 (List.mem_map.2 ⟨x, hx, q⟩)
  obtain ⟨j, hj⟩ := findKy1 (H := H) (x := ((k, id), c1)) (k := k) rfl (zip_lk (bs := b2) hb) (a.zip b1) 0 (zip_lk h3)
  simp only [hu, chkKy, cond_true, mapOf_m h2, hj]
  cases ok <;> rfl
theorem ky_len (k : Ky) : (kyC k).length = 2 := rfl
theorem keysGet_c {H : Hp} {kp km : Nat} {lx : AV} {ks : List Ke} (h : KO H kp km lx ks) (k : Ky) : ∃ H', cK (.func (.func 42) [] []) [.ptr kp 0, .agg (kyC k)] H = some (.tuple [.int .i64 ((getK ks k).getD 0), .bool (getK ks k).isSome], H') ∧ Out [] H H' := by
 have hbx : bx 69 (.agg (kyC k)) H = some (H.next, al H (kyC k) 69 0) := bx_alA (by rw [ky_len]; omega)
 have o1 := al_out H (kyC k) 69 0
 have c1 := al_cs H (kyC k) 69 0
 generalize al H (kyC k) 69 0 = H1 at *
 have h1 := h.out0 o1
 have k1 : cellAt H1 kp 1 = some (.map km) := h1.c.cellAt rfl
 have k2 : cellsAt H1 H.next 0 2 = some (kyC k) := c1.cellsAt 2 0 (by rw [ky_len]; omega)
 have lk := getK_lk h1.m h1.nd k true
 refine ⟨H1, c_keys_Keys_Get ?_, o1⟩
 unfold s_keys_Keys_Get
 simp (disch := (first | assumption | omega | (simp only [k_d, k_c, Nat.reduceAdd, Nat.reduceLeDiff, Nat.reduceLT] <;> fail) | (simp only [k_c]; omega) | (simp only [k_d, k_c, Nat.reduceAdd, Nat.reduceLeDiff, Nat.reduceLT, *] <;> fail) | fail)) only [hbx, k1, k2, lk, cond_true, k_a, k_b, Nat.reduceAdd, k_s, k_x, Int.reduceBEq, Int.reduceBNe, Int.reduceLT, Int.reduceLE, Int.reduceGT, Int.reduceGE, Int.reduceNeg]
theorem keysPut_c {H : Hp} {kp km : Nat} {lx : AV} {ks : List Ke} (h : KO H kp km lx ks) (hn : ks.length < 128) {k : Ky} (hk : getK ks k = none) (id : Int) :
  ∃ lx' H', cK (.func (.func 46) [] []) [.ptr kp 0, .agg (kyC k), .int .i64 id] H = some (.tuple [.int .i64 id, .bool true], H') ∧ KO H' kp km lx' (ks ++ [(k, id)]) ∧ Out (fpK kp km lx) H H' ∧ ∀ j ∈ rid lx', j ∈ rid lx ∨ H.next ≤ j := by
 have hbx : bx 69 (.agg (kyC k)) H = some (H.next, al H (kyC k) 69 0) := bx_alA (by rw [ky_len]; omega)
 have o1 := al_out H (kyC k) 69 0
 have c1 := al_cs H (kyC k) 69 0
 have n1 : (al H (kyC k) 69 0).next = H.next + 1 := rfl
 generalize al H (kyC k) 69 0 = H1 at *
 have h1 := h.out0 o1
 have hlt := h.lt
 have k0 : cellAt H1 kp 0 = some (.int .i64 128) := h1.c.cellAt rfl
 have k1 : cellAt H1 kp 1 = some (.map km) := h1.c.cellAt rfl
 have k2 : cellAt H1 kp 2 = some lx := h1.c.cellAt rfl
 have kx : cellsAt H1 H.next 0 2 = some (kyC k) := c1.cellsAt 2 0 (by rw [ky_len]; omega)
 have lk := getK_lk h1.m h1.nd k true
 rw [hk] at lk
 have hlen := h1.l.rl.len (by decide)
 rw [List.length_map] at hlen
 have dn : (((ks.length : Nat) : Int) == 128) = false := by rw [beq_eq_false_iff_ne]; omega
 obtain ⟨bs, c, b1, b2⟩ := h1.m
 have hu : P.underlying 144 = some (.map 69 3) := Tryz.underlying144
 have hzip : kyM ((ks ++ [(k, id)]).zip (bs ++ [c])) = kyM (ks.zip bs) ++ [⟨.agg (kyC k), .int .i64 id, c⟩] := by
  rw [List.zip_append b1.symm]; simp [kyM]
 obtain ⟨H2, u1, u2, u3, u4⟩ : ∃ H2, mapUpd P 144 (.map km) (.agg (kyC k)) (.int .i64 id) H1 = some H2 ∧ Mp H2 km (kyM ((ks ++ [(k, id)]).zip (bs ++ [c]))) (c + 1) ∧ Out [km] H1 H2 ∧ H2.next = H1.next := by
  rw [hzip]
  refine ⟨_, ?_, (b2.set _ _).1, (b2.set _ _).2, rfl⟩
  unfold mapUpd
  simp only [hu, chkKy, cond_true, b2.2, findKy0 _ 0 (zip_lk (bs := bs) (getK_none hk))]
 have hkm : km < H.next := hlt km (.tail _ (.head _))
 have hkp : kp < H.next := hlt kp (.head _)
 have q2 : cellAt H2 kp 2 = some lx := by rw [u3.cellAt h1.c.1 (by simpa using h.d1)]; exact k2
 have qx : cellsAt H2 H.next 0 2 = some (kyC k) := by rw [u3.cellsAt c1.1 (by rw [List.mem_singleton]; omega)]; exact kx
 have hf : fl [(.str []), (.str [])] [(0, 2, .agg (kyC k))] = some (kyC k) := rfl
 have hl2 : OL H2 69 2 lx (ks.map fun x => kyC x.1) := h1.l.out u3 fun j hj => by rw [List.mem_singleton]; exact (h.d2 j hj).2
 have hnc : newCells H2 (kyC k) 69 0 = some (H2.next, al H2 (kyC k) 69 0) := newCells_al (by rw [ky_len]; omega)
 obtain ⟨lx', H3, p1, p2, p3, p4, p5⟩ := hl2.push (el2 := 69) (z := [(.str []), (.str [])]) (vs := kyC k) rfl rfl (by decide) (by rw [List.length_map]; omega)
 have p1' := p1 H2.next rfl
 have c3 : Cs H3 kp (kv km lx) 147 0 := (h1.c.out u3 (by simpa using h.d1)).out p3 fun q => (h.d2 kp q).1 rfl
 obtain ⟨H4, s1, s2, s3, s4⟩ := st1 c3 (by decide) (o := 2) (by simp) (v := lx') p5
 have a2 := al_out H2 (kyC k) 69 0
 have q3 : cellAt (al H2 (kyC k) 69 0) kp 2 = some lx := by rw [a2.cellAt (by rw [u4, n1]; omega) (by simp)]; exact q2
 have hn2 : H2.next = H.next + 1 := by rw [u4, n1]
 have hd' : ∀ j ∈ rid lx', j ≠ kp ∧ j ≠ km := fun j hj => by
  rcases p4 j hj with q | q
  ·exact h.d2 j q
  ·omega
 have m3 : Mp H3 km (kyM ((ks ++ [(k, id)]).zip (bs ++ [c]))) (c + 1) := u2.out p3 fun q => (h.d2 km q).2 rfl
 refine ⟨lx', H4, c_keys_Keys_Put ?_, ⟨s2, ⟨bs ++ [c], c + 1, by simp [b1], m3.out s3 (by rw [List.mem_singleton]; exact fun q => h.d1 q.symm)⟩, ?_, ?_, h.d1, hd'⟩, ?_, fun j hj => (p4 j hj).imp (fun q => q) fun q => by omega⟩
 ·unfold s_keys_Keys_Put
  simp (disch := (first | assumption | omega | (simp only [k_d, k_c, Nat.reduceAdd, Nat.reduceLeDiff, Nat.reduceLT] <;> fail) | (simp only [k_c]; omega) | (simp only [k_d, k_c, Nat.reduceAdd, Nat.reduceLeDiff, Nat.reduceLT, *] <;> fail) | fail)) only [hbx, k0, k1, k2, kx, lk, hlen, dn, u1, q2, qx, hf, hnc, p1', s1, q3, SM_t (same_rw h1.l.1.rw), Option.isSome_none, cond_true, k_a, k_b, Nat.reduceAdd, k_s, k_x, Int.reduceBEq, Int.reduceBNe, Int.reduceLT, Int.reduceLE, Int.reduceGT, Int.reduceGE, Int.reduceNeg]
 ·rw [List.map_append]
  exact p2.out s3 fun j hj => by rw [List.mem_singleton]; exact (hd' j hj).1
 ·rw [List.map_append]
  rw [List.nodup_append]
  refine ⟨h.nd, by simp, fun x hx y hy q => ?_⟩
  simp at hy
  obtain ⟨z, hz, rfl⟩ := List.mem_map.1 hx
  exact getK_none hk z hz (q.trans hy)
 ·refine ((((o1.mono (S' := fpK kp km lx) (fun j hj => by cases hj)).trans (u3.mono fun j hj => ?_)).trans (p3.mono fun j hj => .tail _ (.tail _ hj))).trans (s3.mono fun j hj => ?_))
  ·rw [List.mem_singleton] at hj; subst hj; exact .tail _ (.head _)
  ·rw [List.mem_singleton] at hj; subst hj; exact .head _
def Dj (l m : List Nat) : Prop := ∀ j ∈ l, j ∉ m
theorem Dj.symm {l m : List Nat} (h : Dj l m) : Dj m l := fun j hj hl => h j hl hj
theorem dj_set {L : List (List Nat)} {k N : Nat} {l l' : List Nat} (h : L.Pairwise Dj) (hk : L[k]? = some l) (hN : ∀ m ∈ L, ∀ j ∈ m, j < N) (hl : ∀ j ∈ l', j ∈ l ∨ N ≤ j) : (L.set k l').Pairwise Dj := by
 rw [List.pairwise_iff_getElem] at h ⊢
 obtain ⟨hkl, hke⟩ := List.getElem?_eq_some_iff.1 hk
 have key : ∀ (i : Nat) (hi : i < L.length), i ≠ k → Dj l' L[i] := by
  intro i hi hik j hj hm
  rcases hl j hj with q | q
  ·rcases Nat.lt_or_gt_of_ne hik with c | c
   ·exact h i k hi hkl c j hm (by rw [hke]; exact q)
   ·exact h k i hkl hi c j (by rw [hke]; exact q) hm
  ·have := hN _ (List.getElem_mem hi) j hm; omega
 intro i j hi hj hij
 rw [List.length_set] at hi hj
 rw [List.getElem_set, List.getElem_set]
 by_cases h1 : k = i
 ·subst h1
  rw [if_pos rfl, if_neg (by omega)]
  exact key j hj (by omega)
 ·rw [if_neg h1]
  by_cases h2 : k = j
  ·subst h2
   rw [if_pos rfl]
   exact (key i hi (by omega)).symm
  ·rw [if_neg h2]
   exact h i j hi hj hij
theorem dj_at {L : List (List Nat)} (h : L.Pairwise Dj) {i j : Nat} (hij : i ≠ j) {l m : List Nat} (hi : L[i]? = some l) (hj : L[j]? = some m) : Dj l m := by
 rw [List.pairwise_iff_getElem] at h
 obtain ⟨a1, a2⟩ := List.getElem?_eq_some_iff.1 hi
 obtain ⟨b1, b2⟩ := List.getElem?_eq_some_iff.1 hj
 subst a2; subst b2
 rcases Nat.lt_or_gt_of_ne hij with c | c
 ·exact h i j a1 b1 c
 ·exact (h j i b1 a1 c).symm
structure RA where
 dx : AV
 xs : List AV
 tx : AV
 sx : AV
def RA.fp (r : RA) : List Nat := fpR r.dx r.xs r.tx r.sx
structure Fm where
 ck : Int
 nms : List Str
 txs : List (Str × Str)
 rns : List (Rn × Str)
 ks : List Ke
structure FA where
 tm : Nat
 kp : Nat
 km : Nat
 nx : AV
 rx : AV
 kl : AV
 ras : List RA
def rowC (r : RA) (x : Rn × Str) : List AV := [r.dx, .int .i64 x.1.st, r.tx, r.sx, .str x.2]
def txM (E : List ((Str × Str) × Nat)) : List ME := E.map fun x => ⟨.str x.1.1, .str x.1.2, x.2⟩
def slots (p : Nat) (a : FA) : List (List Nat) := [[p], [a.tm], [a.kp], [a.km], rid a.nx, rid a.rx, rid a.kl]
def own (p : Nat) (a : FA) : List Nat := (slots p a).flatten
def inn (a : FA) : List Nat := a.ras.flatMap RA.fp
abbrev fv (a : FA) (f : Fm) : List AV := [.int .i64 f.ck, a.nx, .map a.tm, a.rx, .ptr a.kp 0]
structure FL (H : Hp) (p : Nat) (a : FA) (f : Fm) : Prop where
 c : Cs H p (fv a f) 88 0
 n : Ow H 9 1 a.nx (strs f.nms)
 t : ∃ bs c, bs.length = f.txs.length ∧ Mp H a.tm (txM (f.txs.zip bs)) c
 tnd : (f.txs.map (·.1)).Nodup
 r : OL H 95 5 a.rx (List.zipWith rowC a.ras f.rns)
 v : ∀ (i : Nat) (r : RA) (x : Rn × Str), a.ras[i]? = some r → f.rns[i]? = some x → RV H r.dx r.xs r.tx r.sx x.1
 len : a.ras.length = f.rns.length
 k : KO H a.kp a.km a.kl f.ks
 dj : (slots p a).Pairwise Dj
 lo : ∀ j ∈ own p a, 11 ≤ j
 inn : ∀ j ∈ inn a, j ∉ own p a ∧ j < H.next
theorem mem_own {p j k : Nat} {a : FA} {l : List Nat} (h : (slots p a)[k]? = some l) (hj : j ∈ l) : j ∈ own p a := List.mem_flatten.2 ⟨l, List.mem_of_getElem? h, hj⟩
theorem FL.lt {H : Hp} {p : Nat} {a : FA} {f : Fm} (h : FL H p a f) : ∀ j ∈ own p a, j < H.next := by
 intro j hj
 obtain ⟨l, hl, hj⟩ := List.mem_flatten.1 hj
 obtain ⟨bs, c, _, hm⟩ := h.t
 have hk := h.k.lt
 simp only [slots, List.mem_cons, List.mem_nil_iff, or_false] at hl
 rcases hl with rfl | rfl | rfl | rfl | rfl | rfl | rfl
 ·rw [List.mem_singleton] at hj; subst hj; exact h.c.1
 ·rw [List.mem_singleton] at hj; subst hj; exact hm.1
 ·rw [List.mem_singleton] at hj; subst hj; exact hk _ (.head _)
 ·rw [List.mem_singleton] at hj; subst hj; exact hk _ (.tail _ (.head _))
 ·exact h.n.rw.lt j hj
 ·exact h.r.1.rw.lt j hj
 ·exact hk _ (.tail _ (.tail _ hj))
theorem FL.ltS {H : Hp} {p : Nat} {a : FA} {f : Fm} (h : FL H p a f) : ∀ m ∈ slots p a, ∀ j ∈ m, j < H.next := fun m hm j hj => h.lt j (List.mem_flatten.2 ⟨m, hm, hj⟩)
theorem inn_at {a : FA} {i : Nat} {r : RA} (h : a.ras[i]? = some r) : ∀ j ∈ r.fp, j ∈ inn a := fun j hj => List.mem_flatMap.2 ⟨r, List.mem_of_getElem? h, hj⟩
theorem FL.out {H H' : Hp} {p : Nat} {a : FA} {f : Fm} {S : List Nat} (h : FL H p a f) (k : Out S H H') (hs : ∀ j ∈ own p a, j ∉ S) (hi : ∀ j ∈ DfK.inn a, j ∉ S) : FL H' p a f := by
 obtain ⟨bs, c, h1, h2⟩ := h.t
 have hk := h.k.lt
 refine ⟨h.c.out k (hs _ (mem_own (k := 0) rfl (.head _))), h.n.out k fun j hj => hs _ (mem_own (k := 4) rfl hj), ⟨bs, c, h1, h2.out k (hs _ (mem_own (k := 1) rfl (.head _)))⟩, h.tnd, h.r.out k fun j hj => hs _ (mem_own (k := 5) rfl hj), fun i r x hr hx => (h.v i r x hr hx).out k fun j hj => hi j (inn_at hr j hj), h.len, h.k.out k fun j hj => ?_, h.dj, h.lo, fun j hj => ⟨(h.inn j hj).1, Nat.lt_of_lt_of_le (h.inn j hj).2 k.1⟩⟩
 rcases List.mem_cons.1 hj with rfl | hj
 ·exact hs _ (mem_own (k := 2) rfl (.head _))
 ·rcases List.mem_cons.1 hj with rfl | hj
  ·exact hs _ (mem_own (k := 3) rfl (.head _))
  ·exact hs _ (mem_own (k := 6) rfl hj)
theorem FL.out0 {H H' : Hp} {p : Nat} {a : FA} {f : Fm} (h : FL H p a f) (k : Out [] H H') : FL H' p a f := h.out k (fun _ _ q => by cases q) fun _ _ q => by cases q
structure FSt (H H' : Hp) (p : Nat) (a a' : FA) : Prop where
 o : Out (own p a) H H'
 w : ∀ j ∈ own p a', j ∈ own p a ∨ H.next ≤ j
 i : ∀ j ∈ DfK.inn a', j ∈ DfK.inn a ∨ H.next ≤ j
theorem FSt.same {H H' : Hp} (k : Out [] H H') (p : Nat) (a : FA) : FSt H H' p a a := ⟨k.mono fun j hj => (by cases hj), fun j hj => .inl hj, fun j hj => .inl hj⟩
theorem FSt.trans {H H' H'' : Hp} {p : Nat} {a b c : FA} (h : FSt H H' p a b) (k : FSt H' H'' p b c) : FSt H H'' p a c :=
 ⟨h.o.then k.o h.w, fun j hj => (k.w j hj).elim (h.w j) fun q => .inr (Nat.le_trans h.o.1 q), fun j hj => (k.i j hj).elim (h.i j) fun q => .inr (Nat.le_trans h.o.1 q)⟩
theorem FL.part {H H' : Hp} {p : Nat} {a : FA} {f : Fm} {S : List Nat} {i : Nat} (h : FL H p a f) (k : Out S H H') (hS : (slots p a)[i]? = some S) :
  (i ≠ 0 → Cs H' p (fv a f) 88 0) ∧ (i ≠ 4 → Ow H' 9 1 a.nx (strs f.nms)) ∧ (i ≠ 1 → ∃ bs c, bs.length = f.txs.length ∧ Mp H' a.tm (txM (f.txs.zip bs)) c) ∧ (i ≠ 5 → OL H' 95 5 a.rx (List.zipWith rowC a.ras f.rns)) ∧
  (i ≠ 2 → i ≠ 3 → i ≠ 6 → KO H' a.kp a.km a.kl f.ks) ∧ (∀ (i : Nat) (r : RA) (x : Rn × Str), a.ras[i]? = some r → f.rns[i]? = some x → RV H' r.dx r.xs r.tx r.sx x.1) := by
 have sep : ∀ {j : Nat} {l : List Nat}, i ≠ j → (slots p a)[j]? = some l → ∀ x ∈ l, x ∉ S := fun hij hl => (dj_at h.dj hij hS hl).symm
 obtain ⟨bs, c, h1, h2⟩ := h.t
 refine ⟨fun hi => h.c.out k (sep hi rfl p (.head _)), fun hi => h.n.out k (sep hi rfl), fun hi => ⟨bs, c, h1, h2.out k (sep hi rfl a.tm (.head _))⟩, fun hi => h.r.out k (sep hi rfl), fun i1 i2 i3 => h.k.out k fun j hj => ?_, fun m r x hr hx => (h.v m r x hr hx).out k fun j hj q => (h.inn j (inn_at hr j hj)).1 (mem_own hS q)⟩
 rcases List.mem_cons.1 hj with rfl | hj
 ·exact sep i1 rfl _ (.head _)
 ·rcases List.mem_cons.1 hj with rfl | hj
  ·exact sep i2 rfl _ (.head _)
  ·exact sep i3 rfl _ hj
theorem FL.innAt {H H' : Hp} {p : Nat} {a : FA} {f : Fm} (h : FL H p a f) (hn : H.next ≤ H'.next) : ∀ j ∈ DfK.inn a, j ∉ own p a ∧ j < H'.next := fun j hj => ⟨(h.inn j hj).1, Nat.lt_of_lt_of_le (h.inn j hj).2 hn⟩
theorem FL.clock {H : Hp} {p : Nat} {a : FA} {f : Fm} (h : FL H p a f) (z : Int) : ∃ H', st 1 (.ptr p 0) (.int .i64 z) H = some H' ∧ FL H' p a { f with ck := z } ∧ FSt H H' p a a := by
 obtain ⟨H', s1, s2, s3, s4⟩ := st1 h.c (by decide) (o := 0) (by simp) (v := .int .i64 z) rfl
 obtain ⟨p0, p4, p1, p5, pk, pv⟩ := h.part s3 (i := 0) rfl
 exact ⟨H', s1, ⟨s2, p4 (by decide), p1 (by decide), h.tnd, p5 (by decide), pv, h.len, pk (by decide) (by decide) (by decide), h.dj, h.lo, h.innAt s3.1⟩, s3.mono fun j hj => mem_own (k := 0) rfl hj, fun j hj => .inl hj, fun j hj => .inl hj⟩
theorem own_set {p k N : Nat} {a a' : FA} {l l' : List Nat} (hs : slots p a' = (slots p a).set k l') (hk : (slots p a)[k]? = some l) (hl : ∀ j ∈ l', j ∈ l ∨ N ≤ j) : ∀ j ∈ own p a', j ∈ own p a ∨ N ≤ j := by
 intro j hj
 obtain ⟨m, hm, hj⟩ := List.mem_flatten.1 hj
 rw [hs] at hm
 rcases List.mem_or_eq_of_mem_set hm with q | rfl
 ·exact .inl (List.mem_flatten.2 ⟨m, q, hj⟩)
 ·exact (hl j hj).imp (fun q => mem_own hk q) id
theorem FL.pushN {H : Hp} {p : Nat} {a : FA} {f : Fm} (h : FL H p a f) (s : Str) (hn : f.nms.length ≤ 1000) :
  ∃ nx' H1 H2, (∀ i, i = H.next → app' 9 1 [(.str [])] false a.nx (.slice i 0 1 1 true 1) (al H [.str s] 9 0) = some (nx', H1)) ∧ st 1 (.ptr p 1) nx' H1 = some H2 ∧ FL H2 p { a with nx := nx' } { f with nms := f.nms ++ [s] } ∧ FSt H H2 p a { a with nx := nx' } ∧ oneC nx' = true := by
 obtain ⟨nx', H1, p1, p2, p3, p4, p5⟩ := push_ok (el2 := 9) (z := [(.str [])]) (vs := [.str s]) h.n rfl rfl (by decide) (by rw [strs_len]; simp; omega)
 obtain ⟨q0, q4, q1, q5, qk, qv⟩ := h.part p3 (i := 4) rfl
 obtain ⟨H2, s1, s2, s3, s4⟩ := st1 (q0 (by decide)) (by decide) (o := 1) (by simp) (v := nx') p5
 have hs : slots p { a with nx := nx' } = (slots p a).set 4 (rid nx') := rfl
 have hdj : (slots p { a with nx := nx' }).Pairwise Dj := by rw [hs]; exact dj_set h.dj (k := 4) rfl h.ltS p4
 have sep : ∀ {j : Nat} {l : List Nat}, 0 ≠ j → (slots p { a with nx := nx' })[j]? = some l → ∀ x ∈ l, x ∉ [p] := fun hij hl => (dj_at hdj hij (i := 0) rfl hl).symm
 have hw := own_set (a := a) (N := H.next) hs (k := 4) rfl p4
 have hi : ∀ j ∈ DfK.inn { a with nx := nx' }, j ∉ own p { a with nx := nx' } ∧ j < H2.next := fun j hj => ⟨fun q => (hw j q).elim (h.inn j hj).1 fun z => by have := (h.inn j hj).2; omega, by have := (h.inn j hj).2; have := p3.1; have := s3.1; omega⟩
 obtain ⟨bs, c, t1, t2⟩ := q1 (by decide)
 have hO : Out (own p a) H H2 := (p3.mono fun j hj => mem_own (k := 4) rfl hj).trans (s3.mono fun j hj => mem_own (k := 0) rfl hj)
 refine ⟨nx', H1, H2, p1, s1, ⟨s2, ?_, ⟨bs, c, t1, t2.out s3 (sep (j := 1) (by decide) rfl _ (.head _))⟩, h.tnd, (q5 (by decide)).out s3 (sep (j := 5) (by decide) rfl), fun i r x hr hx => (qv i r x hr hx).out s3 fun j hj q => (hi j (inn_at (a := { a with nx := nx' }) hr j hj)).1 (mem_own (k := 0) rfl q), h.len, (qk (by decide) (by decide) (by decide)).out s3 fun j hj => ?_, hdj, fun j hj => (hw j hj).elim (h.lo j) fun q => ?_, hi⟩, ⟨hO, hw, fun j hj => .inl hj⟩, p5⟩
 ·rw [show strs (f.nms ++ [s]) = strs f.nms ++ [.str s] by rw [strs_app]; rfl]
  exact p2.out s3 (sep (j := 4) (by decide) rfl)
 ·rcases List.mem_cons.1 hj with rfl | hj
  ·exact sep (j := 2) (by decide) rfl _ (.head _)
  ·rcases List.mem_cons.1 hj with rfl | hj
   ·exact sep (j := 3) (by decide) rfl _ (.head _)
   ·exact sep (j := 6) (by decide) rfl _ hj
 ·have := h.lo p (mem_own (k := 0) rfl (.head _)); have := h.c.1; omega
theorem txM_ne {l : List ((Str × Str) × Nat)} {s : Str} (h : ∀ x ∈ l, x.1.1 ≠ s) : ∀ e ∈ txM l, ∃ q, e.key = .str q ∧ q ≠ s := by
 intro e he
 obtain ⟨x, hx, rfl⟩ := List.mem_map.1 he
 exact ⟨_, rfl, h x hx⟩
def getT (l : List (Str × Str)) (s : Str) : Option Str := (l.find? (fun x => x.1 == s)).map (·.2)
theorem getT_none {l : List (Str × Str)} {k : Str} (h : getT l k = none) : ∀ x ∈ l, x.1 ≠ k := by
 unfold getT at h
 rw [Option.map_eq_none_iff, List.find?_eq_none] at h
 intro x hx q
 exact h x hx (by rw [q]; exact beq_self_eq_true _)
theorem getT_some {l : List (Str × Str)} {k t : Str} (h : getT l k = some t) : ∃ a b, l = a ++ (k, t) :: b ∧ ∀ x ∈ a, x.1 ≠ k := by
 unfold getT at h
 rw [Option.map_eq_some_iff] at h
 obtain ⟨x, h1, rfl⟩ := h
 rw [List.find?_eq_some_iff_append] at h1
 obtain ⟨h2, a, b, rfl, h3⟩ := h1
 have : x.1 = k := by simpa using h2
 subst this
 exact ⟨a, b, rfl, fun y hy q => by have := h3 y hy; rw [q] at this; simp at this⟩
theorem zipT_mid {a b : List (Str × Str)} {x : Str × Str} {bs : List Nat} (h : bs.length = (a ++ x :: b).length) : ∃ b1 c b2, (a ++ x :: b).zip bs = a.zip b1 ++ (x, c) :: b.zip b2 := by
 have h1 : a.length < bs.length := by rw [h, List.length_append, List.length_cons]; omega
 refine ⟨bs.take a.length, bs[a.length], bs.drop (a.length + 1), ?_⟩
 conv => lhs; rw [show bs = bs.take a.length ++ bs[a.length] :: bs.drop (a.length + 1) by rw [List.getElem_cons_drop, List.take_append_drop]]
 rw [List.zip_append (by rw [List.length_take]; omega)]
 rfl
theorem zipT_lk {l : List (Str × Str)} {bs : List Nat} {k : Str} (h : ∀ x ∈ l, x.1 ≠ k) : ∀ y ∈ l.zip bs, y.1.1 ≠ k := fun y hy => h y.1 (List.of_mem_zip hy).1
theorem getT_lk {H : Hp} {tm : Nat} {l : List (Str × Str)} (hm : ∃ bs c, bs.length = l.length ∧ Mp H tm (txM (l.zip bs)) c) (hnd : (l.map (·.1)).Nodup) (k : Str) (ok : Bool) :
  lkp .str (.str []) ok (.map tm) (.str k) H = some (bif ok then .tuple [.str ((getT l k).getD []), .bool (getT l k).isSome] else .str ((getT l k).getD [])) := by
 obtain ⟨bs, c, h1, h2⟩ := hm
 cases hg : getT l k with
 | none =>
  rw [lkp_none h2 (txM_ne (zipT_lk (bs := bs) (getT_none hg)))]
  cases ok <;> rfl
 | some t =>
  obtain ⟨a, b, rfl, h3⟩ := getT_some hg
  obtain ⟨b1, c1, b2, h4⟩ := zipT_mid h1
  rw [h4] at h2
  have hb : ∀ x ∈ b, x.1 ≠ k := by
   intro x hx q
   rw [List.map_append, List.map_cons, List.nodup_append, List.nodup_cons] at hnd
   exact hnd.2.1.1 (List.mem_map.2 ⟨x, hx, q⟩)
  have hsp : txM (a.zip b1 ++ ((k, t), c1) :: b.zip b2) = txM (a.zip b1) ++ ⟨.str k, .str t, c1⟩ :: txM (b.zip b2) := by simp [txM]
  rw [hsp] at h2
  rw [lkp_some (k := k) h2 rfl (txM_ne (zipT_lk (bs := b1) h3)) (txM_ne (zipT_lk (bs := b2) hb))]
  cases ok <;> rfl
theorem FL.putT {H : Hp} {p : Nat} {a : FA} {f : Fm} (h : FL H p a f) {s : Str} (hs : getT f.txs s = none) (t : Str) :
  ∃ H', mup .str (.map a.tm) (.str s) (.str t) H = some H' ∧ FL H' p a { f with txs := f.txs ++ [(s, t)] } ∧ FSt H H' p a a := by
 obtain ⟨bs, c, t1, t2⟩ := h.t
 obtain ⟨H', u1, u2, u3⟩ := mup_new t2 (txM_ne (zipT_lk (bs := bs) (getT_none hs))) (.str t)
 obtain ⟨q0, q4, q1, q5, qk, qv⟩ := h.part u3 (i := 1) rfl
 refine ⟨H', u1, ⟨q0 (by decide), q4 (by decide), ⟨bs ++ [c], c + 1, by simp [t1], ?_⟩, ?_, q5 (by decide), qv, h.len, qk (by decide) (by decide) (by decide), h.dj, h.lo, h.innAt u3.1⟩, u3.mono fun j hj => mem_own (k := 1) rfl hj, fun j hj => .inl hj, fun j hj => .inl hj⟩
 ·rw [List.zip_append t1.symm]
  simpa [txM] using u2
 ·rw [List.map_append, List.nodup_append]
  refine ⟨h.tnd, by simp, fun x hx y hy q => ?_⟩
  simp at hy
  obtain ⟨z, hz, rfl⟩ := List.mem_map.1 hx
  exact getT_none hs z hz (q.trans hy)
theorem rowC_one {H : Hp} {r : RA} {x : Rn × Str} (h : RV H r.dx r.xs r.tx r.sx x.1) : (rowC r x).all oneC = true := by
 simp [rowC, h.d.row.one, h.t.one, h.s.one, oneC_i, oneC_s]
theorem FL.pushRun {H : Hp} {p : Nat} {a : FA} {f : Fm} (h : FL H p a f) {r' : RA} {x : Rn × Str} (hR : RV H r'.dx r'.xs r'.tx r'.sx x.1) (hn : ∀ j ∈ r'.fp, j ∉ own p a) (hlen : f.rns.length ≤ 1000) :
  ∃ rx' H1 H2, (∀ i, i = H.next → app' 95 5 [.slice0, (.int .i64 0), .slice0, .slice0, (.str [])] false a.rx (.slice i 0 1 1 true 5) (al H (rowC r' x) 95 0) = some (rx', H1)) ∧ st 1 (.ptr p 3) rx' H1 = some H2 ∧ FL H2 p { a with rx := rx', ras := a.ras ++ [r'] } { f with rns := f.rns ++ [x] } ∧ Out (own p a) H H2 ∧ (∀ j ∈ own p { a with rx := rx', ras := a.ras ++ [r'] }, j ∈ own p a ∨ H.next ≤ j) ∧ (∀ j ∈ DfK.inn { a with rx := rx', ras := a.ras ++ [r'] }, j ∈ DfK.inn a ∨ j ∈ r'.fp) ∧ oneC rx' = true := by
 obtain ⟨rx', H1, p1, p2, p3, p4, p5⟩ := h.r.push (el2 := 95) (z := [.slice0, (.int .i64 0), .slice0, .slice0, (.str [])]) (vs := rowC r' x) (rowC_one hR) rfl (by decide) (by rw [List.length_zipWith]; have := h.len; omega)
 obtain ⟨q0, q4, q1, q5, qk, qv⟩ := h.part p3 (i := 5) rfl
 obtain ⟨H2, s1, s2, s3, s4⟩ := st1 (q0 (by decide)) (by decide) (o := 3) (by simp) (v := rx') p5
 have hs : slots p { a with rx := rx', ras := a.ras ++ [r'] } = (slots p a).set 5 (rid rx') := rfl
 have hdj : (slots p { a with rx := rx', ras := a.ras ++ [r'] }).Pairwise Dj := by rw [hs]; exact dj_set h.dj (k := 5) rfl h.ltS p4
 have sep : ∀ {j : Nat} {l : List Nat}, 0 ≠ j → (slots p { a with rx := rx', ras := a.ras ++ [r'] })[j]? = some l → ∀ x ∈ l, x ∉ [p] := fun hij hl => (dj_at hdj hij (i := 0) rfl hl).symm
 have hw := own_set (a := a) (N := H.next) hs (k := 5) rfl p4
 have hii : ∀ j ∈ DfK.inn { a with rx := rx', ras := a.ras ++ [r'] }, j ∈ DfK.inn a ∨ j ∈ r'.fp := by
  intro j hj
  obtain ⟨m, hm, hj'⟩ := List.mem_flatMap.1 hj
  rcases List.mem_append.1 hm with q | q
  ·exact .inl (List.mem_flatMap.2 ⟨m, q, hj'⟩)
  ·rw [List.mem_singleton] at q; rw [q] at hj'; exact .inr hj'
 have hrl := hR.lt
 have hi : ∀ j ∈ DfK.inn { a with rx := rx', ras := a.ras ++ [r'] }, j ∉ own p { a with rx := rx', ras := a.ras ++ [r'] } ∧ j < H2.next := fun j hj => by
  have hnx := p3.1; have hnx2 := s3.1
  rcases hii j hj with q | q
  ·exact ⟨fun z => (hw j z).elim (h.inn j q).1 fun y => by have := (h.inn j q).2; omega, by have := (h.inn j q).2; omega⟩
  ·exact ⟨fun z => (hw j z).elim (hn j q) fun y => by have := hrl j q; omega, by have := hrl j q; omega⟩
 obtain ⟨bs, c, t1, t2⟩ := q1 (by decide)
 have hO : Out (own p a) H H2 := (p3.mono fun j hj => mem_own (k := 5) rfl hj).trans (s3.mono fun j hj => mem_own (k := 0) rfl hj)
 have hzw : List.zipWith rowC a.ras f.rns ++ [rowC r' x] = List.zipWith rowC (a.ras ++ [r']) (f.rns ++ [x]) := by rw [List.zipWith_append h.len]; rfl
 rw [hzw] at p2
 refine ⟨rx', H1, H2, p1, s1, ⟨s2, (q4 (by decide)).out s3 (sep (j := 4) (by decide) rfl), ⟨bs, c, t1, t2.out s3 (sep (j := 1) (by decide) rfl _ (.head _))⟩, h.tnd, p2.out s3 (sep (j := 5) (by decide) rfl), fun i r y hr hy => ?_, by simp [h.len], (qk (by decide) (by decide) (by decide)).out s3 fun j hj => ?_, hdj, fun j hj => (hw j hj).elim (h.lo j) fun q => ?_, hi⟩, hO, hw, hii, p5⟩
 ·have hin := hi
  have key : RV H1 r.dx r.xs r.tx r.sx y.1 := by
   simp only at hr hy
   by_cases hil : i < a.ras.length
   ·rw [List.getElem?_append_left hil] at hr
    rw [List.getElem?_append_left (by rw [← h.len]; exact hil)] at hy
    exact qv i r y hr hy
   ·rw [List.getElem?_append_right (by omega)] at hr
    rw [List.getElem?_append_right (by rw [← h.len]; omega), ← h.len] at hy
    have h0 : i - a.ras.length = 0 := by
     have := (List.getElem?_eq_some_iff.1 hr).1
     simp at this; omega
    rw [h0] at hr hy
    cases hr; cases hy
    exact hR.out p3 fun j hj q => hn j hj (mem_own (k := 5) rfl q)
  exact key.out s3 fun j hj q => (hi j (inn_at (a := { a with rx := rx', ras := a.ras ++ [r'] }) hr j hj)).1 (mem_own (k := 0) rfl q)
 ·rcases List.mem_cons.1 hj with rfl | hj
  ·exact sep (j := 2) (by decide) rfl _ (.head _)
  ·rcases List.mem_cons.1 hj with rfl | hj
   ·exact sep (j := 3) (by decide) rfl _ (.head _)
   ·exact sep (j := 6) (by decide) rfl _ hj
 ·have := h.lo p (mem_own (k := 0) rfl (.head _)); have := h.c.1; omega
theorem FL.putK {H : Hp} {p : Nat} {a : FA} {f : Fm} (h : FL H p a f) (hn : f.ks.length < 128) {k : Ky} (hk : getK f.ks k = none) (id : Int) :
  ∃ kl' H', cK (.func (.func 46) [] []) [.ptr a.kp 0, .agg (kyC k), .int .i64 id] H = some (.tuple [.int .i64 id, .bool true], H') ∧ FL H' p { a with kl := kl' } { f with ks := f.ks ++ [(k, id)] } ∧ FSt H H' p a { a with kl := kl' } := by
 obtain ⟨kl', H', k1, k2, k3, k4⟩ := keysPut_c h.k hn hk id
 have hS : ∀ j ∈ fpK a.kp a.km a.kl, j ∈ [a.kp] ∨ j ∈ [a.km] ∨ j ∈ rid a.kl := fun j hj => by
  rcases List.mem_cons.1 hj with rfl | hj
  ·exact .inl (.head _)
  ·rcases List.mem_cons.1 hj with rfl | hj
   ·exact .inr (.inl (.head _))
   ·exact .inr (.inr hj)
 have sep : ∀ {j : Nat} {l : List Nat}, j ≠ 2 → j ≠ 3 → j ≠ 6 → (slots p a)[j]? = some l → ∀ x ∈ l, x ∉ fpK a.kp a.km a.kl := fun h2 h3 h6 hl x hx q => by
  rcases hS x q with z | z | z
  ·exact dj_at h.dj h2 hl (j := 2) rfl x hx z
  ·exact dj_at h.dj h3 hl (j := 3) rfl x hx z
  ·exact dj_at h.dj h6 hl (j := 6) rfl x hx z
 have hso : ∀ j ∈ fpK a.kp a.km a.kl, j ∈ own p a := fun j hj => by
  rcases hS j hj with z | z | z
  ·exact mem_own (k := 2) rfl z
  ·exact mem_own (k := 3) rfl z
  ·exact mem_own (k := 6) rfl z
 have hs : slots p { a with kl := kl' } = (slots p a).set 6 (rid kl') := rfl
 have hdj : (slots p { a with kl := kl' }).Pairwise Dj := by rw [hs]; exact dj_set h.dj (k := 6) rfl h.ltS k4
 have hw := own_set (a := a) (N := H.next) hs (k := 6) rfl k4
 have hi : ∀ j ∈ DfK.inn { a with kl := kl' }, j ∉ own p { a with kl := kl' } ∧ j < H'.next := fun j hj => ⟨fun q => (hw j q).elim (h.inn j hj).1 fun z => by have := (h.inn j hj).2; omega, by have := (h.inn j hj).2; have := k3.1; omega⟩
 obtain ⟨bs, c, t1, t2⟩ := h.t
 refine ⟨kl', H', k1, ⟨h.c.out k3 (sep (j := 0) (by decide) (by decide) (by decide) rfl _ (.head _)), h.n.out k3 (sep (j := 4) (by decide) (by decide) (by decide) rfl), ⟨bs, c, t1, t2.out k3 (sep (j := 1) (by decide) (by decide) (by decide) rfl _ (.head _))⟩, h.tnd, h.r.out k3 (sep (j := 5) (by decide) (by decide) (by decide) rfl), fun i r x hr hx => (h.v i r x hr hx).out k3 fun j hj q => (h.inn j (inn_at hr j hj)).1 (hso j q), h.len, k2, hdj, fun j hj => (hw j hj).elim (h.lo j) fun q => ?_, hi⟩, k3.mono hso, hw, fun j hj => .inl hj⟩
 have := h.lo p (mem_own (k := 0) rfl (.head _)); have := h.c.1; omega
end Go.Proofs.YtkhhnpkmblldbaaGreatDoor.DfK
namespace Go.Proofs.YtkhhnpkmblldbaaGreatDoor.DfK
open Go Am Am.K DfEnv DfM LibP DfG
set_option linter.unusedVariables false
set_option linter.unusedSimpArgs false
set_option maxRecDepth 10000
def numB (n : Nat) : Bool := Nat.ble (dec n).length 4 && (dec n).all (fun b => Nat.ble 48 b && Nat.ble b 57) && (match Lib.atoiAll ((dec n).map UInt8.ofNat) with | .ok v => v == (n : Int) | _ => false)
theorem numB_all : ∀ n : Fin 1001, numB n.val = true := by decide +kernel
theorem dec_num {n : Int} (h0 : 0 ≤ n) (h1 : n ≤ 1000) : numM (dec n) = some n.toNat ∧ (dec n).length ≤ 4 ∧ ∀ b ∈ dec n, 48 ≤ b ∧ b ≤ 57 := by
 obtain ⟨m, rfl⟩ : ∃ m : Nat, n = m := ⟨n.toNat, by omega⟩
 have h := numB_all ⟨m, by omega⟩
 unfold numB at h
 simp only [Bool.and_eq_true, Nat.ble_eq, List.all_eq_true] at h
 obtain ⟨⟨l, d⟩, a⟩ := h
 refine ⟨?_, l, fun b hb => d b hb⟩
 unfold numM
 rw [if_pos l]
 have e : u8of (dec (m : Int)) = (dec (m : Int)).map UInt8.ofNat := rfl
 rw [e]
 revert a
 cases Lib.atoiAll ((dec (m : Int)).map UInt8.ofNat) with
 | ok v =>
  intro a
  obtain rfl : v = (m : Int) := by simpa using a
  simp
 | _ => intro a; cases a
theorem num_dec {s : Str} {n : Nat} (h : numM s = some n) : dec (n : Int) = s := by
 unfold numM at h
 split at h
 ·split at h
  ·split at h
   ·rename_i v _ hv
    cases h
    rw [show ((v.toNat : Nat) : Int) = v by omega]
    exact hv.1
   ·cases h
  ·cases h
 ·cases h
theorem dropW_nil {p : Nat → Bool} : ∀ {l : Str}, l.dropWhile p = [] → ∀ b ∈ l, p b = true
 | [], _, b, hb => by cases hb
 | a :: l, h, b, hb => by
  rw [List.dropWhile_cons] at h
  split at h
  ·rename_i ha
   rcases List.mem_cons.1 hb with rfl | hb
   ·exact ha
   ·exact dropW_nil h b hb
  ·cases h
theorem trim_in {s c : Str} (h : trimN s c = []) : ∀ b ∈ s, b ∈ c := by
 rw [trimN_eq] at h
 replace h := dropW_nil h
 intro b hb
 have hb' : b ∈ s.reverse := List.mem_reverse.2 hb
 rw [← List.takeWhile_append_dropWhile (p := (c.contains ·)) (l := s.reverse), List.mem_append] at hb'
 rcases hb' with q | q
 ·have := List.all_eq_true.1 (List.all_takeWhile (p := (c.contains ·)) (l := s.reverse)) b q
  simpa using this
 ·have := h b (List.mem_reverse.2 q)
  simpa using this
theorem okN_in {s : Str} (h : okN s = true) : s ≠ [] ∧ s.length ≤ 16 ∧ ∀ b ∈ s, b ∈ alN := by
 unfold okN at h
 simp only [Bool.and_eq_true, Bool.not_eq_true', beq_eq_false_iff_ne, decide_eq_true_eq, beq_iff_eq] at h
 exact ⟨h.1, by omega, trim_in h.2.2⟩
theorem alN_ne : ∀ b ∈ alN, b ≠ 32 ∧ b ≠ 44 ∧ b ≠ 59 ∧ b ≠ 61 ∧ b < 256 := by decide
theorem dig_al : ∀ b : Nat, 48 ≤ b → b ≤ 57 → b ∈ alN := by
 intro b h1 h2
 have : ∀ k : Fin 10, 48 + k.val ∈ alN := by decide
 have := this ⟨b - 48, by omega⟩
 simpa [show 48 + (b - 48) = b by omega] using this
def nmAt (ts : List Tk) (a : Int) : Str := (names ts).getD a.toNat []
def sfx (ts : List Tk) : Bool → List Int → Str
 | _, [] => []
 | f, a :: r => ((if f then [32, 97, 102, 116, 101, 114, 61] else [44]) ++ nmAt ts a) ++ sfx ts false r
def toldM (key : Str) (n p : Int) : Str := if n = p then [] else key ++ dec n
def showT (ts : List Tk) (t : Tk) : Str :=
 ((t.name ++ sfx ts true t.after) ++ ((toldM [32, 114, 101, 116, 114, 121, 61] t.retry 0 ++ toldM [32, 119, 97, 105, 116, 61] t.wait 10) ++ toldM [32, 98, 97, 115, 101, 61] t.base 1)) ++ (if t.on = [] then [] else [32, 111, 110, 61] ++ t.on)
noncomputable def showM (ts : List Tk) : Str := if goodM ts = 0 then joi 59 (ts.map (showT ts)) else []
def wrd (k v : Str) : Str := k ++ 61 :: v
def opW (c : Prop) [Decidable c] (k v : Str) : List Str := if c then [] else [wrd k v]
def showW (ts : List Tk) (t : Tk) : List Str := t.name :: (opW (t.after = []) kAfter (joi 44 (t.after.map (nmAt ts))) ++ (opW (t.retry = 0) kRetry (dec t.retry) ++ (opW (t.wait = 10) kWait (dec t.wait) ++ (opW (t.base = 1) kBase (dec t.base) ++ opW (t.on = []) kOn t.on))))
theorem joi_cons (c : Nat) : ∀ (l : List Str) (a : Str), joi c (a :: l) = a ++ l.flatMap (fun s => c :: s)
 | [], a => by simp [joi]
 | b :: l, a => by
  show a ++ c :: joi c (b :: l) = _
  rw [joi_cons c l b]; simp
theorem joi_len (c : Nat) : ∀ (l : List Str), l ≠ [] → (joi c l).length + 1 = sumL l + l.length
 | [], h => absurd rfl h
 | [a], _ => by simp [joi, sumL]
 | a :: b :: l, _ => by
  have := joi_len c (b :: l) (by simp)
  show (a ++ c :: joi c (b :: l)).length + 1 = _
  simp [sumL] at this ⊢
  omega
theorem joi_mem {c b : Nat} : ∀ {l : List Str}, b ∈ joi c l → b = c ∨ ∃ s ∈ l, b ∈ s
 | [], h => by cases h
 | [a], h => .inr ⟨a, .head _, h⟩
 | a :: d :: l, h => by
  have h : b ∈ a ++ c :: joi c (d :: l) := h
  rw [List.mem_append, List.mem_cons] at h
  rcases h with h | h | h
  ·exact .inr ⟨a, .head _, h⟩
  ·exact .inl h
  ·exact (joi_mem h).imp id fun ⟨s, hs, hb⟩ => ⟨s, .tail _ hs, hb⟩
theorem sfx_f (ts : List Tk) : ∀ l, sfx ts false l = (l.map (nmAt ts)).flatMap (fun s => 44 :: s)
 | [] => rfl
 | a :: r => by simp [sfx, sfx_f ts r]
theorem sfx_t (ts : List Tk) (a : Int) (r : List Int) : sfx ts true (a :: r) = 32 :: (kAfter ++ 61 :: joi 44 ((a :: r).map (nmAt ts))) := by
 rw [List.map_cons, joi_cons, ← sfx_f]
 simp [sfx]
theorem showT_eq (ts : List Tk) (t : Tk) : showT ts t = joi 32 (showW ts t) := by
 have h1 : sfx ts true t.after = (opW (t.after = []) kAfter (joi 44 (t.after.map (nmAt ts)))).flatMap (fun s => 32 :: s) := by
  unfold opW wrd
  cases h : t.after with
  | nil => rfl
  | cons a r => rw [sfx_t]; simp
 have h2 : ∀ (k v : Str) (n p : Int), v = dec n → toldM (32 :: (k ++ [61])) n p = (opW (n = p) k v).flatMap (fun s => 32 :: s) := by
  intro k v n p hv
  subst hv
  unfold toldM opW wrd
  split <;> simp
 have h3 : (if t.on = [] then [] else [32, 111, 110, 61] ++ t.on) = (opW (t.on = []) kOn t.on).flatMap (fun s => 32 :: s) := by
  unfold opW wrd
  split <;> simp
 have a := h2 kRetry _ t.retry 0 rfl
 have b := h2 kWait _ t.wait 10 rfl
 have c := h2 kBase _ t.base 1 rfl
 unfold showT showW
 rw [joi_cons, List.flatMap_append, List.flatMap_append, List.flatMap_append, List.flatMap_append, ← h1, ← h3, ← a, ← b, ← c]
 simp only [List.append_assoc, List.cons_append, List.nil_append]
theorem cut_app {c : Nat} {a : Str} (r : Str) (h : c ∉ a) : cut c (a ++ c :: r) = (a, r, true) := by
 unfold cut
 rw [idxB_app r 0 h, Nat.zero_add]
 simp only
 rw [List.take_left', List.drop_append]
 ·simp
 ·rfl
theorem keys_at : ∀ j i : Fin 5, i.val ≤ j.val → ∃ k, keysM[j.val]? = some k ∧ 61 ∉ k ∧ (keysM.drop i.val).findIdx? (fun a => k == a) = some (j.val - i.val) := by
 intro j i h
 have : ∀ j i : Fin 5, i.val ≤ j.val → 61 ∉ keysM[j.val]! ∧ (keysM.drop i.val).findIdx? (fun a => keysM[j.val]! == a) = some (j.val - i.val) := by decide
 refine ⟨keysM[j.val]!, ?_, this j i h⟩
 have h5 : ∀ j : Fin 5, keysM[j.val]? = some keysM[j.val]! := by decide
 exact h5 j
theorem tk_step {nms r : List Str} {t : Tk} {i j : Nat} {k v : Str} (hk : keysM[j]? = some k) (hi : i ≤ j) : tkM nms (wrd k v :: r) t (keysM.drop i) = match setM t k v nms with | none => none | some t' => tkM nms r t' (keysM.drop (j + 1)) := by
 have hj : j < 5 := (List.getElem?_eq_some_iff.1 hk).1
 obtain ⟨k', h1, h2, h3⟩ := keys_at ⟨j, hj⟩ ⟨i, by omega⟩ hi
 rw [hk] at h1
 cases h1
 have hc := cut_app v h2
 rw [tkM]
 unfold wrd
 rw [hc]
 simp only
 simp only at h3
 rw [h3]
 simp only
 rw [if_neg (by simp), List.drop_drop]
 rw [show i + (j - i + 1) = j + 1 by omega]
 try (cases setM t k v nms <;> rfl)
theorem tk_opt {nms r : List Str} {t t' : Tk} {i j : Nat} {k v : Str} {c : Prop} [Decidable c] (hk : keysM[j]? = some k) (hi : i ≤ j) (h1 : c → t' = t) (h2 : ¬ c → setM t k v nms = some t') :
  ∃ i', i' ≤ j + 1 ∧ tkM nms (opW c k v ++ r) t (keysM.drop i) = tkM nms r t' (keysM.drop i') := by
 by_cases hc : c
 ·refine ⟨i, by omega, ?_⟩
  rw [h1 hc]; unfold opW; rw [if_pos hc]; rfl
 ·refine ⟨j + 1, Nat.le_refl _, ?_⟩
  unfold opW; rw [if_neg hc]
  show tkM nms (wrd k v :: r) t _ = _
  rw [tk_step hk hi, h2 hc]
theorem find_nodup : ∀ {l : List Str} {i : Nat} {s : Str}, l.Nodup → l[i]? = some s → l.findIdx? (fun a => s == a) = some i
 | [], i, s, _, h => by simp at h
 | a :: l, 0, s, hn, h => by
  simp only [List.getElem?_cons_zero, Option.some.injEq] at h
  subst h
  simp [List.findIdx?_cons]
 | a :: l, i + 1, s, hn, h => by
  simp only [List.getElem?_cons_succ] at h
  rw [List.nodup_cons] at hn
  have hne : (s == a) = false := by
   rw [beq_eq_false_iff_ne]; intro e; subst e
   exact hn.1 (List.mem_of_getElem? h)
  rw [List.findIdx?_cons, hne, find_nodup hn.2 h]; rfl
theorem nmAt_get {ts : List Tk} {a : Int} (h0 : 0 ≤ a) (h1 : a ≤ (ts.length : Int) - 1) : (names ts)[a.toNat]? = some (nmAt ts a) ∧ nmAt ts a ∈ names ts := by
 have hl : a.toNat < (names ts).length := by unfold names; rw [List.length_map]; omega
 have : (names ts)[a.toNat]? = some (nmAt ts a) := by
  unfold nmAt
  rw [List.getD_eq_getElem?_getD, List.getElem?_eq_getElem hl]; rfl
 exact ⟨this, List.mem_of_getElem? this⟩
theorem places_nm {ts : List Tk} (hn : (names ts).Nodup) : ∀ {l : List Int}, (∀ a ∈ l, 0 ≤ a ∧ a ≤ (ts.length : Int) - 1) → placesM (names ts) (l.map (nmAt ts)) = some l
 | [], _ => rfl
 | a :: l, h => by
  obtain ⟨a0, a1⟩ := h a (.head _)
  show placesM (names ts) (nmAt ts a :: l.map (nmAt ts)) = _
  rw [placesM, find_nodup hn (nmAt_get a0 a1).1]
  simp only
  rw [places_nm hn fun b hb => h b (.tail _ hb)]
  show some ((a.toNat : Int) :: l) = _
  rw [show ((a.toNat : Nat) : Int) = a by omega]
structure Fit (ts : List Tk) : Prop where
 nd : (names ts).Nodup
 nm : ∀ s ∈ names ts, s ≠ [] ∧ s.length ≤ 16 ∧ ∀ b ∈ s, b ∈ alN
 aft : ∀ t ∈ ts, (∀ a ∈ t.after, 0 ≤ a ∧ a ≤ (ts.length : Int) - 1) ∧ t.after.length ≤ 16
 num : ∀ t ∈ ts, 0 ≤ t.retry ∧ t.retry ≤ 8 ∧ 1 ≤ t.wait ∧ t.wait ≤ 1000 ∧ 1 ≤ t.base ∧ t.base ≤ 1000
 on : ∀ t ∈ ts, t.on = [] ∨ (t.on.length ≤ 16 ∧ ∀ b ∈ t.on, b ∈ alN)
theorem Fit.at44 {ts : List Tk} (h : Fit ts) {s : Str} (hs : s ∈ names ts) : 44 ∉ s := fun q => (alN_ne 44 ((h.nm s hs).2.2 44 q)).2.1 rfl
theorem taskM_show {ts : List Tk} (hF : Fit ts) {t : Tk} (ht : t ∈ ts) : taskM (names ts) (showW ts t) = some t := by
 obtain ⟨n1, n2, n3, n4, n5, n6⟩ := hF.num t ht
 obtain ⟨a1, a2⟩ := hF.aft t ht
 have hm : ∀ s ∈ t.after.map (nmAt ts), s ∈ names ts := fun s hs => by
  obtain ⟨a, ha, rfl⟩ := List.mem_map.1 hs
  exact (nmAt_get (a1 a ha).1 (a1 a ha).2).2
 unfold taskM showW
 show tkM (names ts) _ ⟨t.name, [], 0, 10, 1, []⟩ (keysM.drop 0) = _
 obtain ⟨i1, l1, e1⟩ := tk_opt (nms := names ts) (r := opW (t.retry = 0) kRetry (dec t.retry) ++ (opW (t.wait = 10) kWait (dec t.wait) ++ (opW (t.base = 1) kBase (dec t.base) ++ opW (t.on = []) kOn t.on))) (t := ⟨t.name, [], 0, 10, 1, []⟩) (t' := ⟨t.name, t.after, 0, 10, 1, []⟩) (i := 0) (j := 0) (k := kAfter) (v := joi 44 (t.after.map (nmAt ts))) (c := t.after = []) rfl (Nat.le_refl _) (fun h => by rw [h]) fun h => by
  unfold setM
  rw [if_pos rfl, spl_joi (by simpa using h) fun s hs => hF.at44 (hm s hs), places_nm hF.nd a1]; rfl
 obtain ⟨i2, l2, e2⟩ := tk_opt (nms := names ts) (r := opW (t.wait = 10) kWait (dec t.wait) ++ (opW (t.base = 1) kBase (dec t.base) ++ opW (t.on = []) kOn t.on)) (t := ⟨t.name, t.after, 0, 10, 1, []⟩) (t' := ⟨t.name, t.after, t.retry, 10, 1, []⟩) (i := i1) (j := 1) (k := kRetry) (v := dec t.retry) (c := t.retry = 0) rfl l1 (fun h => by rw [h]) fun h => by
  unfold setM
  rw [if_neg (by decide), if_pos rfl, (dec_num n1 (by omega)).1]
  have e : ((t.retry.toNat : Nat) : Int) = t.retry := by omega
  simp only [Option.map_some, e]
 obtain ⟨i3, l3, e3⟩ := tk_opt (nms := names ts) (r := opW (t.base = 1) kBase (dec t.base) ++ opW (t.on = []) kOn t.on) (t := ⟨t.name, t.after, t.retry, 10, 1, []⟩) (t' := ⟨t.name, t.after, t.retry, t.wait, 1, []⟩) (i := i2) (j := 2) (k := kWait) (v := dec t.wait) (c := t.wait = 10) rfl l2 (fun h => by rw [h]) fun h => by
  unfold setM
  rw [if_neg (by decide), if_neg (by decide), if_pos rfl, (dec_num (by omega) n4).1]
  have e : ((t.wait.toNat : Nat) : Int) = t.wait := by omega
  simp only [Option.map_some, e]
 obtain ⟨i4, l4, e4⟩ := tk_opt (nms := names ts) (r := opW (t.on = []) kOn t.on) (t := ⟨t.name, t.after, t.retry, t.wait, 1, []⟩) (t' := ⟨t.name, t.after, t.retry, t.wait, t.base, []⟩) (i := i3) (j := 3) (k := kBase) (v := dec t.base) (c := t.base = 1) rfl l3 (fun h => by rw [h]) fun h => by
  unfold setM
  rw [if_neg (by decide), if_neg (by decide), if_neg (by decide), if_pos rfl, (dec_num (by omega) n6).1]
  have e : ((t.base.toNat : Nat) : Int) = t.base := by omega
  simp only [Option.map_some, e]
 obtain ⟨i5, l5, e5⟩ := tk_opt (nms := names ts) (r := []) (t := ⟨t.name, t.after, t.retry, t.wait, t.base, []⟩) (t' := t) (i := i4) (j := 4) (k := kOn) (v := t.on) (c := t.on = []) rfl l4 (fun h => by rw [← h]) fun h => by
  unfold setM
  rw [if_neg (by decide), if_neg (by decide), if_neg (by decide), if_neg (by decide), if_pos rfl, if_neg h]
 rw [List.append_nil] at e5
 rw [List.tail_cons, e1, e2, e3, e4, e5, tkM]
theorem toldB {ts : List Tk} (hF : Fit ts) {t : Tk} (ht : t ∈ ts) : ∀ s ∈ showW ts t, ∀ b ∈ s, b ∈ alN ∨ b = 44 ∨ b = 61 := by
 obtain ⟨n1, n2, n3, n4, n5, n6⟩ := hF.num t ht
 obtain ⟨a1, a2⟩ := hF.aft t ht
 have hop : ∀ (c : Prop) [Decidable c] (k v : Str), (∀ b ∈ k, b ∈ alN) → (¬ c → ∀ b ∈ v, b ∈ alN ∨ b = 44) → ∀ s ∈ opW c k v, ∀ b ∈ s, b ∈ alN ∨ b = 44 ∨ b = 61 := by
  intro c _ k v hk hv s hs b hb
  unfold opW at hs
  split at hs
  ·cases hs
  ·rename_i hc
   rw [List.mem_singleton] at hs
   subst hs
   unfold wrd at hb
   rw [List.mem_append, List.mem_cons] at hb
   rcases hb with hb | hb | hb
   ·exact .inl (hk b hb)
   ·exact .inr (.inr hb)
   ·exact (hv hc b hb).imp id .inl
 have hdig : ∀ n : Int, 0 ≤ n → n ≤ 1000 → ∀ b ∈ dec n, b ∈ alN ∨ b = 44 := fun n h0 h1 b hb => by
  obtain ⟨x, y⟩ := (dec_num h0 h1).2.2 b hb
  exact .inl (dig_al b x y)
 intro s hs
 unfold showW at hs
 simp only [List.mem_cons, List.mem_append] at hs
 rcases hs with rfl | hs | hs | hs | hs | hs
 ·intro b hb
  exact .inl ((hF.nm _ (List.mem_map.2 ⟨t, ht, rfl⟩)).2.2 b hb)
 ·refine hop _ _ _ (by decide) (fun _ b hb => ?_) s hs
  rcases joi_mem hb with rfl | ⟨u, hu, hb⟩
  ·exact .inr rfl
  ·obtain ⟨a, ha, rfl⟩ := List.mem_map.1 hu
   exact .inl ((hF.nm _ (nmAt_get (a1 a ha).1 (a1 a ha).2).2).2.2 b hb)
 ·exact hop _ _ _ (by decide) (fun _ => hdig _ n1 (by omega)) s hs
 ·exact hop _ _ _ (by decide) (fun _ => hdig _ (by omega) n4) s hs
 ·exact hop _ _ _ (by decide) (fun _ => hdig _ (by omega) n6) s hs
 ·refine hop _ _ _ (by decide) (fun hc b hb => ?_) s hs
  rcases hF.on t ht with q | q
  ·exact absurd q hc
  ·exact .inl (q.2 b hb)
theorem okB {b : Nat} (h : b ∈ alN ∨ b = 44 ∨ b = 61) : b ≠ 32 ∧ b ≠ 59 ∧ b < 256 := by
 rcases h with h | rfl | rfl
 ·have := alN_ne b h; omega
 ·decide
 ·decide
theorem showB {ts : List Tk} (hF : Fit ts) {t : Tk} (ht : t ∈ ts) : ∀ b ∈ showT ts t, b ≠ 59 ∧ b < 256 := by
 intro b hb
 rw [showT_eq] at hb
 rcases joi_mem hb with rfl | ⟨s, hs, hb⟩
 ·decide
 ·have := okB (toldB hF ht s hs b hb); omega
theorem wds_show {ts : List Tk} (hF : Fit ts) {t : Tk} (ht : t ∈ ts) : wds (showT ts t) = showW ts t := by
 unfold wds
 rw [showT_eq]
 exact spl_joi (by unfold showW; simp) fun s hs q => (okB (toldB hF ht s hs 32 q)).1 rfl
theorem tsM_show {ts : List Tk} (hF : Fit ts) : ∀ {us : List Tk}, (∀ t ∈ us, t ∈ ts) → tsM (names ts) (us.map (showT ts)) = some us
 | [], _ => rfl
 | u :: us, h => by
  show tsM (names ts) (showT ts u :: us.map (showT ts)) = _
  rw [tsM, wds_show hF (h u (.head _)), taskM_show hF (h u (.head _)), tsM_show hF fun t ht => h t (.tail _ ht)]; rfl
theorem dup_nodup {ts : List Tk} (h : (List.range ts.length).any (dup ts) = false) : (names ts).Nodup := by
 rw [List.any_eq_false] at h
 have key : ∀ k, k ≤ ts.length → (names (ts.take k)).Nodup := by
  intro k
  induction k with
  | zero => intro _; rw [List.take_zero]; exact List.nodup_nil
  | succ k ih =>
   intro hk
   have hg : ts[k]? = some (ts[k]'(by omega)) := List.getElem?_eq_getElem (by omega)
   have h1 := h k (List.mem_range.2 (by omega))
   unfold dup at h1
   rw [hg] at h1
   rw [List.take_add_one, hg]
   have h2 : ((names (ts.take k)).any fun s => s == (ts[k]'(by omega)).name) = false := by
    simp only at h1
    rwa [Bool.not_eq_true] at h1
   rw [List.any_eq_false] at h2
   unfold names at ih h2 ⊢
   rw [List.map_append, List.nodup_append]
   refine ⟨ih (by omega), by simp, fun a ha b hb e => ?_⟩
   simp only [Option.toList_some, List.map_cons, List.map_nil, List.mem_singleton] at hb
   subst hb
   exact h2 a ha (by simp [e])
 have := key ts.length (Nat.le_refl _)
 rwa [List.take_length] at this
theorem fit_of {ts : List Tk} (h : goodM ts = 0) (hal : ∀ t ∈ ts, t.after.length ≤ 16) : Fit ts ∧ 1 ≤ ts.length ∧ ts.length ≤ 16 := by
 unfold goodM at h
 split at h
 ·cases h
 ·rename_i h1
  split at h
  ·cases h
  ·rename_i h2
   split at h
   ·cases h
   ·rename_i h6
    split at h
    ·cases h
    ·rename_i h3
     split at h
     ·cases h
     ·rename_i h4
      have h1 := Decidable.not_not.1 h1
      have ha := any_p4 (by simpa using h4)
      rw [Bool.not_eq_true, List.any_eq_false] at h2 h3
      have hq : ∀ t ∈ ts, odd1 t = false ∧ odd3 t = false ∧ ∀ a ∈ t.after, 0 ≤ a ∧ a ≤ (ts.length : Int) - 1 := fun t ht => by
       obtain ⟨i, hi⟩ := List.getElem?_of_mem ht
       have hil := (List.getElem?_eq_some_iff.1 hi).1
       have a := h2 i (List.mem_range.2 hil)
       have b := h3 i (List.mem_range.2 hil)
       unfold p1 at a
       unfold p3 at b
       rw [hi] at a b
       exact ⟨by simpa using a, by simpa using b, fun a ha' => ⟨((aft_all ha hi).1 a ha').1, ((aft_all ha hi).1 a ha').2.1⟩⟩
      refine ⟨⟨dup_nodup (by simpa using h6), fun s hs => ?_, fun t ht => ⟨(hq t ht).2.2, hal t ht⟩, fun t ht => ?_, fun t ht => ?_⟩, h1⟩
      ·obtain ⟨t, ht, rfl⟩ := List.mem_map.1 hs
       have := (hq t ht).1
       unfold odd1 at this
       rw [Bool.or_eq_false_iff] at this
       exact okN_in (by simpa using this.1)
      ·have := (hq t ht).2.1
       unfold odd3 at this
       simp only [Bool.or_eq_false_iff, Bool.not_eq_false', Bool.and_eq_true, decide_eq_true_eq] at this
       omega
      ·have := (hq t ht).1
       unfold odd1 at this
       rw [Bool.or_eq_false_iff, Bool.and_eq_false_iff] at this
       rcases this.2 with q | q
       ·exact .inl (by simpa using q)
       ·exact .inr (okN_in (by simpa using q)).2
theorem placesM_nm {ts : List Tk} : ∀ {r : List Str} {l : List Int}, placesM (names ts) r = some l → l.map (nmAt ts) = r
 | [], l, h => by cases h; rfl
 | s :: r, l, h => by
  unfold placesM at h
  split at h
  ·rename_i i hi
   rw [Option.map_eq_some_iff] at h
   obtain ⟨l', h1, rfl⟩ := h
   rw [List.map_cons, placesM_nm h1]
   have hs : nmAt ts (i : Int) = s := by
    rw [List.findIdx?_eq_some_iff_getElem] at hi
    obtain ⟨h2, h3, _⟩ := hi
    have h4 : (names ts)[i] = s := by simpa using (beq_iff_eq.1 h3).symm
    unfold nmAt
    rw [Int.toNat_natCast, List.getD_eq_getElem?_getD, List.getElem?_eq_getElem h2, h4]; rfl
   rw [hs]
  ·cases h
theorem sfx_len (ts : List Tk) : ∀ (l : List Int), l ≠ [] → (sfx ts true l).length = 7 + (joi 44 (l.map (nmAt ts))).length ∧ (sfx ts false l).length = 1 + (joi 44 (l.map (nmAt ts))).length
 | [], h => absurd rfl h
 | a :: r, _ => by
  constructor
  ·rw [sfx_t]; simp; omega
  ·rw [sfx_f, List.map_cons, joi_cons, List.flatMap_cons]; simp; omega
theorem sfx_app (ts : List Tk) : ∀ (l m : List Int) (f : Bool), (sfx ts f (l ++ m)).length = (sfx ts f l).length + (sfx ts (f && l.isEmpty) m).length
 | [], m, f => by simp [sfx]
 | a :: l, m, f => by
  have := sfx_app ts l m false
  simp [sfx] at this ⊢
  omega
theorem set_len {ts : List Tk} {t t' : Tk} {k v : Str} (h : setM t k v (names ts) = some t') : (showT ts t').length ≤ (showT ts t).length + k.length + v.length + 2 ∧ t'.name = t.name := by
 have told : ∀ (key : Str) (n p q : Int), (toldM key n p).length ≤ (toldM key q p).length + key.length + (dec n).length := by
  intro key n p q
  unfold toldM
  split <;> split <;> simp <;> omega
 have hnum : ∀ {n : Nat}, numM v = some n → (dec (n : Int)).length = v.length := fun h => by rw [num_dec h]
 unfold setM at h
 split at h
 ·rename_i hk
  subst hk
  rw [Option.map_eq_some_iff] at h
  obtain ⟨l, h1, rfl⟩ := h
  have h2 := placesM_nm h1
  have hl : l ≠ [] := by
   intro e; subst e
   exact spl_ne 44 v h2.symm
  have h3 := sfx_len ts l hl
  rw [h2, joi_spl] at h3
  have h4 := sfx_app ts t.after l true
  refine ⟨?_, rfl⟩
  unfold showT
  simp only [List.length_append] at h4 ⊢
  have h5 : (sfx ts (true && t.after.isEmpty) l).length ≤ 7 + v.length := by
   cases (true && t.after.isEmpty)
   ·rw [h3.2]; omega
   ·rw [h3.1]; omega
  show _ ≤ _ + 5 + _ + 2
  omega
 ·split at h
  ·rename_i _ hk
   subst hk
   rw [Option.map_eq_some_iff] at h
   obtain ⟨n, h1, rfl⟩ := h
   refine ⟨?_, rfl⟩
   have a := told [32, 114, 101, 116, 114, 121, 61] (n : Int) 0 t.retry
   have b := hnum h1
   unfold showT
   simp only [List.length_append, List.length_cons, List.length_nil] at a ⊢
   omega
  ·split at h
   ·rename_i _ _ hk
    subst hk
    rw [Option.map_eq_some_iff] at h
    obtain ⟨n, h1, rfl⟩ := h
    refine ⟨?_, rfl⟩
    have a := told [32, 119, 97, 105, 116, 61] (n : Int) 10 t.wait
    have b := hnum h1
    unfold showT
    simp only [List.length_append, List.length_cons, List.length_nil] at a ⊢
    omega
   ·split at h
    ·rename_i _ _ _ hk
     subst hk
     rw [Option.map_eq_some_iff] at h
     obtain ⟨n, h1, rfl⟩ := h
     refine ⟨?_, rfl⟩
     have a := told [32, 98, 97, 115, 101, 61] (n : Int) 1 t.base
     have b := hnum h1
     unfold showT
     simp only [List.length_append, List.length_cons, List.length_nil] at a ⊢
     omega
    ·split at h
     ·rename_i _ _ _ _ hk
      subst hk
      split at h
      ·cases h
      ·rename_i hv
       cases h
       refine ⟨?_, rfl⟩
       unfold showT
       simp only [if_neg hv, List.length_append, List.length_cons, List.length_nil]
       omega
     ·rw [Option.map_eq_some_iff] at h
      obtain ⟨n, h1, rfl⟩ := h
      exact ⟨by omega, rfl⟩
theorem cut_split {c : Nat} {s : Str} (h : (cut c s).1.length ≠ s.length) : s.length = (cut c s).1.length + 1 + (cut c s).2.1.length := by
 unfold cut at h ⊢
 cases hi : idxB c s 0 with
 | none => rw [hi] at h; exact absurd rfl h
 | some i =>
  obtain ⟨a, r, rfl, h2, h3⟩ := idxB_some hi
  rw [Nat.zero_add] at h2
  subst h2
  simp
  omega
theorem tk_len2 {ts : List Tk} : ∀ {r : List Str} {t t' : Tk} {ks : List Str}, tkM (names ts) r t ks = some t' → (showT ts t').length ≤ (showT ts t).length + sumL r + r.length ∧ t'.name = t.name
 | [], t, t', ks, h => by cases h; exact ⟨by simp, rfl⟩
 | s :: r, t, t', ks, h => by
  unfold tkM at h
  split at h
  ·cases h
  ·split at h
   ·cases h
   ·rename_i hne
    split at h
    ·cases h
    ·rename_i t1 h1
     obtain ⟨a1, a2⟩ := set_len h1
     obtain ⟨b1, b2⟩ := tk_len2 h
     have := cut_split hne
     have hs : sumL (s :: r) = s.length + sumL r := by simp [sumL]
     refine ⟨?_, b2.trans a2⟩
     rw [hs]; simp only [List.length_cons]; omega
theorem task_len {ts : List Tk} {p : Str} {t : Tk} (h : taskM (names ts) (wds p) = some t) : (showT ts t).length ≤ p.length := by
 unfold taskM at h
 obtain ⟨h1, h2⟩ := tk_len2 h
 have h3 : sumL (wds p) + (wds p).length = p.length + 1 := spl_sum 32 p
 have hne : wds p ≠ [] := spl_ne 32 p
 cases hw : wds p with
 | nil => exact absurd hw hne
 | cons a b =>
  rw [hw] at h1 h3
  have e : showT ts ⟨(a :: b).headD [], [], 0, 10, 1, []⟩ = a := by simp [showT, sfx, toldM]
  rw [e] at h1
  have hs : sumL (a :: b) = a.length + sumL b := by simp [sumL]
  rw [hs] at h3
  simp only [List.tail_cons, List.length_cons] at h1 h3
  omega
theorem tkM_name {nms : List Str} : ∀ {r : List Str} {t t' : Tk} {ks : List Str}, tkM nms r t ks = some t' → t'.name = t.name
 | [], t, t', ks, h => by cases h; rfl
 | s :: r, t, t', ks, h => by
  unfold tkM at h
  split at h
  ·cases h
  ·split at h
   ·cases h
   ·split at h
    ·cases h
    ·rename_i t1 h1
     rw [tkM_name h]
     unfold setM at h1
     split at h1
     ·rw [Option.map_eq_some_iff] at h1; obtain ⟨m, _, rfl⟩ := h1; rfl
     ·split at h1
      ·rw [Option.map_eq_some_iff] at h1; obtain ⟨m, _, rfl⟩ := h1; rfl
      ·split at h1
       ·rw [Option.map_eq_some_iff] at h1; obtain ⟨m, _, rfl⟩ := h1; rfl
       ·split at h1
        ·rw [Option.map_eq_some_iff] at h1; obtain ⟨m, _, rfl⟩ := h1; rfl
        ·split at h1
         ·split at h1
          ·cases h1
          ·cases h1; rfl
         ·rw [Option.map_eq_some_iff] at h1; obtain ⟨m, _, rfl⟩ := h1; rfl
theorem tsM_names {nms : List Str} : ∀ {r : List Str} {ts : List Tk}, tsM nms r = some ts → names ts = r.map hdw
 | [], ts, h => by cases h; rfl
 | s :: r, ts, h => by
  unfold tsM at h
  split at h
  ·cases h
  ·rename_i t ht
   rw [Option.map_eq_some_iff] at h
   obtain ⟨l, h1, rfl⟩ := h
   have h2 := tsM_names h1
   unfold taskM at ht
   have h3 := tkM_name ht
   unfold names at h2 ⊢
   rw [List.map_cons, List.map_cons, h2, h3]
theorem tsM_sum {ts : List Tk} : ∀ {r : List Str} {us : List Tk}, tsM (names ts) r = some us → sumL (us.map (showT ts)) ≤ sumL r ∧ us.length = r.length
 | [], us, h => by cases h; exact ⟨Nat.le_refl _, rfl⟩
 | s :: r, us, h => by
  unfold tsM at h
  split at h
  ·cases h
  ·rename_i t ht
   rw [Option.map_eq_some_iff] at h
   obtain ⟨l, h1, rfl⟩ := h
   obtain ⟨a, b⟩ := tsM_sum h1
   have c := task_len ht
   simp only [sumL, List.map_cons, List.sum_cons, List.length_cons] at a b c ⊢
   omega
theorem after_le0 {ts : List Tk} (hn : ts.length ≤ 16) (ha : aftAll ts) : ∀ t ∈ ts, t.after.length ≤ 16 := fun t ht => by
 obtain ⟨i, hi⟩ := List.getElem?_of_mem ht
 obtain ⟨x1, x2⟩ := aft_all ha hi
 have := nodup_le (n := ts.length) (fun a h => ⟨(x1 a h).1, (x1 a h).2.1⟩) x2
 omega
theorem parse_show {text : Str} (h : (parseM text).2 = 0) : goodM (parseM text).1 = 0 ∧ Fit (parseM text).1 ∧ 1 ≤ (parseM text).1.length ∧ (parseM text).1.length ≤ 16 ∧ (showM (parseM text).1).length ≤ text.length ∧ text.length ≤ 1024 ∧ parseM (showM (parseM text).1) = ((parseM text).1, 0) := by
 obtain ⟨g1, g2, g3, g4, g5, g6⟩ := parseM_good h
 have hal := after_le0 g3 g4
 obtain ⟨hF, f1, f2⟩ := fit_of g1 hal
 have hb : ¬ 1024 < text.length := fun hb => by unfold parseM at h; rw [if_pos hb] at h; cases h
 have hts : tsM ((spl 59 text).map hdw) (spl 59 text) = some (parseM text).1 := by
  unfold parseM at h ⊢
  rw [if_neg hb] at h ⊢
  cases hq : tsM ((spl 59 text).map hdw) (spl 59 text) with
  | none => rw [hq] at h; cases h
  | some ts =>
   rw [hq] at h
   simp only at h ⊢
   by_cases h0 : goodM ts = 0
   ·rw [if_pos h0]
   ·rw [if_neg h0] at h; exact absurd h h0
 generalize (parseM text).1 = ts at *
 have hnm := tsM_names hts
 rw [← hnm] at hts
 obtain ⟨s1, s2⟩ := tsM_sum hts
 have hsp := spl_sum 59 text
 have hne : ts.map (showT ts) ≠ [] := by
  intro e
  have : (ts.map (showT ts)).length = 0 := by rw [e]; rfl
  rw [List.length_map] at this; omega
 have hjl := joi_len 59 _ hne
 rw [List.length_map] at hjl
 have hsm : showM ts = joi 59 (ts.map (showT ts)) := by unfold showM; rw [if_pos g1]
 have hlen : (showM ts).length ≤ text.length := by rw [hsm]; omega
 refine ⟨g1, hF, f1, f2, hlen, by omega, ?_⟩
 have hspl : spl 59 (showM ts) = ts.map (showT ts) := by
  rw [hsm]
  refine spl_joi hne fun p hp q => ?_
  obtain ⟨t, ht, rfl⟩ := List.mem_map.1 hp
  exact (showB hF ht 59 q).1 rfl
 have hnames : (ts.map (showT ts)).map hdw = names ts := by
  rw [List.map_map]
  unfold names
  refine List.map_congr_left fun t ht => ?_
  show hdw (showT ts t) = t.name
  unfold hdw
  rw [wds_show hF ht]; rfl
 unfold parseM
 rw [if_neg (by omega), hspl, hnames, tsM_show hF fun t ht => ht]
 simp only
 rw [if_pos g1]
end Go.Proofs.YtkhhnpkmblldbaaGreatDoor.DfK
