/- What def.Parse does, as a contract over the symbolic heap: a task's words, all of it. Conditions: the listed variables hold what the row says. -/
import Derived.Test.YthljbjokonglhaaGreatDoorDfD4
namespace Go.Proofs.YthljbjokonglhaaGreatDoor.DfK
open Go Am Am.K DfEnv DfM LibP DfG
set_option linter.unusedVariables false
set_option linter.unusedSimpArgs false
set_option maxRecDepth 10000
/-- a task's further words -/
noncomputable def tkM (names : List Str) : List Str → Tk → List Str → Option Tk
  | [], t, _ => some t
  | s :: r, t, ks => match ks.findIdx? (fun a => (cut 61 s).1 == a) with
    | none => none
    | some m => if (cut 61 s).1.length = s.length then none else match setM t (cut 61 s).1 (cut 61 s).2.1 names with
      | none => none
      | some t' => tkM names r t' (ks.drop (m + 1))
theorem cut_len (c : Nat) (s : Str) : (cut c s).1.length ≤ s.length ∧ (cut c s).2.1.length ≤ s.length := by
  unfold cut
  split
  · exact ⟨by rw [List.length_take]; exact Nat.min_le_right _ _, by rw [List.length_drop]; exact Nat.sub_le _ _⟩
  · exact ⟨Nat.le_refl _, Nat.zero_le _⟩
theorem placesM_len {names : List Str} : ∀ {r : List Str} {l : List Int}, placesM names r = some l → l.length = r.length
  | [], l, h => by cases h; rfl
  | s :: r, l, h => by
    unfold placesM at h
    split at h
    · rw [Option.map_eq_some_iff] at h
      obtain ⟨l', h1, rfl⟩ := h
      simp [placesM_len h1]
    · cases h
theorem setM_len {t t' : Tk} {key value : Str} {names : List Str} (h : setM t key value names = some t') : t'.after.length ≤ t.after.length + value.length + 1 := by
  unfold setM at h
  split at h
  · rw [Option.map_eq_some_iff] at h
    obtain ⟨l, h1, rfl⟩ := h
    have := placesM_len h1
    rw [spl_len] at this
    have := cnt_le 44 value
    simp only [List.length_append]; omega
  · split at h
    · rw [Option.map_eq_some_iff] at h; obtain ⟨m, _, rfl⟩ := h; simp only; omega
    · split at h
      · rw [Option.map_eq_some_iff] at h; obtain ⟨m, _, rfl⟩ := h; simp only; omega
      · split at h
        · rw [Option.map_eq_some_iff] at h; obtain ⟨m, _, rfl⟩ := h; simp only; omega
        · split at h
          · split at h
            · cases h
            · cases h; simp only; omega
          · rw [Option.map_eq_some_iff] at h; obtain ⟨m, _, rfl⟩ := h; omega
theorem find_lt {α : Type} {p : α → Bool} : ∀ {l : List α} {m : Nat}, l.findIdx? p = some m → m < l.length
  | [], m, h => by cases h
  | a :: l, m, h => by
    rw [List.findIdx?_cons] at h
    split at h
    · cases h; simp
    · rw [Option.map_eq_some_iff] at h
      obtain ⟨k, h1, rfl⟩ := h
      have := find_lt h1
      simp only [List.length_cons]; omega
theorem task_loop {names w : List Str} {nx wx : AV} {p q : Nat} (hnn : names.length ≤ 100000) (hwl : w.length ≤ 100000) (hws : ∀ s ∈ w, s.length ≤ 80000) (hpq : p ≠ q) : ∀ (r : List Str) (i : Nat) (H : Hp) (t : Tk) (x kx : AV) (ks : List Str), i ≤ w.length → w.drop i = r → Gl H → 11 ≤ p → (∀ j ∈ rid x, 11 ≤ j) → Rw H 1 nx (strs names) → Rw H 1 wx (strs w) → Rw H 1 kx (strs ks) → ks.length ≤ 10 → TO H p t x → (∀ j, j ∈ rid nx ∨ j ∈ rid wx ∨ j ∈ rid kx → j ≠ p ∧ j ∉ rid x) → t.after.length + sumL r + r.length ≤ 10000 →
    ∃ H', Out (p :: rid x) H H' ∧ ((∃ t' x', tkM names r t ks = some t' ∧ (∀ j20 : K.Fn 2, l_def_task JN GO cK j20 nx (.ptr q 0) (.ptr p 0) kx wx (.int .i64 (w.length : Nat)) (.int .i64 (i : Nat)) H = j20 (.ptr q 0) (.ptr p 0) H') ∧ TO H' p t' x' ∧ ∀ j ∈ rid x', j ∈ rid x ∨ H.next ≤ j) ∨
      (tkM names r t ks = none ∧ (cellAt H q 0).isSome = true ∧ False) ∨ (tkM names r t ks = none ∧ ∃ H2, Out (p :: rid x) H H2 ∧ ∀ j20 : K.Fn 2, l_def_task JN GO cK j20 nx (.ptr q 0) (.ptr p 0) kx wx (.int .i64 (w.length : Nat)) (.int .i64 (i : Nat)) H = B1 (st 6 (.ptr q 0) (.agg [(.str []), .slice0, (.int .i64 0), (.int .i64 0), (.int .i64 0), (.str [])]) H2) fun h => B1 (lda 6 (.ptr q 0) h) fun v => some (.tuple [v, .bool false], h)))
  | [], i, H, t, x, kx, ks, hi, h, hg, hp11, hx11, hnx, hwx, hkx, hkl, hT, hd, hal => by
    obtain rfl := drop_nil hi h
    refine ⟨H, Out.refl _ _, .inl ⟨t, x, rfl, fun j20 => ?_, hT, fun j hj => .inl hj⟩⟩
    rw [ql_def_task]
    simp only [bl_def_task, lt_f, k_s, k_x, Int.reduceBEq, Int.reduceBNe, Int.reduceLT, Int.reduceLE, Int.reduceGT, Int.reduceGE, Int.reduceNeg]
  | s :: r, i, H, t, x, kx, ks, hi, h, hg, hp11, hx11, hnx, hwx, hkx, hkl, hT, hd, hal => by
    obtain ⟨h1, h2, h3⟩ := hd_drop h
    obtain ⟨y, q1, q2⟩ := hwx.ia1 (strs_get h2) .i64
    have es := wrap_s h1 (by omega)
    have hsl := hws s (List.mem_of_getElem? h2)
    have hcut := cut_c (c := 61) (by decide) (s := s) (by omega) H
    obtain ⟨cl1, cl2⟩ := cut_len 61 s
    have hidx := indexstring_c hkx (by omega) (cut 61 s).1
    have hsum : sumL (s :: r) = s.length + sumL r := by simp [sumL]
    rw [hsum] at hal
    simp only [List.length_cons] at hal
    have hfl6 : fl [(.str []), .slice0, (.int .i64 0), (.int .i64 0), (.int .i64 0), (.str [])] [] = some [(.str []), .slice0, (.int .i64 0), (.int .i64 0), (.int .i64 0), (.str [])] := rfl
    unfold tkM
    cases hf : ks.findIdx? (fun a => (cut 61 s).1 == a) with
    | none =>
      rw [hf] at hidx
      have d : decide (ixo none < 0) = true := rfl
      refine ⟨H, Out.refl _ _, .inr (.inr ⟨rfl, H, Out.refl _ _, fun j20 => ?_⟩)⟩
      rw [ql_def_task]
      simp (disch := (first | assumption | omega | (simp only [k_d, k_c, Nat.reduceAdd, Nat.reduceLeDiff, Nat.reduceLT] <;> fail) | (simp only [k_c]; omega) | (simp only [k_d, k_c, Nat.reduceAdd, Nat.reduceLeDiff, Nat.reduceLT, *] <;> fail) | fail)) only [bl_def_task, lt_t h1, q1, q2, hcut, hidx, d, hfl6, k_a, k_b, Nat.reduceAdd, k_s, k_x, Int.reduceBEq, Int.reduceBNe, Int.reduceLT, Int.reduceLE, Int.reduceGT, Int.reduceGE, Int.reduceNeg]
    | some m =>
      rw [hf] at hidx
      have hm := find_lt hf
      have d : decide (ixo (some m) < 0) = false := decide_eq_false (by show ¬ ((m : Int) < 0); omega)
      have hix : ixo (some m) = (m : Int) := rfl
      rw [hix] at hidx d
      simp only
      by_cases hl : (cut 61 s).1.length = s.length
      · have d2 : (((cut 61 s).1.length : Int) == (s.length : Int)) = true := by rw [hl]; simp
        rw [if_pos hl]
        refine ⟨H, Out.refl _ _, .inr (.inr ⟨rfl, H, Out.refl _ _, fun j20 => ?_⟩)⟩
        rw [ql_def_task]
        simp (disch := (first | assumption | omega | (simp only [k_d, k_c, Nat.reduceAdd, Nat.reduceLeDiff, Nat.reduceLT] <;> fail) | (simp only [k_c]; omega) | (simp only [k_d, k_c, Nat.reduceAdd, Nat.reduceLeDiff, Nat.reduceLT, *] <;> fail) | fail)) only [bl_def_task, lt_t h1, q1, q2, hcut, hidx, d, d2, hfl6, k_a, k_b, Nat.reduceAdd, k_s, k_x, Int.reduceBEq, Int.reduceBNe, Int.reduceLT, Int.reduceLE, Int.reduceGT, Int.reduceGE, Int.reduceNeg]
      · have d2 : (((cut 61 s).1.length : Int) == (s.length : Int)) = false := beq_false_of_ne (by omega)
        rw [if_neg hl]
        obtain ⟨ok, H1, s1, s2, s3, s4⟩ := set_c (key := (cut 61 s).1) (value := (cut 61 s).2.1) hg hnn (by omega) hnx hT (fun j hj => hd j (.inl hj)) (by omega)
        cases ok with
        | false =>
          have hs := s4 rfl
          rw [hs]
          refine ⟨H1, s2, .inr (.inr ⟨rfl, H1, s2, fun j20 => ?_⟩)⟩
          rw [ql_def_task]
          simp (disch := (first | assumption | omega | (simp only [k_d, k_c, Nat.reduceAdd, Nat.reduceLeDiff, Nat.reduceLT] <;> fail) | (simp only [k_c]; omega) | (simp only [k_d, k_c, Nat.reduceAdd, Nat.reduceLeDiff, Nat.reduceLT, *] <;> fail) | fail)) only [bl_def_task, lt_t h1, q1, q2, hcut, hidx, d, d2, s1, hfl6, k_a, k_b, Nat.reduceAdd, k_s, k_x, Int.reduceBEq, Int.reduceBNe, Int.reduceLT, Int.reduceLE, Int.reduceGT, Int.reduceGE, Int.reduceNeg]
        | true =>
          obtain ⟨t', x', u1, u2, u3⟩ := s3 rfl
          rw [u1]
          have hsl2 := setM_len u1
          have e1 : IntKind.wrap .i64 ((m : Int) + 1) = ((m + 1 : Nat) : Int) := by rw [wrap_i64 (by omega) (by omega)]; rfl
          have hd1 : ∀ j, j ∈ rid nx ∨ j ∈ rid wx ∨ j ∈ rid kx → j ∉ p :: rid x := fun j hj => by rw [List.mem_cons, not_or]; exact hd j hj
          have hkx1 := hkx.out s2 fun j hj => hd1 j (.inr (.inr hj))
          obtain ⟨kx', k1, k2, k3⟩ := sll_rw (n := ks.length) hkx1 (by rw [strs_len, Nat.mul_one]) (by decide) (a := m + 1) (b := ks.length) (lo := some (.int .i64 (m + 1 : Nat))) (hi := none) (by omega) (Nat.le_refl _) (Bd.yes _ _ _) (Bd.no _)
          have hk2 : ((strs ks).drop ((m + 1) * 1)).take ((ks.length - (m + 1)) * 1) = strs (ks.drop (m + 1)) := by
            rw [Nat.mul_one, Nat.mul_one, List.take_of_length_le (by rw [List.length_drop, strs_len]; omega)]
            simp [strs, List.map_drop]
          rw [hk2] at k2
          have hlt : ∀ j, j ∈ rid nx ∨ j ∈ rid wx ∨ j ∈ rid kx → j < H.next := fun j hj => by
            rcases hj with hj | hj | hj
            · exact hnx.lt j hj
            · exact hwx.lt j hj
            · exact hkx.lt j hj
          have hgn := hg.nx
          have hn1 := s2.nx
          obtain ⟨H', i1, i2⟩ := task_loop (q := q) hnn hwl hws hpq r (i + 1) H1 t' x' kx' (ks.drop (m + 1)) h1 h3 (hg.out s2 fun j hj => by
            rcases List.mem_cons.1 hj with rfl | hj
            · exact hp11
            · exact hx11 j hj) hp11 (fun j hj => (u3 j hj).elim (hx11 j) fun z => by omega) (hnx.out s2 fun j hj => hd1 j (.inl hj)) (hwx.out s2 fun j hj => hd1 j (.inr (.inl hj))) k2 (by rw [List.length_drop]; omega) u2 (fun j hj => by
              have hj' : j ∈ rid nx ∨ j ∈ rid wx ∨ j ∈ rid kx := hj.imp id fun z => z.imp id (k3 j)
              exact ⟨(hd j hj').1, fun z => (u3 j z).elim (hd j hj').2 fun y => by have := hlt j hj'; omega⟩) (by omega)
          have key : ∀ j ∈ p :: rid x', j ∈ p :: rid x ∨ H.next ≤ j := fun j hj => by
            rcases List.mem_cons.1 hj with rfl | hj
            · exact .inl (.head _)
            · exact (u3 j hj).imp (fun z => .tail _ z) id
          refine ⟨H', s2.then i1 key, ?_⟩
          simp only
          rcases i2 with ⟨t2, x2, v1, v2, v3, v4⟩ | ⟨_, _, v⟩ | ⟨v1, H2, v2, v3⟩
          · refine .inl ⟨t2, x2, v1, fun j20 => ?_, v3, fun j hj => (v4 j hj).elim (u3 j) fun z => .inr (by omega)⟩
            rw [ql_def_task]
            simp (disch := (first | assumption | omega | (simp only [k_d, k_c, Nat.reduceAdd, Nat.reduceLeDiff, Nat.reduceLT] <;> fail) | (simp only [k_c]; omega) | (simp only [k_d, k_c, Nat.reduceAdd, Nat.reduceLeDiff, Nat.reduceLT, *] <;> fail) | fail)) only [bl_def_task, lt_t h1, q1, q2, hcut, hidx, d, d2, s1, e1, k1, es, v2, k_a, k_b, Nat.reduceAdd, k_s, k_x, Int.reduceBEq, Int.reduceBNe, Int.reduceLT, Int.reduceLE, Int.reduceGT, Int.reduceGE, Int.reduceNeg]
          · exact v.elim
          · refine .inr (.inr ⟨v1, H2, s2.then v2 key, fun j20 => ?_⟩)
            rw [ql_def_task]
            simp (disch := (first | assumption | omega | (simp only [k_d, k_c, Nat.reduceAdd, Nat.reduceLeDiff, Nat.reduceLT] <;> fail) | (simp only [k_c]; omega) | (simp only [k_d, k_c, Nat.reduceAdd, Nat.reduceLeDiff, Nat.reduceLT, *] <;> fail) | fail)) only [bl_def_task, lt_t h1, q1, q2, hcut, hidx, d, d2, s1, e1, k1, es, v3, k_a, k_b, Nat.reduceAdd, k_s, k_x, Int.reduceBEq, Int.reduceBNe, Int.reduceLT, Int.reduceLE, Int.reduceGT, Int.reduceGE, Int.reduceNeg]
abbrev keysM : List Str := [kAfter, kRetry, kWait, kBase, kOn]
/-- a task, by its words -/
noncomputable def taskM (names w : List Str) : Option Tk := tkM names w.tail ⟨w.headD [], [], 0, 10, 1, []⟩ keysM
theorem stAll {H : Hp} {i n el : Nat} {l vs : List AV} (h : Cs H i l el 0) (hn : n = vs.length) (hl : l.length = vs.length) (hv : vs.all oneC = true) : ∃ H', st n (.ptr i 0) (.agg vs) H = some H' ∧ Cs H' i vs el 0 ∧ Out [i] H H' ∧ H'.next = H.next := by
  obtain ⟨hi, c, hc, hg⟩ := h
  obtain ⟨H', c', q1, q2, q3, q4, q5⟩ := setCells_get vs H i 0 c 0 l.length el 0 hc (by omega) (Nat.le_refl _) (by omega) (fun k hk => by rw [Nat.zero_add, hg k (l[k]'(by omega)) (List.getElem?_eq_getElem (by omega))]; rfl) (List.all_eq_true.1 hv)
  refine ⟨H', ?_, ⟨by omega, c', ?_, fun k v hk => ?_⟩, ⟨by omega, fun j hj hn => q4 j (by simpa using hn)⟩, q2⟩
  · unfold st
    have : Nat.beq n vs.length = true := by subst hn; exact Nat.beq_refl _
    simp only [cellsV_agg, this, cond_true]
    exact q1
  · rw [q3, hl]
  · have := (List.getElem?_eq_some_iff.1 hk).1
    rw [q5, if_pos (by omega), Nat.sub_zero]; exact hk
theorem task_c {names w : List Str} {nx wx : AV} {H : Hp} (hg : Gl H) (hnn : names.length ≤ 100000) (hw0 : w ≠ []) (hwl : w.length ≤ 5000) (hws : ∀ s ∈ w, s.length ≤ 80000) (hsum : sumL w + w.length ≤ 10000) (hnx : Rw H 1 nx (strs names)) (hwx : Rw H 1 wx (strs w)) :
    ∃ H', Out [] H H' ∧ ((∃ t x, taskM names w = some t ∧ cK (.func (.func 29) [] []) [wx, nx] H = some (.tuple [.agg (tkC t x), .bool true], H') ∧ Rw H' 1 x (ints t.after) ∧ ∀ j ∈ rid x, H.next ≤ j) ∨ (taskM names w = none ∧ ∃ v, cK (.func (.func 29) [] []) [wx, nx] H = some (.tuple [.agg v, .bool false], H') ∧ v.length = 6 ∧ v.all oneC = true)) := by
  obtain ⟨w0, w, rfl⟩ : ∃ a b, w = a :: b := by
    cases w with
    | nil => exact absurd rfl hw0
    | cons a b => exact ⟨a, b, rfl⟩
  have hgn := hg.nx
  have o1 := al_out H [(AV.str []), AV.slice0, (AV.int .i64 0), (AV.int .i64 0), (AV.int .i64 0), (AV.str [])] 43 0
  have o2 := al_out (al H [(AV.str []), AV.slice0, (AV.int .i64 0), (AV.int .i64 0), (AV.int .i64 0), (AV.str [])] 43 0) (tkC ⟨w0, [], 0, 10, 1, []⟩ .slice0) 43 0
  have o3 := al_out (al (al H [(AV.str []), AV.slice0, (AV.int .i64 0), (AV.int .i64 0), (AV.int .i64 0), (AV.str [])] 43 0) (tkC ⟨w0, [], 0, 10, 1, []⟩ .slice0) 43 0) (strs keysM) 9 0
  have o12 := o1.trans o2
  have o13 := o12.trans o3
  have c1 := ((al_cs H [(AV.str []), AV.slice0, (AV.int .i64 0), (AV.int .i64 0), (AV.int .i64 0), (AV.str [])] 43 0).out o2 (by simp)).out o3 (by simp)
  have c2 := (al_cs (al H [(AV.str []), AV.slice0, (AV.int .i64 0), (AV.int .i64 0), (AV.int .i64 0), (AV.str [])] 43 0) (tkC ⟨w0, [], 0, 10, 1, []⟩ .slice0) 43 0).out o3 (by simp)
  have c3 := al_cs (al (al H [(AV.str []), AV.slice0, (AV.int .i64 0), (AV.int .i64 0), (AV.int .i64 0), (AV.str [])] 43 0) (tkC ⟨w0, [], 0, 10, 1, []⟩ .slice0) 43 0) (strs keysM) 9 0
  generalize hH3 : al (al (al H [(AV.str []), AV.slice0, (AV.int .i64 0), (AV.int .i64 0), (AV.int .i64 0), (AV.str [])] 43 0) (tkC ⟨w0, [], 0, 10, 1, []⟩ .slice0) 43 0) (strs keysM) 9 0 = H3 at *
  have hn3 : H3.next = H.next + 3 := by rw [← hH3]; rfl
  have hkr : Rw H3 1 (.slice (H.next + 2) 0 5 5 true 1) (strs keysM) := .mk c3.ro rfl (Nat.le_refl _) rfl
  have hwx3 := hwx.out0 o13
  obtain ⟨wx', s1, s2, s3⟩ := sll_rw (n := w.length + 1) hwx3 (by rw [strs_len]; simp) (by decide) (a := 1) (b := w.length + 1) (lo := some (.int .i64 1)) (hi := none) (by omega) (Nat.le_refl _) (Bd.yes .i64 1 0) (Bd.no _)
  have hs2 : ((strs (w0 :: w)).drop (1 * 1)).take ((w.length + 1 - 1) * 1) = strs w := by
    rw [Nat.mul_one, Nat.mul_one, Nat.add_sub_cancel]
    show (strs w).take w.length = _
    rw [List.take_of_length_le (by rw [strs_len]; omega)]
  rw [hs2] at s2
  have hwl' := s2.len1
  rw [strs_len] at hwl'
  have hwr := hwx.lt
  have hnr := hnx.lt
  obtain ⟨y, y1, y2⟩ := (hwx.out0 o1).ia1 (i := 0) (v := .str w0) rfl .i64
  rw [show (((0 : Nat) : Int)) = 0 from rfl] at y1
  have hs0 : sumL (w0 :: w) = w0.length + sumL w := by simp [sumL]
  rw [hs0] at hsum
  simp only [List.length_cons] at hsum hwl
  have hT : TO H3 (H.next + 1) ⟨w0, [], 0, 10, 1, []⟩ .slice0 := ⟨c2, .nil, by simp [rid]⟩
  obtain ⟨H4, i1, i2⟩ := task_loop (q := H.next) (p := H.next + 1) hnn (by omega) (fun s hs => hws s (.tail _ hs)) (by omega) w 0 H3 ⟨w0, [], 0, 10, 1, []⟩ .slice0 (.slice (H.next + 2) 0 5 5 true 1) keysM (Nat.zero_le _) List.drop_zero (hg.out0 o13) (by omega) (fun j hj => by cases hj) (hnx.out0 o13) s2 hkr (by decide) hT (fun j hj => by
    refine ⟨?_, by simp [rid]⟩
    rcases hj with hj | hj | hj
    · have := hnr j hj; omega
    · have := hwr j (s3 j hj); omega
    · rw [rid_s (by rfl), List.mem_singleton] at hj; omega) (by simp; omega)
  have i1' : Out [H.next + 1] H3 H4 := i1.mono fun j hj => by
    rcases List.mem_cons.1 hj with rfl | hj
    · exact .head _
    · cases hj
  have hfl1 : fl [(.str []), .slice0, (.int .i64 0), (.int .i64 0), (.int .i64 0), (.str [])] [(0, 1, .str w0), (3, 1, .int .i64 10), (4, 1, .int .i64 1)] = some (tkC ⟨w0, [], 0, 10, 1, []⟩ .slice0) := rfl
  have hfl2 : fl [(.str []), (.str []), (.str []), (.str []), (.str [])] [(0, 1, .str [97, 102, 116, 101, 114]), (1, 1, .str [114, 101, 116, 114, 121]), (2, 1, .str [119, 97, 105, 116]), (3, 1, .str [98, 97, 115, 101]), (4, 1, .str [111, 110])] = some (strs keysM) := rfl
  have hst := st_tk ⟨w0, [], 0, 10, 1, []⟩ .slice0 rfl (al H [(AV.str []), AV.slice0, (AV.int .i64 0), (AV.int .i64 0), (AV.int .i64 0), (AV.str [])] 43 0)
  have hnk : newCells (al (al H [(AV.str []), AV.slice0, (AV.int .i64 0), (AV.int .i64 0), (AV.int .i64 0), (AV.str [])] 43 0) (tkC ⟨w0, [], 0, 10, 1, []⟩ .slice0) 43 0) (strs keysM) 9 0 = some (H.next + 2, H3) := by rw [← hH3, newCells_al (by show 5 ≤ _; omega)]; rfl
  have hid2 : H.next + 1 + 1 = H.next + 2 := rfl
  have hm : taskM names (w0 :: w) = tkM names w ⟨w0, [], 0, 10, 1, []⟩ keysM := rfl
  rw [hm]
  have fin : ∀ {A : Hp} {S : List Nat}, Out S H3 A → (∀ j ∈ S, H.next ≤ j) → Out [] H A := fun h hS => o13.then h fun j hj => .inr (hS j hj)
  have h66 : (al H [(AV.str []), AV.slice0, (AV.int .i64 0), (AV.int .i64 0), (AV.int .i64 0), (AV.str [])] 43 0).next = H.next + 1 := rfl
  rw [h66] at hst
  rw [show (((0 : Nat) : Int)) = 0 from rfl] at i2
  rcases i2 with ⟨t, x, v1, v2, v3, v4⟩ | ⟨_, _, v⟩ | ⟨v1, H5, v2, v3⟩
  · have hx1 := v3.o.oneX
    have hct : cellsAt H4 (H.next + 1) 0 6 = some (tkC t x) := v3.c.cellsAt 6 0 (by rw [tk_len]; omega)
    have c4 := c1.out i1' (by simp)
    obtain ⟨H5, w1, w2, w3, w4⟩ := stAll (n := 6) (vs := tkC t x) c4 rfl rfl (by simp [tkC, oneC_s, oneC_i, hx1])
    have hc5 : cellsAt H5 H.next 0 6 = some (tkC t x) := w2.cellsAt 6 0 (by rw [tk_len]; omega)
    have hxr : ∀ j ∈ rid x, H3.next ≤ j := fun j hj => (v4 j hj).elim (fun z => by cases z) id
    refine ⟨H5, (fin i1' (fun j hj => by rw [List.mem_singleton] at hj; omega)).then w3 fun j hj => by rw [List.mem_singleton] at hj; exact .inr (by omega), .inl ⟨t, x, v1, c_def_task ?_, v3.o.rw.out w3 fun j hj => by rw [List.mem_singleton]; have := hxr j hj; omega, fun j hj => by have := hxr j hj; omega⟩⟩
    unfold s_def_task
    simp (disch := (first | assumption | omega | (simp only [k_d, k_c, Nat.reduceAdd, Nat.reduceLeDiff, Nat.reduceLT] <;> fail) | (simp only [k_c]; omega) | (simp only [k_d, k_c, Nat.reduceAdd, Nat.reduceLeDiff, Nat.reduceLT, *] <;> fail) | fail)) only [y1, y2, hfl1, hst, hfl2, hnk, hH3, hid2, s1, hwl', v2, hct, w1, hc5, k_a, k_b, Nat.reduceAdd, k_s, k_x, Int.reduceBEq, Int.reduceBNe, Int.reduceLT, Int.reduceLE, Int.reduceGT, Int.reduceGE, Int.reduceNeg]
  · exact v.elim
  · have v2' : Out [H.next + 1] H3 H5 := v2.mono fun j hj => by
      rcases List.mem_cons.1 hj with rfl | hj
      · exact .head _
      · cases hj
    have c5 := c1.out v2' (by simp)
    obtain ⟨H6, w1, w2, w3, w4⟩ := stAll (n := 6) (vs := [(AV.str []), AV.slice0, (AV.int .i64 0), (AV.int .i64 0), (AV.int .i64 0), (AV.str [])]) c5 rfl rfl rfl
    have hc6 : cellsAt H6 H.next 0 6 = some [(AV.str []), AV.slice0, (AV.int .i64 0), (AV.int .i64 0), (AV.int .i64 0), (AV.str [])] := w2.cellsAt 6 0 (by show 0 + 6 ≤ 6; omega)
    refine ⟨H6, (fin v2' (fun j hj => by rw [List.mem_singleton] at hj; omega)).then w3 fun j hj => by rw [List.mem_singleton] at hj; exact .inr (by omega), .inr ⟨v1, [(AV.str []), AV.slice0, (AV.int .i64 0), (AV.int .i64 0), (AV.int .i64 0), (AV.str [])], c_def_task ?_, rfl, rfl⟩⟩
    unfold s_def_task
    simp (disch := (first | assumption | omega | (simp only [k_d, k_c, Nat.reduceAdd, Nat.reduceLeDiff, Nat.reduceLT] <;> fail) | (simp only [k_c]; omega) | (simp only [k_d, k_c, Nat.reduceAdd, Nat.reduceLeDiff, Nat.reduceLT, *] <;> fail) | fail)) only [y1, y2, hfl1, hst, hfl2, hnk, hH3, hid2, s1, hwl', v3, w1, hc6, k_a, k_b, Nat.reduceAdd, k_s, k_x, Int.reduceBEq, Int.reduceBNe, Int.reduceLT, Int.reduceLE, Int.reduceGT, Int.reduceGE, Int.reduceNeg]
end Go.Proofs.YthljbjokonglhaaGreatDoor.DfK
