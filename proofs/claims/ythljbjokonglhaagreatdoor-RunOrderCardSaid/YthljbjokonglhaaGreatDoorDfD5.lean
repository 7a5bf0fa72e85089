/- What def.Parse does, as a contract over the symbolic heap: a task's words, all of it. Conditions: the listed variables hold what the row says. -/
import Derived.Test.YthljbjokonglhaaGreatDoorDfM
namespace Go.Proofs.YthljbjokonglhaaGreatDoor.DfK
open Go Am Am.K DfEnv DfM LibP DfG
set_option linter.unusedVariables false
set_option linter.unusedSimpArgs false
set_option maxRecDepth 10000
/-- a task's further words -/
noncomputable def tkM (names : List Str) : List Str → Tk → List Str → Option Tk
  | [], t, _ => some t
  | s :: r, t, ks => match ks.findIdx? (fun a => (cut 61 s).1 == a) with
    | none => none
    | some m => if (cut 61 s).1.length = s.length then none else match setM t (cut 61 s).1 (cut 61 s).2.1 names with
      | none => none
      | some t' => tkM names r t' (ks.drop (m + 1))
theorem cut_len (c : Nat) (s : Str) : (cut c s).1.length ≤ s.length ∧ (cut c s).2.1.length ≤ s.length := by
  unfold cut
  split
  · exact ⟨by rw [List.length_take]; exact Nat.min_le_right _ _, by rw [List.length_drop]; exact Nat.sub_le _ _⟩
  · exact ⟨Nat.le_refl _, Nat.zero_le _⟩
theorem placesM_len {names : List Str} : ∀ {r : List Str} {l : List Int}, placesM names r = some l → l.length = r.length
  | [], l, h => by cases h; rfl
  | s :: r, l, h => by
    unfold placesM at h
    split at h
    · rw [Option.map_eq_some_iff] at h
      obtain ⟨l', h1, rfl⟩ := h
      simp [placesM_len h1]
    · cases h
theorem setM_len {t t' : Tk} {key value : Str} {names : List Str} (h : setM t key value names = some t') : t'.after.length ≤ t.after.length + value.length + 1 := by
  unfold setM at h
  split at h
  · rw [Option.map_eq_some_iff] at h
    obtain ⟨l, h1, rfl⟩ := h
    have := placesM_len h1
    rw [spl_len] at this
    have := cnt_le 44 value
    simp only [List.length_append]; omega
  · split at h
    · rw [Option.map_eq_some_iff] at h; obtain ⟨m, _, rfl⟩ := h; simp only; omega
    · split at h
      · rw [Option.map_eq_some_iff] at h; obtain ⟨m, _, rfl⟩ := h; simp only; omega
      · split at h
        · rw [Option.map_eq_some_iff] at h; obtain ⟨m, _, rfl⟩ := h; simp only; omega
        · split at h
          · split at h
            · cases h
            · cases h; simp only; omega
          · rw [Option.map_eq_some_iff] at h; obtain ⟨m, _, rfl⟩ := h; omega
theorem find_lt {α : Type} {p : α → Bool} : ∀ {l : List α} {m : Nat}, l.findIdx? p = some m → m < l.length
  | [], m, h => by cases h
  | a :: l, m, h => by
    rw [List.findIdx?_cons] at h
    split at h
    · cases h; simp
    · rw [Option.map_eq_some_iff] at h
      obtain ⟨k, h1, rfl⟩ := h
      have := find_lt h1
      simp only [List.length_cons]; omega
theorem task_loop {names w : List Str} {nx wx : AV} {p q : Nat} (hnn : names.length ≤ 100000) (hwl : w.length ≤ 100000) (hws : ∀ s ∈ w, s.length ≤ 80000) (hpq : p ≠ q) : ∀ (r : List Str) (i : Nat) (H : Hp) (t : Tk) (x kx : AV) (ks : List Str), i ≤ w.length → w.drop i = r → Gl H → 11 ≤ p → (∀ j ∈ rid x, 11 ≤ j) → Rw H 1 nx (strs names) → Rw H 1 wx (strs w) → Rw H 1 kx (strs ks) → ks.length ≤ 10 → TO H p t x → (∀ j, j ∈ rid nx ∨ j ∈ rid wx ∨ j ∈ rid kx → j ≠ p ∧ j ∉ rid x) → t.after.length + sumL r + r.length ≤ 10000 →
    ∃ H', Out (p :: rid x) H H' ∧ ((∃ t' x', tkM names r t ks = some t' ∧ (∀ j20 : K.Fn 2, l_def_task JN GO cK j20 nx (.ptr q 0) (.ptr p 0) kx wx (.int .i64 (w.length : Nat)) (.int .i64 (i : Nat)) H = j20 (.ptr q 0) (.ptr p 0) H') ∧ TO H' p t' x' ∧ ∀ j ∈ rid x', j ∈ rid x ∨ H.next ≤ j) ∨
      (tkM names r t ks = none ∧ (cellAt H q 0).isSome = true ∧ False) ∨ (tkM names r t ks = none ∧ ∃ H2, Out (p :: rid x) H H2 ∧ ∀ j20 : K.Fn 2, l_def_task JN GO cK j20 nx (.ptr q 0) (.ptr p 0) kx wx (.int .i64 (w.length : Nat)) (.int .i64 (i : Nat)) H = B1 (st 6 (.ptr q 0) (.agg [(.str []), .slice0, (.int .i64 0), (.int .i64 0), (.int .i64 0), (.str [])]) H2) fun h => B1 (lda 6 (.ptr q 0) h) fun v => some (.tuple [v, .bool false], h)))
  | [], i, H, t, x, kx, ks, hi, h, hg, hp11, hx11, hnx, hwx, hkx, hkl, hT, hd, hal => by
    obtain rfl := drop_nil hi h
    refine ⟨H, Out.refl _ _, .inl ⟨t, x, rfl, fun j20 => ?_, hT, fun j hj => .inl hj⟩⟩
    rw [ql_def_task]
    simp only [bl_def_task, lt_f, k_s, k_x, Int.reduceBEq, Int.reduceBNe, Int.reduceLT, Int.reduceLE, Int.reduceGT, Int.reduceGE, Int.reduceNeg]
  | s :: r, i, H, t, x, kx, ks, hi, h, hg, hp11, hx11, hnx, hwx, hkx, hkl, hT, hd, hal => by
    obtain ⟨h1, h2, h3⟩ := hd_drop h
    obtain ⟨y, q1, q2⟩ := hwx.ia1 (strs_get h2) .i64
    have es := wrap_s h1 (by omega)
    have hsl := hws s (List.mem_of_getElem? h2)
    have hcut := cut_c (c := 61) (by decide) (s := s) (by omega) H
    obtain ⟨cl1, cl2⟩ := cut_len 61 s
    have hidx := indexstring_c hkx (by omega) (cut 61 s).1
    have hsum : sumL (s :: r) = s.length + sumL r := by simp [sumL]
    rw [hsum] at hal
    simp only [List.length_cons] at hal
    have hfl6 : fl [(.str []), .slice0, (.int .i64 0), (.int .i64 0), (.int .i64 0), (.str [])] [] = some [(.str []), .slice0, (.int .i64 0), (.int .i64 0), (.int .i64 0), (.str [])] := rfl
    unfold tkM
    cases hf : ks.findIdx? (fun a => (cut 61 s).1 == a) with
    | none =>
      rw [hf] at hidx
      have d : decide (ixo none < 0) = true := rfl
      refine ⟨H, Out.refl _ _, .inr (.inr ⟨rfl, H, Out.refl _ _, fun j20 => ?_⟩)⟩
      rw [ql_def_task]
      simp (disch := (first | assumption | omega | (simp only [k_d, k_c, Nat.reduceAdd, Nat.reduceLeDiff, Nat.reduceLT] <;> fail) | (simp only [k_c]; omega) | (simp only [k_d, k_c, Nat.reduceAdd, Nat.reduceLeDiff, Nat.reduceLT, *] <;> fail) | fail)) only [bl_def_task, lt_t h1, q1, q2, hcut, hidx, d, hfl6, k_a, k_b, Nat.reduceAdd, k_s, k_x, Int.reduceBEq, Int.reduceBNe, Int.reduceLT, Int.reduceLE, Int.reduceGT, Int.reduceGE, Int.reduceNeg]
    | some m =>
      rw [hf] at hidx
      have hm := find_lt hf
      have d : decide (ixo (some m) < 0) = false := decide_eq_false (by show ¬ ((m : Int) < 0); omega)
      have hix : ixo (some m) = (m : Int) := rfl
      rw [hix] at hidx d
      simp only
      by_cases hl : (cut 61 s).1.length = s.length
      · have d2 : (((cut 61 s).1.length : Int) == (s.length : Int)) = true := by rw [hl]; simp
        rw [if_pos hl]
        refine ⟨H, Out.refl _ _, .inr (.inr ⟨rfl, H, Out.refl _ _, fun j20 => ?_⟩)⟩
        rw [ql_def_task]
        simp (disch := (first | assumption | omega | (simp only [k_d, k_c, Nat.reduceAdd, Nat.reduceLeDiff, Nat.reduceLT] <;> fail) | (simp only [k_c]; omega) | (simp only [k_d, k_c, Nat.reduceAdd, Nat.reduceLeDiff, Nat.reduceLT, *] <;> fail) | fail)) only [bl_def_task, lt_t h1, q1, q2, hcut, hidx, d, d2, hfl6, k_a, k_b, Nat.reduceAdd, k_s, k_x, Int.reduceBEq, Int.reduceBNe, Int.reduceLT, Int.reduceLE, Int.reduceGT, Int.reduceGE, Int.reduceNeg]
      · have d2 : (((cut 61 s).1.length : Int) == (s.length : Int)) = false := beq_false_of_ne (by omega)
        rw [if_neg hl]
        obtain ⟨ok, H1, s1, s2, s3, s4⟩ := set_c (key := (cut 61 s).1) (value := (cut 61 s).2.1) hg hnn (by omega) hnx hT (fun j hj => hd j (.inl hj)) (by omega)
        cases ok with
        | false =>
          have hs := s4 rfl
          rw [hs]
          refine ⟨H1, s2, .inr (.inr ⟨rfl, H1, s2, fun j20 => ?_⟩)⟩
          rw [ql_def_task]
          simp (disch := (first | assumption | omega | (simp only [k_d, k_c, Nat.reduceAdd, Nat.reduceLeDiff, Nat.reduceLT] <;> fail) | (simp only [k_c]; omega) | (simp only [k_d, k_c, Nat.reduceAdd, Nat.reduceLeDiff, Nat.reduceLT, *] <;> fail) | fail)) only [bl_def_task, lt_t h1, q1, q2, hcut, hidx, d, d2, s1, hfl6, k_a, k_b, Nat.reduceAdd, k_s, k_x, Int.reduceBEq, Int.reduceBNe, Int.reduceLT, Int.reduceLE, Int.reduceGT, Int.reduceGE, Int.reduceNeg]
        | true =>
          obtain ⟨t', x', u1, u2, u3⟩ := s3 rfl
          rw [u1]
          have hsl2 := setM_len u1
          have e1 : IntKind.wrap .i64 ((m : Int) + 1) = ((m + 1 : Nat) : Int) := by rw [wrap_i64 (by omega) (by omega)]; rfl
          have hd1 : ∀ j, j ∈ rid nx ∨ j ∈ rid wx ∨ j ∈ rid kx → j ∉ p :: rid x := fun j hj => by rw [List.mem_cons, not_or]; exact hd j hj
          have hkx1 := hkx.out s2 fun j hj => hd1 j (.inr (.inr hj))
          obtain ⟨kx', k1, k2, k3⟩ := sll_rw (n := ks.length) hkx1 (by rw [strs_len, Nat.mul_one]) (by decide) (a := m + 1) (b := ks.length) (lo := some (.int .i64 (m + 1 : Nat))) (hi := none) (by omega) (Nat.le_refl _) (Bd.yes _ _ _) (Bd.no _)
          have hk2 : ((strs ks).drop ((m + 1) * 1)).take ((ks.length - (m + 1)) * 1) = strs (ks.drop (m + 1)) := by
            rw [Nat.mul_one, Nat.mul_one, List.take_of_length_le (by rw [List.length_drop, strs_len]; omega)]
            simp [strs, List.map_drop]
          rw [hk2] at k2
          have hlt : ∀ j, j ∈ rid nx ∨ j ∈ rid wx ∨ j ∈ rid kx → j < H.next := fun j hj => by
            rcases hj with hj | hj | hj
            · exact hnx.lt j hj
            · exact hwx.lt j hj
            · exact hkx.lt j hj
          have hgn := hg.nx
          have hn1 := s2.nx
          obtain ⟨H', i1, i2⟩ := task_loop (q := q) hnn hwl hws hpq r (i + 1) H1 t' x' kx' (ks.drop (m + 1)) h1 h3 (hg.out s2 fun j hj => by
            rcases List.mem_cons.1 hj with rfl | hj
            · exact hp11
            · exact hx11 j hj) hp11 (fun j hj => (u3 j hj).elim (hx11 j) fun z => by omega) (hnx.out s2 fun j hj => hd1 j (.inl hj)) (hwx.out s2 fun j hj => hd1 j (.inr (.inl hj))) k2 (by rw [List.length_drop]; omega) u2 (fun j hj => by
              have hj' : j ∈ rid nx ∨ j ∈ rid wx ∨ j ∈ rid kx := hj.imp id fun z => z.imp id (k3 j)
              exact ⟨(hd j hj').1, fun z => (u3 j z).elim (hd j hj').2 fun y => by have := hlt j hj'; omega⟩) (by omega)
          have key : ∀ j ∈ p :: rid x', j ∈ p :: rid x ∨ H.next ≤ j := fun j hj => by
            rcases List.mem_cons.1 hj with rfl | hj
            · exact .inl (.head _)
            · exact (u3 j hj).imp (fun z => .tail _ z) id
          refine ⟨H', s2.then i1 key, ?_⟩
          simp only
          rcases i2 with ⟨t2, x2, v1, v2, v3, v4⟩ | ⟨_, _, v⟩ | ⟨v1, H2, v2, v3⟩
          · refine .inl ⟨t2, x2, v1, fun j20 => ?_, v3, fun j hj => (v4 j hj).elim (u3 j) fun z => .inr (by omega)⟩
            rw [ql_def_task]
            simp (disch := (first | assumption | omega | (simp only [k_d, k_c, Nat.reduceAdd, Nat.reduceLeDiff, Nat.reduceLT] <;> fail) | (simp only [k_c]; omega) | (simp only [k_d, k_c, Nat.reduceAdd, Nat.reduceLeDiff, Nat.reduceLT, *] <;> fail) | fail)) only [bl_def_task, lt_t h1, q1, q2, hcut, hidx, d, d2, s1, e1, k1, es, v2, k_a, k_b, Nat.reduceAdd, k_s, k_x, Int.reduceBEq, Int.reduceBNe, Int.reduceLT, Int.reduceLE, Int.reduceGT, Int.reduceGE, Int.reduceNeg]
          · exact v.elim
          · refine .inr (.inr ⟨v1, H2, s2.then v2 key, fun j20 => ?_⟩)
            rw [ql_def_task]
            simp (disch := (first | assumption | omega | (simp only [k_d, k_c, Nat.reduceAdd, Nat.reduceLeDiff, Nat.reduceLT] <;> fail) | (simp only [k_c]; omega) | (simp only [k_d, k_c, Nat.reduceAdd, Nat.reduceLeDiff, Nat.reduceLT, *] <;> fail) | fail)) only [bl_def_task, lt_t h1, q1, q2, hcut, hidx, d, d2, s1, e1, k1, es, v3, k_a, k_b, Nat.reduceAdd, k_s, k_x, Int.reduceBEq, Int.reduceBNe, Int.reduceLT, Int.reduceLE, Int.reduceGT, Int.reduceGE, Int.reduceNeg]
abbrev keysM : List Str := [kAfter, kRetry, kWait, kBase, kOn]
/-- a task, by its words -/
noncomputable def taskM (names w : List Str) : Option Tk := tkM names w.tail ⟨w.headD [], [], 0, 10, 1, []⟩ keysM
theorem stAll {H : Hp} {i n el : Nat} {l vs : List AV} (h : Cs H i l el 0) (hn : n = vs.length) (hl : l.length = vs.length) (hv : vs.all oneC = true) : ∃ H', st n (.ptr i 0) (.agg vs) H = some H' ∧ Cs H' i vs el 0 ∧ Out [i] H H' ∧ H'.next = H.next := by
  obtain ⟨hi, c, hc, hg⟩ := h
  obtain ⟨H', c', q1, q2, q3, q4, q5⟩ := setCells_get vs H i 0 c 0 l.length el 0 hc (by omega) (Nat.le_refl _) (by omega) (fun k hk => by rw [Nat.zero_add, hg k (l[k]'(by omega)) (List.getElem?_eq_getElem (by omega))]; rfl) (List.all_eq_true.1 hv)
  refine ⟨H', ?_, ⟨by omega, c', ?_, fun k v hk => ?_⟩, ⟨by omega, fun j hj hn => q4 j (by simpa using hn)⟩, q2⟩
  · unfold st
    have : Nat.beq n vs.length = true := by subst hn; exact Nat.beq_refl _
    simp only [cellsV_agg, this, cond_true]
    exact q1
  · rw [q3, hl]
  · have := (List.getElem?_eq_some_iff.1 hk).1
    rw [q5, if_pos (by omega), Nat.sub_zero]; exact hk
theorem task_c {names w : List Str} {nx wx : AV} {H : Hp} (hg : Gl H) (hnn : names.length ≤ 100000) (hw0 : w ≠ []) (hwl : w.length ≤ 5000) (hws : ∀ s ∈ w, s.length ≤ 80000) (hsum : sumL w + w.length ≤ 10000) (hnx : Rw H 1 nx (strs names)) (hwx : Rw H 1 wx (strs w)) :
    ∃ H', Out [] H H' ∧ ((∃ t x, taskM names w = some t ∧ cK (.func (.func 29) [] []) [wx, nx] H = some (.tuple [.agg (tkC t x), .bool true], H') ∧ Rw H' 1 x (ints t.after) ∧ ∀ j ∈ rid x, H.next ≤ j) ∨ (taskM names w = none ∧ ∃ v, cK (.func (.func 29) [] []) [wx, nx] H = some (.tuple [.agg v, .bool false], H') ∧ v.length = 6 ∧ v.all oneC = true)) := by
  obtain ⟨w0, w, rfl⟩ : ∃ a b, w = a :: b := by
    cases w with
    | nil => exact absurd rfl hw0
    | cons a b => exact ⟨a, b, rfl⟩
  have hgn := hg.nx
  have o1 := al_out H [(AV.str []), AV.slice0, (AV.int .i64 0), (AV.int .i64 0), (AV.int .i64 0), (AV.str [])] 43 0
  have o2 := al_out (al H [(AV.str []), AV.slice0, (AV.int .i64 0), (AV.int .i64 0), (AV.int .i64 0), (AV.str [])] 43 0) (tkC ⟨w0, [], 0, 10, 1, []⟩ .slice0) 43 0
  have o3 := al_out (al (al H [(AV.str []), AV.slice0, (AV.int .i64 0), (AV.int .i64 0), (AV.int .i64 0), (AV.str [])] 43 0) (tkC ⟨w0, [], 0, 10, 1, []⟩ .slice0) 43 0) (strs keysM) 9 0
  have o12 := o1.trans o2
  have o13 := o12.trans o3
  have c1 := ((al_cs H [(AV.str []), AV.slice0, (AV.int .i64 0), (AV.int .i64 0), (AV.int .i64 0), (AV.str [])] 43 0).out o2 (by simp)).out o3 (by simp)
  have c2 := (al_cs (al H [(AV.str []), AV.slice0, (AV.int .i64 0), (AV.int .i64 0), (AV.int .i64 0), (AV.str [])] 43 0) (tkC ⟨w0, [], 0, 10, 1, []⟩ .slice0) 43 0).out o3 (by simp)
  have c3 := al_cs (al (al H [(AV.str []), AV.slice0, (AV.int .i64 0), (AV.int .i64 0), (AV.int .i64 0), (AV.str [])] 43 0) (tkC ⟨w0, [], 0, 10, 1, []⟩ .slice0) 43 0) (strs keysM) 9 0
  generalize hH3 : al (al (al H [(AV.str []), AV.slice0, (AV.int .i64 0), (AV.int .i64 0), (AV.int .i64 0), (AV.str [])] 43 0) (tkC ⟨w0, [], 0, 10, 1, []⟩ .slice0) 43 0) (strs keysM) 9 0 = H3 at *
  have hn3 : H3.next = H.next + 3 := by rw [← hH3]; rfl
  have hkr : Rw H3 1 (.slice (H.next + 2) 0 5 5 true 1) (strs keysM) := .mk c3.ro rfl (Nat.le_refl _) rfl
  have hwx3 := hwx.out0 o13
  obtain ⟨wx', s1, s2, s3⟩ := sll_rw (n := w.length + 1) hwx3 (by rw [strs_len]; simp) (by decide) (a := 1) (b := w.length + 1) (lo := some (.int .i64 1)) (hi := none) (by omega) (Nat.le_refl _) (Bd.yes .i64 1 0) (Bd.no _)
  have hs2 : ((strs (w0 :: w)).drop (1 * 1)).take ((w.length + 1 - 1) * 1) = strs w := by
    rw [Nat.mul_one, Nat.mul_one, Nat.add_sub_cancel]
    show (strs w).take w.length = _
    rw [List.take_of_length_le (by rw [strs_len]; omega)]
  rw [hs2] at s2
  have hwl' := s2.len1
  rw [strs_len] at hwl'
  have hwr := hwx.lt
  have hnr := hnx.lt
  obtain ⟨y, y1, y2⟩ := (hwx.out0 o1).ia1 (i := 0) (v := .str w0) rfl .i64
  rw [show (((0 : Nat) : Int)) = 0 from rfl] at y1
  have hs0 : sumL (w0 :: w) = w0.length + sumL w := by simp [sumL]
  rw [hs0] at hsum
  simp only [List.length_cons] at hsum hwl
  have hT : TO H3 (H.next + 1) ⟨w0, [], 0, 10, 1, []⟩ .slice0 := ⟨c2, .nil, by simp [rid]⟩
  obtain ⟨H4, i1, i2⟩ := task_loop (q := H.next) (p := H.next + 1) hnn (by omega) (fun s hs => hws s (.tail _ hs)) (by omega) w 0 H3 ⟨w0, [], 0, 10, 1, []⟩ .slice0 (.slice (H.next + 2) 0 5 5 true 1) keysM (Nat.zero_le _) List.drop_zero (hg.out0 o13) (by omega) (fun j hj => by cases hj) (hnx.out0 o13) s2 hkr (by decide) hT (fun j hj => by
    refine ⟨?_, by simp [rid]⟩
    rcases hj with hj | hj | hj
    · have := hnr j hj; omega
    · have := hwr j (s3 j hj); omega
    · rw [rid_s (by rfl), List.mem_singleton] at hj; omega) (by simp; omega)
  have i1' : Out [H.next + 1] H3 H4 := i1.mono fun j hj => by
    rcases List.mem_cons.1 hj with rfl | hj
    · exact .head _
    · cases hj
  have hfl1 : fl [(.str []), .slice0, (.int .i64 0), (.int .i64 0), (.int .i64 0), (.str [])] [(0, 1, .str w0), (3, 1, .int .i64 10), (4, 1, .int .i64 1)] = some (tkC ⟨w0, [], 0, 10, 1, []⟩ .slice0) := rfl
  have hfl2 : fl [(.str []), (.str []), (.str []), (.str []), (.str [])] [(0, 1, .str [97, 102, 116, 101, 114]), (1, 1, .str [114, 101, 116, 114, 121]), (2, 1, .str [119, 97, 105, 116]), (3, 1, .str [98, 97, 115, 101]), (4, 1, .str [111, 110])] = some (strs keysM) := rfl
  have hst := st_tk ⟨w0, [], 0, 10, 1, []⟩ .slice0 rfl (al H [(AV.str []), AV.slice0, (AV.int .i64 0), (AV.int .i64 0), (AV.int .i64 0), (AV.str [])] 43 0)
  have hnk : newCells (al (al H [(AV.str []), AV.slice0, (AV.int .i64 0), (AV.int .i64 0), (AV.int .i64 0), (AV.str [])] 43 0) (tkC ⟨w0, [], 0, 10, 1, []⟩ .slice0) 43 0) (strs keysM) 9 0 = some (H.next + 2, H3) := by rw [← hH3, newCells_al (by show 5 ≤ _; omega)]; rfl
  have hid2 : H.next + 1 + 1 = H.next + 2 := rfl
  have hm : taskM names (w0 :: w) = tkM names w ⟨w0, [], 0, 10, 1, []⟩ keysM := rfl
  rw [hm]
  have fin : ∀ {A : Hp} {S : List Nat}, Out S H3 A → (∀ j ∈ S, H.next ≤ j) → Out [] H A := fun h hS => o13.then h fun j hj => .inr (hS j hj)
  have h66 : (al H [(AV.str []), AV.slice0, (AV.int .i64 0), (AV.int .i64 0), (AV.int .i64 0), (AV.str [])] 43 0).next = H.next + 1 := rfl
  rw [h66] at hst
  rw [show (((0 : Nat) : Int)) = 0 from rfl] at i2
  rcases i2 with ⟨t, x, v1, v2, v3, v4⟩ | ⟨_, _, v⟩ | ⟨v1, H5, v2, v3⟩
  · have hx1 := v3.o.oneX
    have hct : cellsAt H4 (H.next + 1) 0 6 = some (tkC t x) := v3.c.cellsAt 6 0 (by rw [tk_len]; omega)
    have c4 := c1.out i1' (by simp)
    obtain ⟨H5, w1, w2, w3, w4⟩ := stAll (n := 6) (vs := tkC t x) c4 rfl rfl (by simp [tkC, oneC_s, oneC_i, hx1])
    have hc5 : cellsAt H5 H.next 0 6 = some (tkC t x) := w2.cellsAt 6 0 (by rw [tk_len]; omega)
    have hxr : ∀ j ∈ rid x, H3.next ≤ j := fun j hj => (v4 j hj).elim (fun z => by cases z) id
    refine ⟨H5, (fin i1' (fun j hj => by rw [List.mem_singleton] at hj; omega)).then w3 fun j hj => by rw [List.mem_singleton] at hj; exact .inr (by omega), .inl ⟨t, x, v1, c_def_task ?_, v3.o.rw.out w3 fun j hj => by rw [List.mem_singleton]; have := hxr j hj; omega, fun j hj => by have := hxr j hj; omega⟩⟩
    unfold s_def_task
    simp (disch := (first | assumption | omega | (simp only [k_d, k_c, Nat.reduceAdd, Nat.reduceLeDiff, Nat.reduceLT] <;> fail) | (simp only [k_c]; omega) | (simp only [k_d, k_c, Nat.reduceAdd, Nat.reduceLeDiff, Nat.reduceLT, *] <;> fail) | fail)) only [y1, y2, hfl1, hst, hfl2, hnk, hH3, hid2, s1, hwl', v2, hct, w1, hc5, k_a, k_b, Nat.reduceAdd, k_s, k_x, Int.reduceBEq, Int.reduceBNe, Int.reduceLT, Int.reduceLE, Int.reduceGT, Int.reduceGE, Int.reduceNeg]
  · exact v.elim
  · have v2' : Out [H.next + 1] H3 H5 := v2.mono fun j hj => by
      rcases List.mem_cons.1 hj with rfl | hj
      · exact .head _
      · cases hj
    have c5 := c1.out v2' (by simp)
    obtain ⟨H6, w1, w2, w3, w4⟩ := stAll (n := 6) (vs := [(AV.str []), AV.slice0, (AV.int .i64 0), (AV.int .i64 0), (AV.int .i64 0), (AV.str [])]) c5 rfl rfl rfl
    have hc6 : cellsAt H6 H.next 0 6 = some [(AV.str []), AV.slice0, (AV.int .i64 0), (AV.int .i64 0), (AV.int .i64 0), (AV.str [])] := w2.cellsAt 6 0 (by show 0 + 6 ≤ 6; omega)
    refine ⟨H6, (fin v2' (fun j hj => by rw [List.mem_singleton] at hj; omega)).then w3 fun j hj => by rw [List.mem_singleton] at hj; exact .inr (by omega), .inr ⟨v1, [(AV.str []), AV.slice0, (AV.int .i64 0), (AV.int .i64 0), (AV.int .i64 0), (AV.str [])], c_def_task ?_, rfl, rfl⟩⟩
    unfold s_def_task
    simp (disch := (first | assumption | omega | (simp only [k_d, k_c, Nat.reduceAdd, Nat.reduceLeDiff, Nat.reduceLT] <;> fail) | (simp only [k_c]; omega) | (simp only [k_d, k_c, Nat.reduceAdd, Nat.reduceLeDiff, Nat.reduceLT, *] <;> fail) | fail)) only [y1, y2, hfl1, hst, hfl2, hnk, hH3, hid2, s1, hwl', v3, w1, hc6, k_a, k_b, Nat.reduceAdd, k_s, k_x, Int.reduceBEq, Int.reduceBNe, Int.reduceLT, Int.reduceLE, Int.reduceGT, Int.reduceGE, Int.reduceNeg]
end Go.Proofs.YthljbjokonglhaaGreatDoor.DfK
namespace Go.Proofs.YthljbjokonglhaaGreatDoor.DfK
open Go Am Am.K DfEnv DfM LibP DfG
set_option linter.unusedVariables false
set_option linter.unusedSimpArgs false
set_option maxRecDepth 10000
theorem spl_sum (c : Nat) : ∀ s : Str, sumL (spl c s) + (spl c s).length = s.length + 1
  | [] => rfl
  | b :: s => by
    have ih := spl_sum c s
    unfold spl
    by_cases h : b = c
    · rw [if_pos h]; simp only [sumL, List.map_cons, List.sum_cons, List.length_nil, List.length_cons] at *; omega
    · rw [if_neg h]
      cases hs : spl c s with
      | nil => exact absurd hs (spl_ne c s)
      | cons x y => rw [hs] at ih; simp only [sumL, List.map_cons, List.sum_cons, List.length_cons] at *; omega
abbrev wds (s : Str) : List Str := spl 32 s
abbrev hdw (s : Str) : Str := (wds s).headD []
/-- rows of words, and the names, asV they are built -/
structure PS (H : Hp) (rx nx : AV) (rws : List AV) (ps : List Str) : Prop where
  r : Ow H 45 1 rx rws
  n : Ow H 9 1 nx (strs (ps.map hdw))
  len : rws.length = ps.length
  w : ∀ (i : Nat) (wx : AV) (s : Str), rws[i]? = some wx → ps[i]? = some s → Rw H 1 wx (strs (wds s))
  dw : ∀ wx ∈ rws, ∀ j ∈ rid wx, j ∉ rid rx ∧ j ∉ rid nx
  dn : ∀ j ∈ rid rx, j ∉ rid nx
theorem parse_loop {R : AV} {px : AV} {ps : List Str} {B : Nat} (hpl : ps.length ≤ 5000) (hps : ∀ s ∈ ps, s.length ≤ 5000) : ∀ (r : List Str) (i : Nat) (H : Hp) (rx nx : AV) (rws : List AV), i ≤ ps.length → ps.drop i = r → Rw H 1 px (strs ps) → PS H rx nx rws (ps.take i) → (∀ j ∈ rid px, j ∉ rid rx ∧ j ∉ rid nx) → B ≤ H.next → (∀ j, j ∈ rid rx ∨ j ∈ rid nx → B ≤ j) → (∀ wx ∈ rws, ∀ j ∈ rid wx, B ≤ j) →
    ∃ rx' nx' rws' H' S, (∀ j15 : K.Fn 3, l_def_Parse JN GO cK j15 R rx nx px (.int .i64 (ps.length : Nat)) (.int .i64 (i : Nat)) H = j15 R rx' nx' H') ∧ PS H' rx' nx' rws' ps ∧ Out S H H' ∧ (∀ j ∈ S, B ≤ j) ∧ (∀ j, j ∈ rid rx' ∨ j ∈ rid nx' → B ≤ j) ∧ (∀ wx ∈ rws', ∀ j ∈ rid wx, B ≤ j)
  | [], i, H, rx, nx, rws, hi, h, hpx, hP, hd, hB, hr, hw => by
    obtain rfl := drop_nil hi h
    rw [List.take_of_length_le (Nat.le_refl _)] at hP
    refine ⟨rx, nx, rws, H, [], fun j15 => ?_, hP, Out.refl _ _, (fun j hj => by cases hj), hr, hw⟩
    rw [ql_def_Parse]
    simp only [bl_def_Parse, lt_f, k_s, k_x, Int.reduceBEq, Int.reduceBNe, Int.reduceLT, Int.reduceLE, Int.reduceGT, Int.reduceGE, Int.reduceNeg]
  | s :: r, i, H, rx, nx, rws, hi, h, hpx, hP, hd, hB, hr, hw => by
    obtain ⟨h1, h2, h3⟩ := hd_drop h
    obtain ⟨q, q1, q2⟩ := hpx.ia1 (strs_get h2) .i64
    have es := wrap_s h1 (by omega)
    have hsl := hps s (List.mem_of_getElem? h2)
    have htk : ps.take (i + 1) = ps.take i ++ [s] := by rw [List.take_add_one, h2]; rfl
    have hil : (ps.take i).length = i := by rw [List.length_take]; omega
    obtain ⟨wx, H1, s1, s2, s3, s4⟩ := split_c (c := 32) (by decide) (s := s) (by omega) H
    have hn1 := s3.nx
    have hwl := s2.lt
    have hrl := hP.r.rw.lt
    have hnl := hP.n.rw.lt
    -- the words behind the rows
    obtain ⟨rx1, H2, p1, p2, p3, p4, p5⟩ := push_ok (el2 := 45) (z := [.slice0]) (vs := [wx]) (hP.r.out s3 (by simp)) (by simp [s2.one]) rfl (by decide) (by rw [hP.len, hil]; simp; omega)
    have hn2 := p3.nx
    have hw2 : Rw H2 1 wx (strs (wds s)) := s2.out p3 fun j hj z => by have := s4 j hj; have := hrl j z; omega
    have hN2 : Ow H2 9 1 nx (strs ((ps.take i).map hdw)) := (hP.n.out s3 (by simp)).out p3 fun j hj z => hP.dn j z hj
    -- its first one behind the names
    obtain ⟨w0, w1, hw01⟩ : ∃ a b, wds s = a :: b := by
      cases hs : wds s with
      | nil => exact absurd hs (spl_ne 32 s)
      | cons a b => exact ⟨a, b, rfl⟩
    obtain ⟨y, y1, y2⟩ := hw2.ia1 (i := 0) (v := .str w0) (by rw [hw01]; rfl) .i64
    rw [show (((0 : Nat) : Int)) = 0 from rfl] at y1
    obtain ⟨nx1, H3, n1, n2, n3, n4, n5⟩ := push_ok (el2 := 9) (z := [.str []]) (vs := [.str w0]) hN2 rfl rfl (by decide) (by rw [strs_len, List.length_map, hil]; simp; omega)
    have hn3 := n3.nx
    have hh : hdw s = w0 := by show (wds s).headD [] = w0; rw [hw01]; rfl
    have hn2' : strs ((ps.take i).map hdw) ++ [.str w0] = strs ((ps.take (i + 1)).map hdw) := by rw [htk, List.map_append, strs_app, List.map_cons, List.map_nil, hh]; rfl
    rw [hn2'] at n2
    have p1' := p1 _ rfl
    have n1' := n1 _ rfl
    -- who is where
    have hrx1 : ∀ j ∈ rid rx1, j ∈ rid rx ∨ H1.next ≤ j := p4
    have hnx1 : ∀ j ∈ rid nx1, j ∈ rid nx ∨ H2.next ≤ j := n4
    have hrx1l : ∀ j ∈ rid rx1, j < H2.next := p2.rw.lt
    have hwold : ∀ wy ∈ rws, ∀ j ∈ rid wy, j < H.next := fun wy hwy j hj => by
      obtain ⟨k, hk⟩ := List.getElem?_of_mem hwy
      have hkl := (List.getElem?_eq_some_iff.1 hk).1
      rw [hP.len] at hkl
      exact (hP.w k wy _ hk (List.getElem?_eq_getElem hkl)).lt j hj
    have o2 : Out (rid rx) H H2 := (s3.mono fun j hj => by cases hj).trans p3
    have o3 : Out (rid rx ++ rid nx) H H3 := (o2.mono fun j hj => List.mem_append_left _ hj).trans (n3.mono fun j hj => List.mem_append_right _ hj)
    have hP3 : PS H3 rx1 nx1 (rws ++ [wx]) (ps.take (i + 1)) := by
      refine ⟨p2.out n3 fun j hj z => ?_, n2, by rw [List.length_append, hP.len, htk, List.length_append]; rfl, fun k wy t hk ht => ?_, fun wy hwy j hj => ?_, fun j hj z => ?_⟩
      · rcases hrx1 j hj with y | y
        · exact hP.dn j y z
        · have := hnl j z; omega
      · rw [htk] at ht
        by_cases hki : k < i
        · rw [List.getElem?_append_left (by rw [hP.len, hil]; exact hki)] at hk
          rw [List.getElem?_append_left (by rw [hil]; exact hki)] at ht
          have hm := List.mem_of_getElem? hk
          exact (hP.w k wy t hk ht).out o3 fun j hj z => (List.mem_append.1 z).elim (hP.dw wy hm j hj).1 (hP.dw wy hm j hj).2
        · have hk2 := (List.getElem?_eq_some_iff.1 ht).1
          rw [List.length_append, hil] at hk2
          obtain rfl : k = i := by simp at hk2; omega
          rw [List.getElem?_append_right (by rw [hP.len, hil]; exact Nat.le_refl _), hP.len, hil, Nat.sub_self] at hk
          rw [List.getElem?_append_right (by rw [hil]; exact Nat.le_refl _), hil, Nat.sub_self] at ht
          cases hk; cases ht
          exact hw2.out n3 fun j hj z => by have := s4 j hj; have := hnl j z; omega
      · rcases List.mem_append.1 hwy with hwy | hwy
        · have hjo := hwold wy hwy j hj
          exact ⟨fun z => (hrx1 j z).elim (hP.dw wy hwy j hj).1 fun y => by omega, fun z => (hnx1 j z).elim (hP.dw wy hwy j hj).2 fun y => by omega⟩
        · rw [List.mem_singleton] at hwy
          subst hwy
          have := s4 j hj
          have := hwl j hj
          exact ⟨fun z => (hrx1 j z).elim (fun y => by have := hrl j y; omega) fun y => by omega, fun z => (hnx1 j z).elim (fun y => by have := hnl j y; omega) fun y => by omega⟩
      · rcases hnx1 j z with y | y
        · rcases hrx1 j hj with x | x
          · exact hP.dn j x y
          · have := hnl j y; omega
        · have := hrx1l j hj; omega
    have hpxl := hpx.lt
    obtain ⟨rx', nx', rws', H', S, i1, i2, i3, i4, i5, i6⟩ := parse_loop (R := R) (B := B) hpl hps r (i + 1) H3 rx1 nx1 (rws ++ [wx]) h1 h3 (hpx.out o3 fun j hj z => (List.mem_append.1 z).elim (hd j hj).1 (hd j hj).2) hP3 (fun j hj => ⟨fun z => (hrx1 j z).elim (hd j hj).1 fun y => by have := hpxl j hj; omega, fun z => (hnx1 j z).elim (hd j hj).2 fun y => by have := hpxl j hj; omega⟩) (by omega) (fun j hj => by
      rcases hj with hj | hj
      · exact (hrx1 j hj).elim (fun z => hr j (.inl z)) fun z => by omega
      · exact (hnx1 j hj).elim (fun z => hr j (.inr z)) fun z => by omega) (fun wy hwy j hj => by
      rcases List.mem_append.1 hwy with hwy | hwy
      · exact hw wy hwy j hj
      · rw [List.mem_singleton] at hwy; subst hwy; have := s4 j hj; omega)
    refine ⟨rx', nx', rws', H', (rid rx ++ rid nx) ++ S, fun j15 => ?_, i2, (o3.mono fun j hj => List.mem_append_left _ hj).trans (i3.mono fun j hj => List.mem_append_right _ hj), fun j hj => ?_, i5, i6⟩
    · have hwx1 := s2.one
      rw [ql_def_Parse]
      simp (disch := (first | assumption | omega | (simp only [k_d, k_c, Nat.reduceAdd, Nat.reduceLeDiff, Nat.reduceLT] <;> fail) | (simp only [k_c]; omega) | (simp only [k_d, k_c, Nat.reduceAdd, Nat.reduceLeDiff, Nat.reduceLT, *] <;> fail) | fail)) only [bl_def_Parse, lt_t h1, q1, q2, s1, p1', y1, y2, n1', es, i1, k_a, k_b, Nat.reduceAdd, k_s, k_x, Int.reduceBEq, Int.reduceBNe, Int.reduceLT, Int.reduceLE, Int.reduceGT, Int.reduceGE, Int.reduceNeg]
    · rcases List.mem_append.1 hj with hj | hj
      · exact hr j (List.mem_append.1 hj)
      · exact i4 j hj
/-- all tasks, by their words -/
noncomputable def tsM (names : List Str) : List Str → Option (List Tk)
  | [] => some []
  | s :: r => match taskM names (wds s) with
    | none => none
    | some t => (tsM names r).map fun l => t :: l
noncomputable def parseM (text : Str) : List Tk × Int :=
  if 1024 < text.length then ([], 14) else match tsM ((spl 59 text).map hdw) (spl 59 text) with
    | none => ([], 2)
    | some ts => if goodM ts = 0 then (ts, 0) else ([], goodM ts)
theorem tkM_len {names : List Str} : ∀ {r : List Str} {t t' : Tk} {ks : List Str}, tkM names r t ks = some t' → t'.after.length ≤ t.after.length + sumL r + r.length
  | [], t, t', ks, h => by cases h; simp [sumL]
  | s :: r, t, t', ks, h => by
    unfold tkM at h
    split at h
    · cases h
    · split at h
      · cases h
      · split at h
        · cases h
        · rename_i t1 h1
          have h2 := setM_len h1
          have h3 := tkM_len h
          have := (cut_len 61 s).2
          have hs : sumL (s :: r) = s.length + sumL r := by simp [sumL]
          rw [hs]; simp only [List.length_cons]; omega
theorem taskM_len {names : List Str} {s : Str} {t : Tk} (h : taskM names (wds s) = some t) : t.after.length ≤ s.length + 1 := by
  unfold taskM at h
  have h1 := tkM_len h
  have h2 : sumL (wds s) + (wds s).length = s.length + 1 := spl_sum 32 s
  have h3 : sumL (wds s).tail + (wds s).tail.length ≤ sumL (wds s) + (wds s).length := by
    cases wds s with
    | nil => simp
    | cons a b => simp [sumL]; omega
  simp only [List.length_nil] at h1
  omega
theorem tsM_len {names : List Str} : ∀ {r : List Str} {ts : List Tk}, tsM names r = some ts → ts.length = r.length ∧ ∀ B, (∀ s ∈ r, s.length ≤ B) → ∀ t ∈ ts, t.after.length ≤ B + 1
  | [], ts, h => by cases h; exact ⟨rfl, fun B _ t ht => by cases ht⟩
  | s :: r, ts, h => by
    unfold tsM at h
    split at h
    · cases h
    · rename_i t ht
      rw [Option.map_eq_some_iff] at h
      obtain ⟨l, h1, rfl⟩ := h
      obtain ⟨i1, i2⟩ := tsM_len h1
      refine ⟨by simp [i1], fun B hB u hu => ?_⟩
      rcases List.mem_cons.1 hu with rfl | hu
      · have := taskM_len ht
        have := hB s (.head _)
        omega
      · exact i2 B (fun s hs => hB s (.tail _ hs)) u hu
theorem RD.nil (H : Hp) : RD H .slice0 [] [] := ⟨rfl, RL.nil H 6, fun i x t h => by simp at h⟩
theorem parse1_loop {nx rx : AV} {rws : List AV} {ps : List Str} {R D : Nat} (hpl : ps.length ≤ 2000) (hps : ∀ s ∈ ps, s.length ≤ 1100) (hRD : R ≠ D) : ∀ (r : List Str) (i : Nat) (H : Hp) (dx : AV) (xs : List AV) (ts : List Tk), i ≤ ps.length → ps.drop i = r → Gl H → 11 ≤ D → (∀ j ∈ rid dx, 11 ≤ j) → PS H rx nx rws ps → Cs H R [.slice0] 25 0 → Cs H D [dx] 25 0 → OL H 43 6 dx (List.zipWith tkC ts xs) → RD H dx xs ts → ts.length = i → (∀ x ∈ xs, ∀ j ∈ rid x, j ∉ rid dx ∧ j ≠ D) → D ∉ rid dx → (∀ j, j ∈ rid rx ∨ j ∈ rid nx ∨ (∃ wx ∈ rws, j ∈ rid wx) ∨ j = R → j ∉ rid dx ∧ j ≠ D) →
    ∃ H' S, Out S H H' ∧ (∀ j ∈ S, j = D ∨ j = R ∨ j ∈ rid dx ∨ H.next ≤ j) ∧ ((∃ dx' xs' l, tsM (ps.map hdw) r = some l ∧ (∀ j71 : K.Fn 2, l_def_Parse1 JN GO cK j71 (.ptr R 0) nx (.ptr D 0) rx (.int .i64 (ps.length : Nat)) (.int .i64 (i : Nat)) H = j71 (.ptr R 0) (.ptr D 0) H') ∧ Cs H' D [dx'] 25 0 ∧ Cs H' R [.slice0] 25 0 ∧ RD H' dx' xs' (ts ++ l) ∧ ∀ j ∈ fpD dx' xs', j ∈ fpD dx xs ∨ H.next ≤ j) ∨
      (tsM (ps.map hdw) r = none ∧ ∀ j71 : K.Fn 2, l_def_Parse1 JN GO cK j71 (.ptr R 0) nx (.ptr D 0) rx (.int .i64 (ps.length : Nat)) (.int .i64 (i : Nat)) H = some (.tuple [.agg [.slice0], .int .i64 2], H')))
  | [], i, H, dx, xs, ts, hi, h, hg, hD11, hdx11, hP, hR, hD, hO, hT, htl, hxd, hDd, hd => by
    obtain rfl := drop_nil hi h
    refine ⟨H, [], Out.refl _ _, (fun j hj => by cases hj), .inl ⟨dx, xs, [], rfl, fun j71 => ?_, hD, hR, by simpa using hT, fun j hj => .inl hj⟩⟩
    rw [ql_def_Parse1]
    simp only [bl_def_Parse1, lt_f, k_s, k_x, Int.reduceBEq, Int.reduceBNe, Int.reduceLT, Int.reduceLE, Int.reduceGT, Int.reduceGE, Int.reduceNeg]
  | s :: r, i, H, dx, xs, ts, hi, h, hg, hD11, hdx11, hP, hR, hD, hO, hT, htl, hxd, hDd, hd => by
    obtain ⟨h1, h2, h3⟩ := hd_drop h
    have es := wrap_s h1 (by omega)
    have hsl := hps s (List.mem_of_getElem? h2)
    have hri : rws[i]? = some (rws[i]'(by rw [hP.len]; exact h1)) := List.getElem?_eq_getElem _
    generalize hwx : rws[i]'(by rw [hP.len]; exact h1) = wx at hri
    have hwm := List.mem_of_getElem? hri
    have hw := hP.w i wx s hri h2
    obtain ⟨q, q1, q2⟩ := hP.r.rw.ia1 hri .i64
    have hsum := spl_sum 32 s
    have hwl : (wds s).length ≤ 5000 := by have : (wds s).length = (spl 32 s).length := rfl; omega
    have hws : ∀ a ∈ wds s, a.length ≤ 80000 := fun a ha => by have := (spl_mem ha).2.2; omega
    obtain ⟨H1, t1, t2⟩ := task_c (names := ps.map hdw) hg (by rw [List.length_map]; omega) (spl_ne 32 s) hwl hws (by show sumL (spl 32 s) + (spl 32 s).length ≤ _; omega) hP.n.rw hw
    have hn1 := t1.nx
    have hgn := hg.nx
    unfold tsM
    rcases t2 with ⟨t, x, u1, u2, u3, u4⟩ | ⟨u1, v, u2, u3, u4⟩
    · rw [u1]
      simp only
      have hx1 := u3.one
      have htlen := taskM_len u1
      have hst0 : st 6 (.ptr H1.next 0) (.agg (tkC t x)) (al H1 [(.str []), .slice0, (.int .i64 0), (.int .i64 0), (.int .i64 0), (.str [])] 43 0) = some (al H1 (tkC t x) 43 0) := st_tk t x hx1 H1
      have o2 := al_out H1 (tkC t x) 43 0
      have o12 : Out [] H (al H1 (tkC t x) 43 0) := t1.trans o2
      have hDlt := hD.1
      have hDc : cellAt (al H1 (tkC t x) 43 0) D 0 = some dx := (hD.out o12 (by simp)).cellAt rfl
      obtain ⟨dx1, H2, p1, p2, p3, p4, p5⟩ := (hO.out o12 (by simp)).push (el2 := 43) (z := [(.str []), .slice0, (.int .i64 0), (.int .i64 0), (.int .i64 0), (.str [])]) (vs := tkC t x) (by simp [tkC, oneC_s, oneC_i, hx1]) rfl (by decide) (by rw [List.length_zipWith, hT.len, Nat.min_self]; omega)
      have hn2 := p3.nx
      rw [al_nx] at hn2
      have hDD := (hD.out o12 (by simp)).out p3 hDd
      obtain ⟨H3, w1, w2, w3, w4⟩ := st1 hDD (by decide) (o := 0) (by simp) (v := dx1) p5
      have hzw : List.zipWith tkC ts xs ++ [tkC t x] = List.zipWith tkC (ts ++ [t]) (xs ++ [x]) := by
        rw [List.zipWith_append (by rw [hT.len])]; rfl
      rw [hzw] at p2
      have hdx1 : ∀ j ∈ rid dx1, j ∈ rid dx ∨ H1.next + 1 ≤ j := fun j hj => (p4 j hj).imp id fun z => by rw [al_nx] at z; exact z
      have hdl := hO.1.rw.lt
      have hDd1 : D ∉ rid dx1 := fun z => (hdx1 D z).elim hDd fun y => by omega
      have o3 : Out (D :: rid dx) H H3 := ((o12.mono fun j hj => by cases hj).trans (p3.mono fun j hj => .tail _ hj)).trans (w3.mono fun j hj => by rw [List.mem_singleton] at hj; subst hj; exact .head _)
      have hn3 := o3.nx
      have hxlt := u3.lt
      have hO3 := p2.out w3 fun j hj => by rw [List.mem_singleton]; intro e; subst e; exact hDd1 hj
      have hxold : ∀ y ∈ xs, ∀ j ∈ rid y, j < H.next := fun y hy j hj => hT.lt j (List.mem_append_right _ (List.mem_flatMap.2 ⟨y, hy, hj⟩))
      have hT3 : RD H3 dx1 (xs ++ [x]) (ts ++ [t]) := by
        refine ⟨by simp [hT.len], hO3.rl, fun k y t' hy ht' => ?_⟩
        by_cases hk : k < xs.length
        · rw [List.getElem?_append_left hk] at hy
          rw [List.getElem?_append_left (by rw [← hT.len]; exact hk)] at ht'
          have hym := List.mem_of_getElem? hy
          exact (hT.aft k y t' hy ht').out o3 fun j hj => by rw [List.mem_cons, not_or]; exact ⟨(hxd y hym j hj).2, (hxd y hym j hj).1⟩
        · have hk2 := (List.getElem?_eq_some_iff.1 hy).1
          rw [List.length_append] at hk2
          obtain rfl : k = xs.length := by simp at hk2; omega
          rw [List.getElem?_append_right (Nat.le_refl _), Nat.sub_self] at hy
          rw [List.getElem?_append_right (by rw [hT.len]; exact Nat.le_refl _), hT.len, Nat.sub_self] at ht'
          cases hy; cases ht'
          refine ((u3.out0 o2).out p3 fun j hj z => ?_).out w3 fun j hj => ?_
          · have := u4 j hj; have := hdl j z; omega
          · rw [List.mem_singleton]; have := u4 j hj; omega
      have hPo : ∀ {A B : Hp} {S : List Nat}, PS A rx nx rws ps → Out S A B → (∀ j, j ∈ rid rx ∨ j ∈ rid nx ∨ (∃ wx ∈ rws, j ∈ rid wx) → j ∉ S) → PS B rx nx rws ps := fun hp ho hs =>
        ⟨hp.r.out ho fun j hj => hs j (.inl hj), hp.n.out ho fun j hj => hs j (.inr (.inl hj)), hp.len, fun k wy s' hk hs' => (hp.w k wy s' hk hs').out ho fun j hj => hs j (.inr (.inr ⟨wy, List.mem_of_getElem? hk, hj⟩)), hp.dw, hp.dn⟩
      have hd3 : ∀ j, j ∈ rid rx ∨ j ∈ rid nx ∨ (∃ wx ∈ rws, j ∈ rid wx) ∨ j = R → j ∉ D :: rid dx := fun j hj => by rw [List.mem_cons, not_or]; exact ⟨(hd j hj).2, (hd j hj).1⟩
      have hlow : ∀ j, j ∈ rid rx ∨ j ∈ rid nx ∨ (∃ wx ∈ rws, j ∈ rid wx) ∨ j = R → j < H.next := fun j hj => by
        rcases hj with hj | hj | ⟨wy, hwy, hj⟩ | rfl
        · exact hP.r.rw.lt j hj
        · exact hP.n.rw.lt j hj
        · obtain ⟨k, hk⟩ := List.getElem?_of_mem hwy
          have hkl := (List.getElem?_eq_some_iff.1 hk).1
          rw [hP.len] at hkl
          exact (hP.w k wy _ hk (List.getElem?_eq_getElem hkl)).lt j hj
        · exact hR.1
      obtain ⟨H', S, i1, i2, i3⟩ := parse1_loop hpl hps hRD r (i + 1) H3 dx1 (xs ++ [x]) (ts ++ [t]) h1 h3 (hg.out o3 fun j hj => by
        rcases List.mem_cons.1 hj with rfl | hj
        · exact hD11
        · exact hdx11 j hj) hD11 (fun j hj => (hdx1 j hj).elim (hdx11 j) fun z => by omega) (hPo hP o3 fun j hj => hd3 j (hj.imp id fun z => z.imp id .inl)) (hR.out o3 (hd3 R (.inr (.inr (.inr rfl))))) w2 hO3 hT3 (by simp [htl]) (fun y hy j hj => by
          rcases List.mem_append.1 hy with hy | hy
          · have := hxold y hy j hj
            exact ⟨fun z => (hdx1 j z).elim (hxd y hy j hj).1 fun w => by omega, (hxd y hy j hj).2⟩
          · rw [List.mem_singleton] at hy
            subst hy
            have := u4 j hj
            have := hxlt j hj
            exact ⟨fun z => (hdx1 j z).elim (fun w => by have := hdl j w; omega) fun w => by omega, by omega⟩) hDd1 (fun j hj => ⟨fun z => (hdx1 j z).elim (hd j hj).1 fun w => by have := hlow j hj; omega, (hd j hj).2⟩)
      refine ⟨H', (D :: rid dx) ++ S, (o3.mono fun j hj => List.mem_append_left _ hj).trans (i1.mono fun j hj => List.mem_append_right _ hj), fun j hj => ?_, ?_⟩
      · rcases List.mem_append.1 hj with hj | hj
        · rcases List.mem_cons.1 hj with rfl | hj
          · exact .inl rfl
          · exact .inr (.inr (.inl hj))
        · rcases i2 j hj with z | z | z | z
          · exact .inl z
          · exact .inr (.inl z)
          · exact .inr (.inr ((hdx1 j z).imp id fun y => by omega))
          · exact .inr (.inr (.inr (by omega)))
      · have hnc6 : newCells (al H1 (tkC t x) 43 0) (tkC t x) 43 0 = some (H1.next + 1, al (al H1 (tkC t x) 43 0) (tkC t x) 43 0) := newCells_al (by rw [tk_len]; omega)
        have hfl6 : fl [(.str []), .slice0, (.int .i64 0), (.int .i64 0), (.int .i64 0), (.str [])] [(0, 6, .agg (tkC t x))] = some (tkC t x) := rfl
        have htk6 := tk_take t x
        have htl6 := tk_len t x
        have p1' := p1 _ rfl
        rw [al_nx] at p1'
        rcases i3 with ⟨dx', xs', l, k1, k2, k3, k4, k5, k6⟩ | ⟨k1, k2⟩
        · refine .inl ⟨dx', xs', t :: l, by rw [k1]; rfl, fun j71 => ?_, k3, k4, by simpa [List.append_assoc] using k5, fun j hj => (k6 j hj).elim (fun z => ?_) fun z => .inr (by omega)⟩
          · rw [ql_def_Parse1]
            simp (disch := (first | assumption | omega | (simp only [k_d, k_c, Nat.reduceAdd, Nat.reduceLeDiff, Nat.reduceLT] <;> fail) | (simp only [k_c]; omega) | (simp only [k_d, k_c, Nat.reduceAdd, Nat.reduceLeDiff, Nat.reduceLT, *] <;> fail) | fail)) only [bl_def_Parse1, lt_t h1, q1, q2, u2, hst0, hDc, htl6, htk6, hfl6, hnc6, p1', w1, es, k2, k_a, k_b, Nat.reduceAdd, k_s, k_x, Int.reduceBEq, Int.reduceBNe, Int.reduceLT, Int.reduceLE, Int.reduceGT, Int.reduceGE, Int.reduceNeg]
          · rcases List.mem_append.1 z with z | z
            · exact (hdx1 j z).imp (fun y => List.mem_append_left _ y) fun y => by omega
            · rw [List.flatMap_append, List.mem_append] at z
              rcases z with z | z
              · exact .inl (List.mem_append_right _ z)
              · have : j ∈ rid x := by simpa using z
                exact .inr (u4 j this)
        · refine .inr ⟨by rw [k1]; rfl, fun j71 => ?_⟩
          rw [ql_def_Parse1]
          simp (disch := (first | assumption | omega | (simp only [k_d, k_c, Nat.reduceAdd, Nat.reduceLeDiff, Nat.reduceLT] <;> fail) | (simp only [k_c]; omega) | (simp only [k_d, k_c, Nat.reduceAdd, Nat.reduceLeDiff, Nat.reduceLT, *] <;> fail) | fail)) only [bl_def_Parse1, lt_t h1, q1, q2, u2, hst0, hDc, htl6, htk6, hfl6, hnc6, p1', w1, es, k2, k_a, k_b, Nat.reduceAdd, k_s, k_x, Int.reduceBEq, Int.reduceBNe, Int.reduceLT, Int.reduceLE, Int.reduceGT, Int.reduceGE, Int.reduceNeg]
    · rw [u1]
      have hst0 : st 6 (.ptr H1.next 0) (.agg v) (al H1 [(.str []), .slice0, (.int .i64 0), (.int .i64 0), (.int .i64 0), (.str [])] 43 0) = some (al H1 v 43 0) := st_alN u4 u3.symm rfl (by decide) u3.symm
      have o2 := al_out H1 v 43 0
      have hR2 := hR.out (t1.trans o2) (by simp)
      obtain ⟨H3, w1, w2, w3, w4⟩ := stAll (n := 1) (vs := [AV.slice0]) hR2 rfl rfl rfl
      have hR3 : cellsAt H3 R 0 1 = some [.slice0] := w2.cellsAt 1 0 (by simp)
      refine ⟨H3, [R], ((t1.trans o2).mono fun j hj => by cases hj).trans w3, fun j hj => by rw [List.mem_singleton] at hj; exact .inr (.inl hj), .inr ⟨rfl, fun j71 => ?_⟩⟩
      rw [ql_def_Parse1]
      simp (disch := (first | assumption | omega | (simp only [k_d, k_c, Nat.reduceAdd, Nat.reduceLeDiff, Nat.reduceLT] <;> fail) | (simp only [k_c]; omega) | (simp only [k_d, k_c, Nat.reduceAdd, Nat.reduceLeDiff, Nat.reduceLT, *] <;> fail) | fail)) only [bl_def_Parse1, lt_t h1, q1, q2, u2, hst0, w1, hR3, k_a, k_b, Nat.reduceAdd, k_s, k_x, Int.reduceBEq, Int.reduceBNe, Int.reduceLT, Int.reduceLE, Int.reduceGT, Int.reduceGE, Int.reduceNeg]
theorem parse_c {text : Str} {H : Hp} (hg : Gl H) (hl : text.length ≤ 4294967296) : ∃ dx xs H', cK (.func (.func 9) [] []) [.str text] H = some (.tuple [dv dx, .int .i64 (parseM text).2], H') ∧ RD H' dx xs (parseM text).1 ∧ Out [] H H' ∧ ∀ j ∈ fpD dx xs, H.next ≤ j := by
  have hgn := hg.nx
  have o1 := al_out H [.slice0] 25 0
  have c1 := al_cs H [.slice0] 25 0
  unfold parseM
  by_cases hbig : 1024 < text.length
  · rw [if_pos hbig]
    have d : decide ((1024 : Int) < (text.length : Int)) = true := decide_eq_true (by omega)
    refine ⟨.slice0, [], al H [.slice0] 25 0, c_def_Parse ?_, RD.nil _, o1, fun j hj => by cases hj⟩
    have hst : st 1 (.ptr H.next 0) (.agg [.slice0]) (al H [.slice0] 25 0) = some (al H [.slice0] 25 0) := st_alN rfl rfl rfl (by decide) rfl
    unfold s_def_Parse
    simp (disch := (first | assumption | omega | (simp only [k_d, k_c, Nat.reduceAdd, Nat.reduceLeDiff, Nat.reduceLT] <;> fail) | (simp only [k_c]; omega) | (simp only [k_d, k_c, Nat.reduceAdd, Nat.reduceLeDiff, Nat.reduceLT, *] <;> fail) | fail)) only [d, hst, k_a, k_b, Nat.reduceAdd, k_s, k_x, Int.reduceBEq, Int.reduceBNe, Int.reduceLT, Int.reduceLE, Int.reduceGT, Int.reduceGE, Int.reduceNeg]
  rw [if_neg hbig]
  have d : decide ((1024 : Int) < (text.length : Int)) = false := decide_eq_false (by omega)
  obtain ⟨px, H1, s1, s2, s3, s4⟩ := split_c (c := 59) (by decide) (s := text) (by omega) (al H [.slice0] 25 0)
  have hn1 := s3.nx
  rw [al_nx] at hn1
  have hsum := spl_sum 59 text
  have hpl := s2.len1
  rw [strs_len] at hpl
  have hps : ∀ s ∈ spl 59 text, s.length ≤ 1100 := fun s hs => by have := (spl_mem hs).2.2; omega
  have c2 := c1.out s3 (by simp)
  obtain ⟨rx, nx, rws, H2, S2, i1, i2, i3, i4, i5, i6⟩ := parse_loop (R := .ptr H.next 0) (B := H1.next) (ps := spl 59 text) (by omega) (fun s hs => by have := hps s hs; omega) (spl 59 text) 0 H1 .slice0 .slice0 [] (Nat.zero_le _) List.drop_zero s2 ⟨.nil, .nil, by rw [List.take_zero]; rfl, fun i wx s h => by simp at h, (fun wx h => by cases h), fun j h => by cases h⟩ (fun j hj => ⟨by simp [rid], by simp [rid]⟩) (Nat.le_refl _) (fun j hj => by rcases hj with hj | hj <;> cases hj) (fun wx h => by cases h)
  rw [show (((0 : Nat) : Int)) = 0 from rfl] at i1
  have hn2 := i3.nx
  have ho2 : Out [] H H2 := (o1.trans s3).then i3 fun j hj => by have := i4 j hj; exact .inr (by omega)
  have c3 := c2.out i3 fun z => by have := i4 _ z; omega
  have o3 := al_out H2 [.slice0] 25 0
  have cD := al_cs H2 [.slice0] 25 0
  have hP3 : PS (al H2 [.slice0] 25 0) rx nx rws (spl 59 text) := ⟨i2.r.out o3 (by simp), i2.n.out o3 (by simp), i2.len, fun k wx s h1 h2 => (i2.w k wx s h1 h2).out0 o3, i2.dw, i2.dn⟩
  have hlow : ∀ j, j ∈ rid rx ∨ j ∈ rid nx ∨ (∃ wx ∈ rws, j ∈ rid wx) → j < H2.next := fun j hj => by
    rcases hj with hj | hj | ⟨wy, hwy, hj⟩
    · exact i2.r.rw.lt j hj
    · exact i2.n.rw.lt j hj
    · obtain ⟨k, hk⟩ := List.getElem?_of_mem hwy
      have hkl := (List.getElem?_eq_some_iff.1 hk).1
      rw [i2.len] at hkl
      exact (i2.w k wy _ hk (List.getElem?_eq_getElem hkl)).lt j hj
  obtain ⟨H3, S3, k1, k2, k3⟩ := parse1_loop (R := H.next) (D := H2.next) (by omega) hps (by omega) (spl 59 text) 0 (al H2 [.slice0] 25 0) .slice0 [] [] (Nat.zero_le _) List.drop_zero (hg.out0 (ho2.trans o3)) (by omega) (fun j hj => by cases hj) hP3 (c3.out o3 (by simp)) cD (OL.nil _ _ _) (RD.nil _) rfl (fun x hx => by cases hx) (by simp [rid]) (fun j hj => ⟨by simp [rid], by
    rcases hj with hj | hj | hj | rfl
    · have := hlow j (.inl hj); omega
    · have := hlow j (.inr (.inl hj)); omega
    · have := hlow j (.inr (.inr hj)); omega
    · omega⟩)
  rw [show (((0 : Nat) : Int)) = 0 from rfl] at k3
  have hS3 : ∀ j ∈ S3, H.next ≤ j := fun j hj => by
    rcases k2 j hj with z | z | z | z
    · omega
    · omega
    · cases z
    · rw [al_nx] at z; omega
  have ho3 : Out [] H H3 := (ho2.trans o3).then k1 fun j hj => .inr (hS3 j hj)
  have hrl := i2.r.rw.len1
  rw [i2.len] at hrl
  have hlx : lenx rx = some (.int .i64 ((spl 59 text).length : Nat)) := hrl
  have hn3 := k1.nx
  rw [al_nx] at hn3
  rcases k3 with ⟨dx, xs, ts, m1, m2, m3, m4, m5, m6⟩ | ⟨m1, m2⟩
  · rw [List.nil_append] at m5
    rw [m1]
    simp only
    obtain ⟨tl1, tl2⟩ := tsM_len m1
    have hfp : ∀ j ∈ fpD dx xs, H2.next + 1 ≤ j := fun j hj => (m6 j hj).elim (fun z => by cases z) fun z => by rw [al_nx] at z; exact z
    obtain ⟨H4, g1, g2⟩ := dgood_c (ts := ts) (by rw [tl1]; omega) (fun t ht => by have := tl2 1100 hps t ht; omega) m5
    have hn4 := g2.nx
    have hDc : cellsAt H3 H2.next 0 1 = some [dx] := m3.cellsAt 1 0 (by simp)
    have hD4 : cellsAt H4 H2.next 0 1 = some [dx] := (m3.out g2 (by simp)).cellsAt 1 0 (by simp)
    have cR := m4.out g2 (by simp)
    have hdx1 := m5.row.one
    by_cases h0 : goodM ts = 0
    · rw [if_pos h0]
      have d0 : ((goodM ts) != 0) = false := by rw [h0]; rfl
      obtain ⟨H5, w1, w2, w3, w4⟩ := stAll (n := 1) (vs := [dx]) cR rfl rfl (by simp [hdx1])
      have hR5 : cellsAt H5 H.next 0 1 = some [dx] := w2.cellsAt 1 0 (by simp)
      refine ⟨dx, xs, H5, c_def_Parse ?_, (m5.out0 g2).out w3 fun j hj => by rw [List.mem_singleton]; have := hfp j hj; omega, (ho3.trans g2).then w3 fun j hj => by rw [List.mem_singleton] at hj; exact .inr (by omega), fun j hj => by have := hfp j hj; omega⟩
      unfold s_def_Parse
      simp (disch := (first | assumption | omega | (simp only [k_d, k_c, Nat.reduceAdd, Nat.reduceLeDiff, Nat.reduceLT] <;> fail) | (simp only [k_c]; omega) | (simp only [k_d, k_c, Nat.reduceAdd, Nat.reduceLeDiff, Nat.reduceLT, *] <;> fail) | fail)) only [d, s1, hpl, i1, hlx, m2, hDc, hD4, g1, d0, w1, hR5, k_a, k_b, Nat.reduceAdd, k_s, k_x, Int.reduceBEq, Int.reduceBNe, Int.reduceLT, Int.reduceLE, Int.reduceGT, Int.reduceGE, Int.reduceNeg]
    · rw [if_neg h0]
      have d0 : ((goodM ts) != 0) = true := by simp [h0]
      obtain ⟨H5, w1, w2, w3, w4⟩ := stAll (n := 1) (vs := [AV.slice0]) cR rfl rfl rfl
      have hR5 : cellsAt H5 H.next 0 1 = some [.slice0] := w2.cellsAt 1 0 (by simp)
      refine ⟨.slice0, [], H5, c_def_Parse ?_, RD.nil _, (ho3.trans g2).then w3 fun j hj => by rw [List.mem_singleton] at hj; exact .inr (by omega), fun j hj => by cases hj⟩
      unfold s_def_Parse
      simp (disch := (first | assumption | omega | (simp only [k_d, k_c, Nat.reduceAdd, Nat.reduceLeDiff, Nat.reduceLT] <;> fail) | (simp only [k_c]; omega) | (simp only [k_d, k_c, Nat.reduceAdd, Nat.reduceLeDiff, Nat.reduceLT, *] <;> fail) | fail)) only [d, s1, hpl, i1, hlx, m2, hDc, hD4, g1, d0, w1, hR5, k_a, k_b, Nat.reduceAdd, k_s, k_x, Int.reduceBEq, Int.reduceBNe, Int.reduceLT, Int.reduceLE, Int.reduceGT, Int.reduceGE, Int.reduceNeg]
  · rw [m1]
    simp only
    refine ⟨.slice0, [], H3, c_def_Parse ?_, RD.nil _, ho3, fun j hj => by cases hj⟩
    unfold s_def_Parse
    simp (disch := (first | assumption | omega | (simp only [k_d, k_c, Nat.reduceAdd, Nat.reduceLeDiff, Nat.reduceLT] <;> fail) | (simp only [k_c]; omega) | (simp only [k_d, k_c, Nat.reduceAdd, Nat.reduceLeDiff, Nat.reduceLT, *] <;> fail) | fail)) only [d, s1, hpl, i1, hlx, m2, k_a, k_b, Nat.reduceAdd, k_s, k_x, Int.reduceBEq, Int.reduceBNe, Int.reduceLT, Int.reduceLE, Int.reduceGT, Int.reduceGE, Int.reduceNeg]
/-- what holds of a definition that is read -/
theorem parseM_good {text : Str} (h : (parseM text).2 = 0) : goodM (parseM text).1 = 0 ∧ 1 ≤ (parseM text).1.length ∧ (parseM text).1.length ≤ 16 ∧ aftAll (parseM text).1 ∧ noCyc (parseM text).1.length (edFrom 0 (parseM text).1) ∧ (∀ t ∈ (parseM text).1, odd1 t = false ∧ odd3 t = false) := by
  have key : ∀ ts : List Tk, goodM ts = 0 → 1 ≤ ts.length ∧ ts.length ≤ 16 ∧ aftAll ts ∧ noCyc ts.length (edFrom 0 ts) ∧ ∀ t ∈ ts, odd1 t = false ∧ odd3 t = false := by
    intro ts h
    unfold goodM at h
    split at h
    · cases h
    · rename_i h1
      split at h
      · cases h
      · rename_i h2
        split at h
        · cases h
        · split at h
          · cases h
          · rename_i h3
            split at h
            · cases h
            · rename_i h4
              split at h
              · rename_i h5
                have h1 := Decidable.not_not.1 h1
                refine ⟨h1.1, h1.2, any_p4 (by simpa using h4), h5, fun t ht => ?_⟩
                obtain ⟨i, hi⟩ := List.getElem?_of_mem ht
                have hil := (List.getElem?_eq_some_iff.1 hi).1
                rw [Bool.not_eq_true, List.any_eq_false] at h2 h3
                have a := h2 i (List.mem_range.2 hil)
                have b := h3 i (List.mem_range.2 hil)
                unfold p1 at a
                unfold p3 at b
                rw [hi] at a b
                exact ⟨by simpa using a, by simpa using b⟩
              · cases h
  have hg : goodM (parseM text).1 = 0 := by
    unfold parseM at h ⊢
    by_cases hb : 1024 < text.length
    · rw [if_pos hb] at h; cases h
    · rw [if_neg hb] at h ⊢
      cases hts : tsM ((spl 59 text).map hdw) (spl 59 text) with
      | none => rw [hts] at h; cases h
      | some ts =>
        rw [hts] at h
        simp only at h ⊢
        by_cases h0 : goodM ts = 0
        · rw [if_pos h0]; exact h0
        · rw [if_neg h0] at h; exact absurd h h0
  exact ⟨hg, key _ hg⟩
end Go.Proofs.YthljbjokonglhaaGreatDoor.DfK
namespace Go.Proofs.YthljbjokonglhaaGreatDoor.Am.K
open Go
set_option linter.unusedVariables false
set_option linter.unusedSimpArgs false
theorem setR_left : ∀ (vs c r : List AV) (k : Nat), k + vs.length ≤ c.length → setR (c ++ r) k vs = setR c k vs ++ r
  | [], c, r, k, h => rfl
  | v :: vs, c, r, k, h => by
    simp only [List.length_cons] at h
    show setR ((c ++ r).set k v) (k + 1) vs = setR (c.set k v) (k + 1) vs ++ r
    rw [List.set_append_left _ _ (by omega)]
    exact setR_left vs _ _ _ (by rw [List.length_set]; omega)
theorem setR_right : ∀ (vs a r : List AV) (k : Nat), setR (a ++ r) (a.length + k) vs = a ++ setR r k vs
  | [], a, r, k => rfl
  | v :: vs, a, r, k => by
    show setR ((a ++ r).set (a.length + k) v) (a.length + k + 1) vs = a ++ setR (r.set k v) (k + 1) vs
    rw [List.set_append_right _ _ (by omega), Nat.add_sub_cancel_left, Nat.add_assoc]
    exact setR_right vs _ _ _
theorem flatten_set {es : Nat} {vs : List AV} {k : Nat} (hk : k + vs.length ≤ es) : ∀ {L : List (List AV)} {i : Nat} {c : List AV}, (∀ c ∈ L, c.length = es) → L[i]? = some c → (L.set i (setR c k vs)).flatten = setR L.flatten (i * es + k) vs
  | [], i, c, _, h => by simp at h
  | a :: L, 0, c, hl, h => by
    simp only [List.getElem?_cons_zero, Option.some.injEq] at h
    subst h
    have := hl a (.head _)
    rw [Nat.zero_mul, Nat.zero_add]
    show setR a k vs ++ L.flatten = setR (a ++ L.flatten) k vs
    rw [setR_left _ _ _ _ (by omega)]
  | a :: L, i + 1, c, hl, h => by
    simp only [List.getElem?_cons_succ] at h
    have ha := hl a (.head _)
    show a ++ (L.set i (setR c k vs)).flatten = setR (a ++ L.flatten) ((i + 1) * es + k) vs
    rw [flatten_set hk (fun d hd => hl d (.tail _ hd)) h, Nat.add_mul, Nat.one_mul, show i * es + es + k = a.length + (i * es + k) by omega, setR_right]
/-- cells of one part set in place -/
theorem OL.stAt {H : Hp} {el es : Nat} {x : AV} {L : List (List AV)} (h : OL H el es x L) {i k b o : Nat} {c vs : List AV} (hi : L[i]? = some c) (hia : ∀ kd, ia es x (.int kd i) = some (.ptr b o)) (hv : ∀ v ∈ vs, oneC v = true) (hk : k + vs.length ≤ es) (hes : 0 < es) :
    ∃ H', setCells H b (o + k) vs = some H' ∧ OL H' el es x (L.set i (setR c k vs)) ∧ Out (rid x) H H' ∧ H'.next = H.next := by
  obtain ⟨ho, hl⟩ := h
  have hil := (List.getElem?_eq_some_iff.1 hi).1
  have hfl := flatten_len hl
  have hfs := flatten_set hk hl hi
  have hc := hl c (List.mem_of_getElem? hi)
  have hpos : i * es + es ≤ L.flatten.length := by
    rw [hfl]
    have := Nat.mul_le_mul_right es (show i + 1 ≤ L.length by omega)
    rw [Nat.add_mul, Nat.one_mul] at this
    exact this
  have hL' : ∀ d ∈ L.set i (setR c k vs), d.length = es := fun d hd => by
    rcases List.mem_or_eq_of_mem_set hd with hd | rfl
    · exact hl d hd
    · rw [setR_len]; exact hc
  generalize hF : L.flatten = F at *
  cases ho with
  | nil => simp at hpos; omega
  | emp => simp at hpos; omega
  | @mk i0 off n cap ex _ ct lo hi0 fl hi' hg hf hlo hhi hcap hn hcc hs h1 he =>
    have hin : i < n := by
      rw [hfl] at hn
      exact Nat.eq_of_mul_eq_mul_right hes hn ▸ hil
    have e := hia .i64
    rw [ia_s hin] at e
    injection e with e
    injection e with eb eo
    subst eb
    subst eo
    have hcn : n * es ≤ cap * es := Nat.mul_le_mul_right _ hcap
    obtain ⟨H', c', q1, q2, q3, q4, q5⟩ := setCells_get vs H i0 (off + i * es + k) ct lo hi0 el fl hg hf (by omega) (by omega) (fun m hm => by
      have := hs (i * es + k + m) (by omega)
      rw [show off + i * es + k + m = off + (i * es + k + m) by omega]
      exact this) hv
    refine ⟨H', q1, ⟨?_, hL'⟩, ⟨by omega, fun j hj hn' => q4 j fun e => hn' (by subst e; rw [rid_s he]; exact .head _)⟩, q2⟩
    rw [hfs]
    refine .mk (by omega) q3 hf hlo hhi hcap (by rw [setR_len]; exact hn) (fun m w hm => ?_) (fun m hm => ?_) (fun w hw => ?_) he
    · rw [q5]
      rw [setR_get _ _ _ _ (by omega)] at hm
      split at hm
      · rw [if_pos (by omega), show off + m - (off + i * es + k) = m - (i * es + k) by omega]; exact hm
      · rw [if_neg (by omega)]; exact hcc m w hm
    · rw [q5]
      split
      · rename_i hb
        rw [List.getElem?_eq_getElem (by omega)]; rfl
      · exact hs m hm
    · obtain ⟨m, hm⟩ := List.getElem?_of_mem hw
      rw [setR_get _ _ _ _ (by omega)] at hm
      split at hm
      · exact hv w (List.mem_of_getElem? hm)
      · exact h1 w (List.mem_of_getElem? hm)
theorem OL.st1 {H : Hp} {el es : Nat} {x : AV} {L : List (List AV)} (h : OL H el es x L) {i k b o : Nat} {c : List AV} {v : AV} (hi : L[i]? = some c) (hia : ∀ kd, ia es x (.int kd i) = some (.ptr b o)) (hv : oneC v = true) (hk : k < es) :
    ∃ H', st 1 (.ptr b (o + k)) v H = some H' ∧ OL H' el es x (L.set i (c.set k v)) ∧ Out (rid x) H H' ∧ H'.next = H.next := by
  obtain ⟨H', h1, h2⟩ := h.stAt (k := k) (vs := [v]) hi hia (fun u hu => by rw [List.mem_singleton] at hu; subst hu; exact hv) (by simp only [List.length_cons, List.length_nil]; omega) (by omega)
  refine ⟨H', ?_, h2⟩
  unfold st
  simp only [cellsV_one hv]
  exact h1
theorem OL.stN {H : Hp} {el es : Nat} {x : AV} {L : List (List AV)} (h : OL H el es x L) {i b o : Nat} {vs : List AV} (hi : i < L.length) (hia : ∀ kd, ia es x (.int kd i) = some (.ptr b o)) (hv : vs.all oneC = true) (hn : vs.length = es) (hes : 0 < es) :
    ∃ H', st es (.ptr b o) (.agg vs) H = some H' ∧ OL H' el es x (L.set i vs) ∧ Out (rid x) H H' ∧ H'.next = H.next := by
  have hi' : L[i]? = some L[i] := List.getElem?_eq_getElem hi
  obtain ⟨H', h1, h2⟩ := h.stAt (k := 0) (vs := vs) hi' hia (List.all_eq_true.1 hv) (by omega) hes
  rw [setR_all vs _ (by rw [hn, h.2 _ (List.mem_of_getElem? hi')])] at h2
  refine ⟨H', ?_, h2⟩
  unfold st
  have : Nat.beq es vs.length = true := by rw [hn]; exact Nat.beq_refl _
  simp only [cellsV_agg, this, cond_true]
  exact h1
end Go.Proofs.YthljbjokonglhaaGreatDoor.Am.K
namespace Go.Proofs.YthljbjokonglhaaGreatDoor.DfK
open Go Am Am.K DfEnv DfM LibP DfG
set_option linter.unusedVariables false
set_option linter.unusedSimpArgs false
set_option maxRecDepth 10000
set_option maxHeartbeats 1000000
/-- how far a task is -/
structure RT where
  ph : Int
  tr : Int
  til : Int
  dat : Str
  deriving DecidableEq
def rtC (t : RT) : List AV := [.int .i64 t.ph, .int .i64 t.tr, .int .i64 t.til, .str t.dat]
def rts (l : List RT) : List (List AV) := l.map rtC
/-- a run -/
structure Rn where
  ts : List Tk
  st : Int
  rs : List RT
  sg : List Str
abbrev rv (dx : AV) (st : Int) (tx sx : AV) : List AV := [dx, .int .i64 st, tx, sx]
structure RV (H : Hp) (dx : AV) (xs : List AV) (tx sx : AV) (R : Rn) : Prop where
  d : RD H dx xs R.ts
  t : RL H 4 tx (rts R.rs)
  s : Rw H 1 sx (strs R.sg)
def fpR (dx : AV) (xs : List AV) (tx sx : AV) : List Nat := fpD dx xs ++ (rid tx ++ rid sx)
theorem RV.out {H H' : Hp} {dx tx sx : AV} {xs : List AV} {R : Rn} {S : List Nat} (h : RV H dx xs tx sx R) (k : Out S H H') (hs : ∀ j ∈ fpR dx xs tx sx, j ∉ S) : RV H' dx xs tx sx R :=
  ⟨h.d.out k fun j hj => hs j (List.mem_append_left _ hj), h.t.out k fun j hj => hs j (List.mem_append_right _ (List.mem_append_left _ hj)), h.s.out k fun j hj => hs j (List.mem_append_right _ (List.mem_append_right _ hj))⟩
theorem RV.out0 {H H' : Hp} {dx tx sx : AV} {xs : List AV} {R : Rn} (h : RV H dx xs tx sx R) (k : Out [] H H') : RV H' dx xs tx sx R := h.out k fun _ _ q => by cases q
theorem RV.lt {H : Hp} {dx tx sx : AV} {xs : List AV} {R : Rn} (h : RV H dx xs tx sx R) : ∀ j ∈ fpR dx xs tx sx, j < H.next := fun j hj => by
  rcases List.mem_append.1 hj with hj | hj
  · exact h.d.lt j hj
  · rcases List.mem_append.1 hj with hj | hj
    · exact h.t.1.lt j hj
    · exact h.s.lt j hj
theorem rts_len (l : List RT) : (rts l).length = l.length := by simp [rts]
theorem rts_get {l : List RT} {i : Nat} {t : RT} (h : l[i]? = some t) : (rts l)[i]? = some (rtC t) := by simp [rts, h]
theorem RV.tlen {H : Hp} {dx tx sx : AV} {xs : List AV} {R : Rn} (h : RV H dx xs tx sx R) : lenx tx = some (.int .i64 (R.rs.length : Nat)) := by
  have := h.t.len (by decide)
  rw [rts_len] at this; exact this
theorem rt_len (t : RT) : (rtC t).length = 4 := rfl
theorem fd_rt (t : RT) : (rtC t)[0]? = some (.int .i64 t.ph) ∧ (rtC t)[1]? = some (.int .i64 t.tr) ∧ (rtC t)[2]? = some (.int .i64 t.til) ∧ (rtC t)[3]? = some (.str t.dat) := ⟨rfl, rfl, rfl, rfl⟩
theorem st_rt (t : RT) (H : Hp) : st 4 (.ptr H.next 0) (.agg (rtC t)) (al H [(.int .i64 0), (.int .i64 0), (.int .i64 0), (.str [])] 51 0) = some (al H (rtC t) 51 0) :=
  st_alN rfl rfl rfl (by decide) rfl
/-! may, held -/
def mayM (R : Rn) (task : Int) : Int := if task < 0 ∨ (R.rs.length : Int) ≤ task then 1 else if R.st = 0 then 0 else 9
theorem may_c {H : Hp} {dx tx sx : AV} {xs : List AV} {R : Rn} (h : RV H dx xs tx sx R) (task : Int) :
    cK (.func (.func 46) [] []) [.agg (rv dx R.st tx sx), .int .i64 task] H = some (.int .i64 (mayM R task), al H (rv dx R.st tx sx) 47 0) := by
  refine c__run_Run_may ?_
  have hl := h.tlen
  have c := al_cs H (rv dx R.st tx sx) 47 0
  have hbx : bx 47 (.agg (rv dx R.st tx sx)) H = some (H.next, al H (rv dx R.st tx sx) 47 0) := bx_alA (by simp)
  have k1 : cellAt (al H (rv dx R.st tx sx) 47 0) H.next 1 = some (.int .i64 R.st) := c.cellAt rfl
  have k2 : cellAt (al H (rv dx R.st tx sx) 47 0) H.next 2 = some tx := c.cellAt rfl
  generalize al H (rv dx R.st tx sx) 47 0 = H1 at *
  unfold s__run_Run_may mayM
  by_cases h1 : task < 0
  · have d1 : decide (task < 0) = true := decide_eq_true h1
    rw [if_pos (.inl h1)]
    simp (disch := (first | assumption | omega | (simp only [k_d, k_c, Nat.reduceAdd, Nat.reduceLeDiff, Nat.reduceLT] <;> fail) | (simp only [k_c]; omega) | (simp only [k_d, k_c, Nat.reduceAdd, Nat.reduceLeDiff, Nat.reduceLT, *] <;> fail) | fail)) only [hbx, d1, k_a, k_b, Nat.reduceAdd, k_s, k_x, Int.reduceBEq, Int.reduceBNe, Int.reduceLT, Int.reduceLE, Int.reduceGT, Int.reduceGE, Int.reduceNeg]
  · have d1 : decide (task < 0) = false := decide_eq_false h1
    by_cases h2 : (R.rs.length : Int) ≤ task
    · have d2 : decide ((R.rs.length : Int) ≤ task) = true := decide_eq_true h2
      rw [if_pos (.inr h2)]
      simp (disch := (first | assumption | omega | (simp only [k_d, k_c, Nat.reduceAdd, Nat.reduceLeDiff, Nat.reduceLT] <;> fail) | (simp only [k_c]; omega) | (simp only [k_d, k_c, Nat.reduceAdd, Nat.reduceLeDiff, Nat.reduceLT, *] <;> fail) | fail)) only [hbx, d1, d2, k1, k2, hl, k_a, k_b, Nat.reduceAdd, k_s, k_x, Int.reduceBEq, Int.reduceBNe, Int.reduceLT, Int.reduceLE, Int.reduceGT, Int.reduceGE, Int.reduceNeg]
    · have d2 : decide ((R.rs.length : Int) ≤ task) = false := decide_eq_false h2
      rw [if_neg (fun q => q.elim h1 h2)]
      by_cases h3 : R.st = 0
      · have d3 : (R.st != 0) = false := by simp [h3]
        rw [if_pos h3]
        simp (disch := (first | assumption | omega | (simp only [k_d, k_c, Nat.reduceAdd, Nat.reduceLeDiff, Nat.reduceLT] <;> fail) | (simp only [k_c]; omega) | (simp only [k_d, k_c, Nat.reduceAdd, Nat.reduceLeDiff, Nat.reduceLT, *] <;> fail) | fail)) only [hbx, d1, d2, d3, k1, k2, hl, k_a, k_b, Nat.reduceAdd, k_s, k_x, Int.reduceBEq, Int.reduceBNe, Int.reduceLT, Int.reduceLE, Int.reduceGT, Int.reduceGE, Int.reduceNeg]
      · have d3 : (R.st != 0) = true := by simp [h3]
        rw [if_neg h3]
        simp (disch := (first | assumption | omega | (simp only [k_d, k_c, Nat.reduceAdd, Nat.reduceLeDiff, Nat.reduceLT] <;> fail) | (simp only [k_c]; omega) | (simp only [k_d, k_c, Nat.reduceAdd, Nat.reduceLeDiff, Nat.reduceLT, *] <;> fail) | fail)) only [hbx, d1, d2, d3, k1, k2, hl, k_a, k_b, Nat.reduceAdd, k_s, k_x, Int.reduceBEq, Int.reduceBNe, Int.reduceLT, Int.reduceLE, Int.reduceGT, Int.reduceGE, Int.reduceNeg]
theorem may_ok {R : Rn} {task : Int} (h : mayM R task = 0) : ∃ (i : Nat) (t : RT), task = i ∧ R.rs[i]? = some t ∧ R.st = 0 := by
  unfold mayM at h
  split at h
  · cases h
  · rename_i h1
    rw [not_or] at h1
    split at h
    · rename_i h2
      exact ⟨task.toNat, R.rs[task.toNat]'(by omega), by omega, List.getElem?_eq_getElem _, h2⟩
    · cases h
def heldM (R : Rn) (task try_ : Int) : Int := if mayM R task = 0 then (match R.rs[task.toNat]? with | some t => if t.ph = 2 ∧ t.tr = try_ then 0 else 8 | none => 0) else mayM R task
theorem held_c {H : Hp} {dx tx sx : AV} {xs : List AV} {R : Rn} (h : RV H dx xs tx sx R) (task try_ : Int) :
    ∃ H', cK (.func (.func 47) [] []) [.agg (rv dx R.st tx sx), .int .i64 task, .int .i64 try_] H = some (.int .i64 (heldM R task try_), H') ∧ Out [] H H' := by
  have c := al_cs H (rv dx R.st tx sx) 47 0
  have o1 := al_out H (rv dx R.st tx sx) 47 0
  have hbx : bx 47 (.agg (rv dx R.st tx sx)) H = some (H.next, al H (rv dx R.st tx sx) 47 0) := bx_alA (by simp)
  have k0 : cellsAt (al H (rv dx R.st tx sx) 47 0) H.next 0 4 = some (rv dx R.st tx sx) := c.cellsAt 4 0 (by simp)
  have hm := may_c (h.out0 o1) task
  have o2 := al_out (al H (rv dx R.st tx sx) 47 0) (rv dx R.st tx sx) 47 0
  have c2 := c.out o2 (by simp)
  have o12 := o1.trans o2
  generalize al H (rv dx R.st tx sx) 47 0 = H1 at *
  generalize al H1 (rv dx R.st tx sx) 47 0 = H2 at *
  have k2 : cellAt H2 H.next 2 = some tx := c2.cellAt rfl
  by_cases h0 : mayM R task = 0
  · obtain ⟨i, t, rfl, ht, hst⟩ := may_ok h0
    have d0 : (mayM R (i : Int) != 0) = false := by simp [h0]
    obtain ⟨b, o, q1, q2, q3, q4, q5⟩ := (h.t.out0 o12).at (by decide) (rts_get ht)
    have hsr := st_rt t H2
    obtain ⟨e0, e1, e2, e3⟩ := fd_rt t
    have o3 := al_out H2 (rtC t) 51 0
    refine ⟨al H2 (rtC t) 51 0, c__run_Run_held ?_, o12.trans o3⟩
    unfold s__run_Run_held heldM
    rw [if_pos h0, Int.toNat_natCast, ht]
    simp only
    by_cases p1 : t.ph = 2
    · have d1 : (t.ph != 2) = false := by simp [p1]
      by_cases p2 : t.tr = try_
      · have d2 : (t.tr != try_) = false := by simp [p2]
        rw [if_pos ⟨p1, p2⟩]
        simp (disch := (first | assumption | omega | (simp only [k_d, k_c, Nat.reduceAdd, Nat.reduceLeDiff, Nat.reduceLT] <;> fail) | (simp only [k_c]; omega) | (simp only [k_d, k_c, Nat.reduceAdd, Nat.reduceLeDiff, Nat.reduceLT, *] <;> fail) | fail)) only [hbx, k0, hm, d0, k2, q1, q4, hsr, e0, e1, d1, d2, k_a, k_b, Nat.reduceAdd, k_s, k_x, Int.reduceBEq, Int.reduceBNe, Int.reduceLT, Int.reduceLE, Int.reduceGT, Int.reduceGE, Int.reduceNeg]
      · have d2 : (t.tr != try_) = true := by simp [p2]
        rw [if_neg (fun q => p2 q.2)]
        simp (disch := (first | assumption | omega | (simp only [k_d, k_c, Nat.reduceAdd, Nat.reduceLeDiff, Nat.reduceLT] <;> fail) | (simp only [k_c]; omega) | (simp only [k_d, k_c, Nat.reduceAdd, Nat.reduceLeDiff, Nat.reduceLT, *] <;> fail) | fail)) only [hbx, k0, hm, d0, k2, q1, q4, hsr, e0, e1, d1, d2, k_a, k_b, Nat.reduceAdd, k_s, k_x, Int.reduceBEq, Int.reduceBNe, Int.reduceLT, Int.reduceLE, Int.reduceGT, Int.reduceGE, Int.reduceNeg]
    · have d1 : (t.ph != 2) = true := by simp [p1]
      rw [if_neg (fun q => p1 q.1)]
      simp (disch := (first | assumption | omega | (simp only [k_d, k_c, Nat.reduceAdd, Nat.reduceLeDiff, Nat.reduceLT] <;> fail) | (simp only [k_c]; omega) | (simp only [k_d, k_c, Nat.reduceAdd, Nat.reduceLeDiff, Nat.reduceLT, *] <;> fail) | fail)) only [hbx, k0, hm, d0, k2, q1, q4, hsr, e0, e1, d1, k_a, k_b, Nat.reduceAdd, k_s, k_x, Int.reduceBEq, Int.reduceBNe, Int.reduceLT, Int.reduceLE, Int.reduceGT, Int.reduceGE, Int.reduceNeg]
  · have d0 : (mayM R task != 0) = true := by simp [h0]
    refine ⟨H2, c__run_Run_held ?_, o12⟩
    unfold s__run_Run_held heldM
    rw [if_neg h0]
    simp (disch := (first | assumption | omega | (simp only [k_d, k_c, Nat.reduceAdd, Nat.reduceLeDiff, Nat.reduceLT] <;> fail) | (simp only [k_c]; omega) | (simp only [k_d, k_c, Nat.reduceAdd, Nat.reduceLeDiff, Nat.reduceLT, *] <;> fail) | fail)) only [hbx, k0, hm, d0, k_a, k_b, Nat.reduceAdd, k_s, k_x, Int.reduceBEq, Int.reduceBNe, Int.reduceLT, Int.reduceLE, Int.reduceGT, Int.reduceGE, Int.reduceNeg]
theorem held_ok {R : Rn} {task try_ : Int} (h : heldM R task try_ = 0) : ∃ (i : Nat) (t : RT), task = i ∧ R.rs[i]? = some t ∧ R.st = 0 ∧ t.ph = 2 ∧ t.tr = try_ := by
  unfold heldM at h
  split at h
  · rename_i h1
    obtain ⟨i, t, rfl, ht, hst⟩ := may_ok h1
    rw [Int.toNat_natCast, ht] at h
    simp only at h
    split at h
    · rename_i h2; exact ⟨i, t, rfl, ht, hst, h2.1, h2.2⟩
    · cases h
  · rename_i h1; exact absurd h h1
end Go.Proofs.YthljbjokonglhaaGreatDoor.DfK
namespace Go.Proofs.YthljbjokonglhaaGreatDoor.DfK
open Go Am Am.K DfEnv DfM LibP DfG
set_option linter.unusedVariables false
set_option linter.unusedSimpArgs false
set_option maxRecDepth 10000
set_option maxHeartbeats 1000000
theorem sameS_rw {H : Hp} {es : Nat} {x : AV} {l : List AV} (h : Rw H es x l) : sameS x x = true := by
  cases h <;> simp [sameS]
theorem same_rw {H : Hp} {es : Nat} {x : AV} {l : List AV} (h : Rw H es x l) : same x x = true := by
  cases h <;> simp [same, sameS]
theorem same_i (k : IntKind) (a : Int) : same (.int k a) (.int k a) = true := by cases k <;> simp [same, sameS]
theorem tk_one {t : Tk} {x : AV} (hx : oneC x = true) : ∀ v ∈ tkC t x, oneC v = true := by
  intro v hv
  simp only [tkC, List.mem_cons, List.not_mem_nil, or_false] at hv
  rcases hv with rfl | rfl | rfl | rfl | rfl | rfl <;> first | rfl | exact hx
theorem RD.ones {H : Hp} {dx : AV} {xs : List AV} {ts : List Tk} (h : RD H dx xs ts) : ∀ v ∈ (List.zipWith tkC ts xs).flatten, oneC v = true := by
  intro v hv
  obtain ⟨c, hc, hv⟩ := List.mem_flatten.1 hv
  obtain ⟨i, hi⟩ := List.getElem?_of_mem hc
  rw [List.getElem?_zipWith] at hi
  cases ht : ts[i]? with
  | none => rw [ht] at hi; simp at hi
  | some t =>
    cases hx : xs[i]? with
    | none => rw [ht, hx] at hi; simp at hi
    | some x =>
      rw [ht, hx] at hi
      simp only [Option.some.injEq] at hi
      subst hi
      exact tk_one (h.aft i x t hx ht).one v hv
theorem rts_ones (l : List RT) : ∀ v ∈ (rts l).flatten, oneC v = true := by
  intro v hv
  obtain ⟨c, hc, hv⟩ := List.mem_flatten.1 hv
  obtain ⟨t, _, rfl⟩ := List.mem_map.1 hc
  simp only [rtC, List.mem_cons, List.not_mem_nil, or_false] at hv
  rcases hv with rfl | rfl | rfl | rfl <;> rfl
theorem zip_six {ts : List Tk} {xs : List AV} : ∀ c ∈ List.zipWith tkC ts xs, c.length = 6 := by
  intro c hc
  obtain ⟨i, hi⟩ := List.getElem?_of_mem hc
  rw [List.getElem?_zipWith] at hi
  cases ht : ts[i]? with
  | none => rw [ht] at hi; simp at hi
  | some t =>
    cases hx : xs[i]? with
    | none => rw [ht, hx] at hi; simp at hi
    | some x =>
      rw [ht, hx] at hi
      simp only [Option.some.injEq] at hi
      subst hi; rfl
theorem rts_four (l : List RT) : ∀ c ∈ rts l, c.length = 4 := fun c hc => by
  obtain ⟨t, _, rfl⟩ := List.mem_map.1 hc; rfl
theorem zip_set {ts : List Tk} {xs : List AV} {i : Nat} {t : Tk} {x y : AV} (ht : ts[i]? = some t) (hx : xs[i]? = some x) : (List.zipWith tkC ts xs).set i ((tkC t x).set 1 y) = List.zipWith tkC ts (xs.set i y) := by
  apply List.ext_getElem?
  intro k
  rw [List.getElem?_set, List.getElem?_zipWith, List.getElem?_zipWith, List.getElem?_set]
  have hil := (List.getElem?_eq_some_iff.1 ht).1
  have hxl := (List.getElem?_eq_some_iff.1 hx).1
  by_cases e : i = k
  · subst e
    rw [if_pos rfl, if_pos rfl, if_pos hxl, if_pos (by rw [List.length_zipWith]; omega), ht]; rfl
  · rw [if_neg e, if_neg e]
theorem clone_loop {ts : List Tk} {dx x31 : AV} {P B : Nat} (hn : ts.length ≤ 1000) (hal : ∀ t ∈ ts, t.after.length ≤ 1000) : ∀ (r : List Tk) (i : Nat) (H : Hp) (xk : List AV), i ≤ ts.length → ts.drop i = r → RD H dx xk ts → OL H 43 6 dx (List.zipWith tkC ts xk) → cellAt H P 0 = some dx → P < H.next → B ≤ H.next → P ∉ rid dx → (∀ x ∈ xk, ∀ j ∈ rid x, j ∉ rid dx) → (∀ (m : Nat) (x : AV), m < i → xk[m]? = some x → ∀ j ∈ rid x, B ≤ j) →
    ∃ xk' H', (∀ j28 : K.Fn 2, l__run_Run_clone JN GO cK j28 (.ptr P 0) x31 dx (.int .i64 (ts.length : Nat)) (.int .i64 (i : Nat)) H = j28 (.ptr P 0) x31 H') ∧ RD H' dx xk' ts ∧ (∀ x ∈ xk', ∀ j ∈ rid x, B ≤ j ∧ j ∉ rid dx) ∧ Out (rid dx) H H'
  | [], i, H, xk, hi, h, hR, hO, hP, hPl, hB, hPd, hd, hb => by
    obtain rfl := drop_nil hi h
    refine ⟨xk, H, fun j28 => ?_, hR, fun x hx j hj => ⟨?_, hd x hx j hj⟩, Out.refl _ _⟩
    · rw [ql__run_Run_clone]
      simp only [bl__run_Run_clone, lt_f, k_s, k_x, Int.reduceBEq, Int.reduceBNe, Int.reduceLT, Int.reduceLE, Int.reduceGT, Int.reduceGE, Int.reduceNeg]
    · obtain ⟨m, hm⟩ := List.getElem?_of_mem hx
      have := (List.getElem?_eq_some_iff.1 hm).1
      rw [hR.len] at this
      exact hb m x this hm j hj
  | t :: r, i, H, xk, hi, h, hR, hO, hP, hPl, hB, hPd, hd, hb => by
    obtain ⟨h1, h2, h3⟩ := hd_drop h
    have ht := List.mem_of_getElem? h2
    obtain ⟨x, b, o, q0, q1, q2, q3, q4, q5, q6⟩ := hR.at h2
    have es := wrap_s h1 (by omega)
    have o1 := al_out H (tkC t x) 43 0
    have hst := st_tk t x q1 H
    obtain ⟨e0, e1, e2, e3, e4, e5⟩ := fd_tk t x
    obtain ⟨y, H2, y1, y2, y3, y4, y5⟩ := cloneInt_c (q2.out0 o1) (fun v hv => by obtain ⟨z, _, rfl⟩ := List.mem_map.1 hv; rfl) (by rw [ints_len]; have := hal t ht; omega)
    have o2 := o1.trans y3
    have hn2 := o2.nx
    have hdl := hR.row.1.lt
    have hO2 := hO.out o2 (by simp)
    have hzi : (List.zipWith tkC ts xk)[i]? = some (tkC t x) := by rw [List.getElem?_zipWith, h2, q0]
    obtain ⟨H3, w1, w2, w3, w4⟩ := hO2.st1 (k := 1) hzi q3 y2.oneX (by decide)
    rw [zip_set h2 q0] at w2
    have hP1 : cellAt (al H (tkC t x) 43 0) P 0 = some dx := by rw [cellAt_al_ne hPl]; exact hP
    have hP2 : cellAt H2 P 0 = some dx := by rw [o2.cellAt hPl (by simp)]; exact hP
    have hP3 : cellAt H3 P 0 = some dx := by rw [w3.cellAt (by omega) hPd]; exact hP2
    have hxil := (List.getElem?_eq_some_iff.1 q0).1
    have hyd : ∀ j ∈ rid y, j ∉ rid dx := fun j hj z => by have := y4 j hj; rw [al_nx] at this; have := hdl j z; omega
    have hyb : ∀ j ∈ rid y, B ≤ j := fun j hj => by have := y4 j hj; rw [al_nx] at this; omega
    have hR3 : RD H3 dx (xk.set i y) ts := by
      refine ⟨by rw [List.length_set]; exact hR.len, w2.rl, fun m z u hz hu => ?_⟩
      rw [List.getElem?_set] at hz
      split at hz
      · rename_i e
        subst e
        cases hz
        rw [h2] at hu; cases hu
        exact y2.rw.out w3 hyd
      · exact ((hR.aft m z u hz hu).out0 o2).out w3 (hd z (List.mem_of_getElem? hz))
    obtain ⟨xk', H', i1, i2, i3, i4⟩ := clone_loop (x31 := x31) (P := P) (B := B) hn hal r (i + 1) H3 (xk.set i y) h1 h3 hR3 w2 hP3 (by omega) (by omega) hPd (fun z hz => by
      rcases List.mem_or_eq_of_mem_set hz with hz | rfl
      · exact hd z hz
      · exact hyd) (fun m z hm hz => by
      rw [List.getElem?_set] at hz
      split at hz
      · cases hz
        exact hyb
      · exact hb m z (by omega) hz)
    refine ⟨xk', H', fun j28 => ?_, i2, i3, ((o2.mono fun j hj => by cases hj).trans w3).trans i4⟩
    rw [ql__run_Run_clone]
    simp (disch := (first | assumption | omega | (simp only [k_d, k_c, Nat.reduceAdd, Nat.reduceLeDiff, Nat.reduceLT] <;> fail) | (simp only [k_c]; omega) | (simp only [k_d, k_c, Nat.reduceAdd, Nat.reduceLeDiff, Nat.reduceLT, *] <;> fail) | fail)) only [bl__run_Run_clone, lt_t h1, q3, q5, hst, hP1, e1, y1, w1, hP2, SM_t (same_rw hR.row.1), es, i1, k_a, k_b, Nat.reduceAdd, k_s, k_x, Int.reduceBEq, Int.reduceBNe, Int.reduceLT, Int.reduceLE, Int.reduceGT, Int.reduceGE, Int.reduceNeg]
/-- a run of one's own -/
structure RO (H : Hp) (dx : AV) (xs : List AV) (tx sx : AV) (R : Rn) : Prop where
  v : RV H dx xs tx sx R
  t : OL H 51 4 tx (rts R.rs)
  s : Ow H 9 1 sx (strs R.sg)
  dt : ∀ j ∈ rid tx, j ∉ fpD dx xs ∧ j ∉ rid sx
  ds : ∀ j ∈ rid sx, j ∉ fpD dx xs
/-- a run is not too great -/
structure Sm (R : Rn) : Prop where
  n : R.ts.length ≤ 1000
  a : ∀ t ∈ R.ts, t.after.length ≤ 1000
  r : R.rs.length ≤ 1000
  s : R.sg.length ≤ 1000
theorem clone_c {H : Hp} {dx tx sx : AV} {xs : List AV} {R : Rn} (h : RV H dx xs tx sx R) (hs : Sm R) :
    ∃ dx' xs' tx' sx' H', cK (.func (.func 44) [] []) [.agg (rv dx R.st tx sx)] H = some (.agg (rv dx' R.st tx' sx'), H') ∧ RO H' dx' xs' tx' sx' R ∧ Out [] H H' ∧ ∀ j ∈ fpR dx' xs' tx' sx', H.next ≤ j := by
  have hbx : bx 47 (.agg (rv dx R.st tx sx)) H = some (H.next, al H (rv dx R.st tx sx) 47 0) := bx_alA (by simp)
  have o1 := al_out H (rv dx R.st tx sx) 47 0
  have c1 := al_cs H (rv dx R.st tx sx) 47 0
  have n1 : (al H (rv dx R.st tx sx) 47 0).next = H.next + 1 := rfl
  generalize al H (rv dx R.st tx sx) 47 0 = H1 at *
  have hnc : newCells H1 [.slice0, (.int .i64 0), .slice0, .slice0] 47 0 = some (H.next + 1, al H1 [.slice0, (.int .i64 0), .slice0, .slice0] 47 0) := by rw [← n1]; exact newCells_al (by simp)
  have o2 := al_out H1 [.slice0, (.int .i64 0), .slice0, .slice0] 47 0
  have c2 := al_cs H1 [.slice0, (.int .i64 0), .slice0, .slice0] 47 0
  have n2 : (al H1 [.slice0, (.int .i64 0), .slice0, .slice0] 47 0).next = H.next + 2 := by rw [al_nx, n1]
  rw [n1] at c2
  generalize hA2 : al H1 [.slice0, (.int .i64 0), .slice0, .slice0] 47 0 = H2 at *
  have o12 := o1.trans o2
  have cP2 := c1.out o2 (by simp)
  have hv2 := h.out0 o12
  have k1 : cellAt H2 H.next 0 = some dx := cP2.cellAt rfl
  have hR2 := hv2.d
  have hfl : (List.zipWith tkC R.ts xs).flatten.length ≤ 6000 := by
    rw [flatten_len zip_six, List.length_zipWith]
    have := hs.n
    have : min R.ts.length xs.length ≤ 1000 := Nat.le_trans (Nat.min_le_left _ _) hs.n
    omega
  obtain ⟨dx', H3, a1, a2, a3, a4, a5⟩ := cloneTask_c hR2.row.1 hR2.ones (by omega)
  have cP3 := cP2.out a3 (by simp)
  have hd1 : oneC dx' = true := a2.oneX
  obtain ⟨H4, b1, b2, b3, b4⟩ := st1 cP3 (by decide) (o := 0) (by simp) (v := dx') hd1
  have hs1 : (rv dx R.st tx sx).set 0 dx' = rv dx' R.st tx sx := rfl
  rw [hs1] at b2
  have n3 := a3.nx
  have hPd : H.next ∉ rid dx' := fun z => by have := a4 _ z; omega
  have hP4 : cellAt H4 H.next 0 = some dx' := b2.cellAt rfl
  have hR3 := hR2.out0 a3
  have hlt2 := hR2.lt
  have hlt0 := h.d.lt
  have hR4 : RD H4 dx' xs R.ts := ⟨hR3.len, (show OL H3 43 6 dx' (List.zipWith tkC R.ts xs) from ⟨a2, zip_six⟩).rl.out b3 (fun j hj => by rw [List.mem_singleton]; intro e; subst e; exact hPd hj), fun m z u hz hu => (hR3.aft m z u hz hu).out b3 fun j hj => by
    rw [List.mem_singleton]
    have := (h.d.aft m z u hz hu).lt j hj
    omega⟩
  have hO4 : OL H4 43 6 dx' (List.zipWith tkC R.ts xs) := (show OL H3 43 6 dx' (List.zipWith tkC R.ts xs) from ⟨a2, zip_six⟩).out b3 (fun j hj => by rw [List.mem_singleton]; intro e; subst e; exact hPd hj)
  have hdl := hR4.lenx
  obtain ⟨xs', H5, l1, l2, l3, l4⟩ := clone_loop (x31 := .ptr (H.next + 1) 0) (P := H.next) (B := H.next + 2) hs.n hs.a R.ts 0 H4 xs (Nat.zero_le _) List.drop_zero hR4 hO4 hP4 b2.1 (by omega) hPd (fun x hx j hj z => by
    obtain ⟨m, hm⟩ := List.getElem?_of_mem hx
    have hml := (List.getElem?_eq_some_iff.1 hm).1
    rw [h.d.len] at hml
    have := (h.d.aft m x _ hm (List.getElem?_eq_getElem hml)).lt j hj
    have := a4 j z
    omega) (fun m x hm => by omega)
  rw [show (((0 : Nat) : Int)) = 0 from rfl] at l1
  have cP5 := b2.out l4 hPd
  have n5 := l4.nx
  have lowT : ∀ {S : List Nat} {A B : Hp}, Out S A B → True := fun _ => trivial
  have o25 : Out (H.next :: rid dx') H2 H5 := ((a3.mono (S' := H.next :: rid dx') fun j hj => by cases hj).trans (b3.mono fun j hj => by rw [List.mem_singleton] at hj; subst hj; exact .head _)).trans (l4.mono fun j hj => .tail _ hj)
  have hnotin : ∀ j, j < H.next → j ∉ H.next :: rid dx' := fun j hj z => by
    rcases List.mem_cons.1 z with e | z
    · omega
    · have := a4 j z; omega
  have ht5 : RL H5 4 tx (rts R.rs) := hv2.t.out o25 fun j hj => hnotin j (h.t.1.lt j hj)
  have hs5 : Rw H5 1 sx (strs R.sg) := hv2.s.out o25 fun j hj => hnotin j (h.s.lt j hj)
  have k2 : cellAt H5 H.next 2 = some tx := cP5.cellAt rfl
  obtain ⟨tx', H6, t1, t2, t3, t4, t5⟩ := cloneRTask_c ht5.1 (rts_ones R.rs) (by rw [flatten_len (rts_four _), rts_len]; have := hs.r; omega)
  have cP6 := cP5.out t3 (by simp)
  obtain ⟨H7, u1, u2, u3, u4⟩ := st1 cP6 (by decide) (o := 2) (by simp) (v := tx') t2.oneX
  have hs2 : (rv dx' R.st tx sx).set 2 tx' = rv dx' R.st tx' sx := rfl
  rw [hs2] at u2
  have n6 := t3.nx
  have k3 : cellAt H7 H.next 3 = some sx := u2.cellAt rfl
  have hP7 : ∀ j, H.next + 2 ≤ j ∨ j < H.next → j ∉ [H.next] := fun j hj => by rw [List.mem_singleton]; omega
  have hs7 : Rw H7 1 sx (strs R.sg) := (hs5.out0 t3).out u3 fun j hj => hP7 j (.inr (h.s.lt j hj))
  obtain ⟨sx', H8, v1, v2, v3, v4, v5⟩ := cloneStr_c hs7 (fun v hv => by obtain ⟨z, _, rfl⟩ := List.mem_map.1 hv; rfl) (by rw [strs_len]; have := hs.s; omega)
  have cP8 := u2.out v3 (by simp)
  obtain ⟨H9, w1, w2, w3, w4⟩ := st1 cP8 (by decide) (o := 3) (by simp) (v := sx') v2.oneX
  have hs3 : (rv dx' R.st tx' sx).set 3 sx' = rv dx' R.st tx' sx' := rfl
  rw [hs3] at w2
  have n8 := v3.nx
  have k4 : cellsAt H9 H.next 0 4 = some (rv dx' R.st tx' sx') := w2.cellsAt 4 0 (by simp)
  -- the result's cell
  have hQd : H.next + 1 ∉ rid dx' := fun z => by have := a4 _ z; omega
  have hQ : ∀ S : List Nat, S = [H.next] → H.next + 1 ∉ S := fun S e => by rw [e, List.mem_singleton]; omega
  have cQ9 := (((((((c2.out a3 (by simp)).out b3 (hQ _ rfl)).out l4 hQd).out t3 (by simp)).out u3 (hQ _ rfl)).out v3 (by simp)).out w3 (hQ _ rfl))
  obtain ⟨H10, z1, z2, z3, z4⟩ := stAll (n := 4) (vs := rv dx' R.st tx' sx') cQ9 rfl rfl (by simp [hd1, t2.oneX, v2.oneX, oneC_i])
  have k5 : cellsAt H10 (H.next + 1) 0 4 = some (rv dx' R.st tx' sx') := z2.cellsAt 4 0 (by simp)
  have hT6 : OL H6 51 4 tx' (rts R.rs) := ⟨t2, rts_four _⟩
  have n7 := u3.nx
  have n9 := w3.nx
  have hi2 : ∀ j, H.next + 2 ≤ j → j ∉ [H.next] ∧ j ∉ [H.next + 1] := fun j hj => by rw [List.mem_singleton, List.mem_singleton]; omega
  have hd' : ∀ j ∈ fpD dx' xs', H.next + 2 ≤ j ∧ j < H5.next := fun j hj => ⟨by
    rcases List.mem_append.1 hj with hj | hj
    · have := a4 j hj; omega
    · obtain ⟨x, hx, hj⟩ := List.mem_flatMap.1 hj
      exact (l3 x hx j hj).1, l2.lt j hj⟩
  have ht' : ∀ j ∈ rid tx', H5.next ≤ j ∧ j < H6.next := fun j hj => ⟨t4 j hj, t2.rw.lt j hj⟩
  have hs' : ∀ j ∈ rid sx', H7.next ≤ j := v4
  have n45 : H.next + 2 ≤ H5.next := by omega
  have hT10 : OL H10 51 4 tx' (rts R.rs) := (((hT6.out u3 fun j hj => (hi2 j (by have := ht' j hj; omega)).1).out v3 (by simp)).out w3 fun j hj => (hi2 j (by have := ht' j hj; omega)).1).out z3 fun j hj => (hi2 j (by have := ht' j hj; omega)).2
  have hS10 : Ow H10 9 1 sx' (strs R.sg) := (v2.out w3 fun j hj => (hi2 j (by have := hs' j hj; omega)).1).out z3 fun j hj => (hi2 j (by have := hs' j hj; omega)).2
  have hD10 : RD H10 dx' xs' R.ts := ((((l2.out0 t3).out u3 fun j hj => (hi2 j (hd' j hj).1).1).out0 v3).out w3 fun j hj => (hi2 j (hd' j hj).1).1).out z3 fun j hj => (hi2 j (hd' j hj).1).2
  have key : ∀ {S : List Nat} {A B : Hp}, Out [] H A → Out S A B → (∀ j ∈ S, H.next ≤ j) → Out [] H B := fun h k hS => h.then k fun j hj => .inr (hS j hj)
  have one : ∀ (m : Nat), H.next ≤ m → ∀ j ∈ [m], H.next ≤ j := fun m hm j hj => by rw [List.mem_singleton] at hj; omega
  have out : Out [] H H10 := key (key (key (key (key (key (key (key o12 a3 (fun j hj => by cases hj)) b3 (one _ (Nat.le_refl _))) l4 fun j hj => by have := a4 j hj; omega) t3 (fun j hj => by cases hj)) u3 (one _ (Nat.le_refl _))) v3 (fun j hj => by cases hj)) w3 (one _ (Nat.le_refl _))) z3 (one _ (Nat.le_succ _))
  refine ⟨dx', xs', tx', sx', H10, c__run_Run_clone ?_, ⟨⟨hD10, hT10.rl, hS10.rw⟩, hT10, hS10, fun j hj => ⟨fun z => ?_, fun z => ?_⟩, fun j hj z => ?_⟩, out, fun j hj => ?_⟩
  · unfold s__run_Run_clone
    simp (disch := (first | assumption | omega | (simp only [k_d, k_c, Nat.reduceAdd, Nat.reduceLeDiff, Nat.reduceLT] <;> fail) | (simp only [k_c]; omega) | (simp only [k_d, k_c, Nat.reduceAdd, Nat.reduceLeDiff, Nat.reduceLT, *] <;> fail) | fail)) only [hbx, hnc, n1, hA2, k1, a1, b1, hP4, hdl, l1, k2, t1, u1, k3, v1, w1, k4, z1, k5, k_a, k_b, Nat.reduceAdd, k_s, k_x, Int.reduceBEq, Int.reduceBNe, Int.reduceLT, Int.reduceLE, Int.reduceGT, Int.reduceGE, Int.reduceNeg]
  · have := ht' j hj; have := hd' j z; omega
  · have := ht' j hj; have := hs' j z; omega
  · have := hs' j hj; have := hd' j z; omega
  · rcases List.mem_append.1 hj with hj | hj
    · have := hd' j hj; omega
    · rcases List.mem_append.1 hj with hj | hj
      · have := ht' j hj; omega
      · have := hs' j hj; omega
end Go.Proofs.YthljbjokonglhaaGreatDoor.DfK
namespace Go.Proofs.YthljbjokonglhaaGreatDoor.DfK
open Go Am Am.K DfEnv DfM LibP DfG
set_option linter.unusedVariables false
set_option linter.unusedSimpArgs false
set_option maxRecDepth 10000
set_option maxHeartbeats 1000000
def phN (rs : List RT) (a : Int) : Int := ((rs[a.toNat]?).map (·.ph)).getD 0
def blk (rs : List RT) (t : Tk) : Bool := t.after.any (fun a => phN rs a != 3)
def rdy (rs : List RT) (sg : List Str) (t : Tk) (r : RT) : Bool := (r.ph == 0) && (!(blk rs t) && ((t.on == []) || sg.any (fun a => t.on == a)))
def settleT (rs : List RT) (sg : List Str) (t : Tk) (r : RT) : RT := if rdy rs sg t r then { r with ph := 1 } else r
def settleM (R : Rn) : Rn := { R with rs := List.zipWith (settleT R.rs R.sg) R.ts R.rs, st := if R.rs.all (fun r => r.ph == 3) then 1 else R.st }
theorem settleT_ph (rs : List RT) (sg : List Str) (t : Tk) (r : RT) : ((settleT rs sg t r).ph == 3) = (r.ph == 3) := by
  unfold settleT
  split
  · rename_i h
    unfold rdy at h
    rw [Bool.and_eq_true, beq_iff_eq] at h
    rw [h.1]; rfl
  · rfl
theorem any_congr' {α : Type} {p q : α → Bool} : ∀ {l : List α}, (∀ a ∈ l, p a = q a) → l.any p = l.any q
  | [], _ => rfl
  | a :: l, h => by rw [List.any_cons, List.any_cons, h a (.head _), any_congr' fun b hb => h b (.tail _ hb)]
theorem settle1_c {H : Hp} {p G : Nat} {tx : AV} {rk : List RT} (hG : cellAt H G 0 = some (.ptr p 0)) (hC : cellAt H p 2 = some tx) (hT : RL H 4 tx (rts rk)) {a : Int} (h0 : 0 ≤ a) (h1 : a < rk.length) :
    cK (.func (.func 78) [] [.ptr G 0]) [.int .i64 a] H = some (.bool (phN rk a != 3), H) := by
  obtain ⟨m, rfl⟩ : ∃ m : Nat, a = m := ⟨a.toNat, by omega⟩
  have hm : rk[m]? = some (rk[m]'(by omega)) := List.getElem?_eq_getElem _
  obtain ⟨b, o, q1, q2, q3, q4, q5⟩ := hT.at (by decide) (rts_get hm)
  have e0 := q5 0 _ (fd_rt _).1
  rw [Nat.add_zero] at e0
  have hp : phN rk (m : Int) = (rk[m]'(by omega)).ph := by unfold phN; rw [Int.toNat_natCast, hm]; rfl
  refine c_run_Run_settle_1 ?_
  unfold s_run_Run_settle_1
  rw [hp]
  simp (disch := (first | assumption | omega | (simp only [k_d, k_c, Nat.reduceAdd, Nat.reduceLeDiff, Nat.reduceLT] <;> fail) | (simp only [k_c]; omega) | (simp only [k_d, k_c, Nat.reduceAdd, Nat.reduceLeDiff, Nat.reduceLT, *] <;> fail) | fail)) only [hG, hC, q1, e0, k_a, k_b, Nat.reduceAdd, k_s, k_x, Int.reduceBEq, Int.reduceBNe, Int.reduceLT, Int.reduceLE, Int.reduceGT, Int.reduceGE, Int.reduceNeg]
theorem rts_set (l : List RT) (i : Nat) (t : RT) : (rts l).set i (rtC t) = rts (l.set i t) := by simp [rts, List.map_set]
theorem settle_loop {ts : List Tk} {dx tx sx : AV} {xs : List AV} {st : Int} {p G : Nat} {sg : List Str} {rs0 : List RT} (hn : ts.length ≤ 1000) (hal : ∀ t ∈ ts, t.after.length ≤ 1000) (hsg : sg.length ≤ 1000) (hr0 : rs0.length = ts.length) (ha : ∀ t ∈ ts, ∀ a ∈ t.after, 0 ≤ a ∧ a < (ts.length : Int)) (hpt : p ∉ rid tx) (hGt : G ∉ rid tx) (hd : ∀ j ∈ rid tx, j ∉ fpD dx xs ∧ j ∉ rid sx) :
    ∀ (r : List Tk) (i : Nat) (H : Hp) (rk : List RT) (all : Bool), i ≤ ts.length → ts.drop i = r → Cs H p (rv dx st tx sx) 47 0 → cellAt H G 0 = some (.ptr p 0) → G < H.next → RD H dx xs ts → OL H 51 4 tx (rts rk) → Rw H 1 sx (strs sg) → rk.length = ts.length → (∀ k, i ≤ k → rk[k]? = rs0[k]?) → (∀ k, k < i → rk[k]? = (List.zipWith (settleT rs0 sg) ts rs0)[k]?) →
    ∃ H', (∀ j16 : K.Fn 2, l_run_Run_settle JN GO cK j16 (.ptr G 0) (.bool all) dx (.int .i64 (ts.length : Nat)) (.int .i64 (i : Nat)) H = j16 (.ptr G 0) (.bool (all && (rs0.drop i).all (fun r => r.ph == 3))) H') ∧ Cs H' p (rv dx st tx sx) 47 0 ∧ cellAt H' G 0 = some (.ptr p 0) ∧ OL H' 51 4 tx (rts (List.zipWith (settleT rs0 sg) ts rs0)) ∧ Out (rid tx) H H'
  | [], i, H, rk, all, hi, h, hC, hG, hGl, hR, hO, hS, hl, h1, h2 => by
    obtain rfl := drop_nil hi h
    have hrk : rk = List.zipWith (settleT rs0 sg) ts rs0 := by
      apply List.ext_getElem?
      intro k
      by_cases hk : k < ts.length
      · exact h2 k hk
      · rw [List.getElem?_eq_none (by omega), List.getElem?_eq_none (by rw [List.length_zipWith]; omega)]
    refine ⟨H, fun j16 => ?_, hC, hG, by rw [← hrk]; exact hO, Out.refl _ _⟩
    rw [ql_run_Run_settle, List.drop_eq_nil_of_le (by omega), List.all_nil, Bool.and_true]
    simp only [bl_run_Run_settle, lt_f, k_s, k_x, Int.reduceBEq, Int.reduceBNe, Int.reduceLT, Int.reduceLE, Int.reduceGT, Int.reduceGE, Int.reduceNeg]
  | t :: r, i, H, rk, all, hi, h, hC, hG, hGl, hR, hO, hS, hl, h1, h2 => by
    obtain ⟨g1, g2, g3⟩ := hd_drop h
    have ht := List.mem_of_getElem? g2
    obtain ⟨x, b, o, q0, q1, q2, q3, q4, q5, q6⟩ := hR.at g2
    have es := wrap_s g1 (by omega)
    have hst := st_tk t x q1 H
    obtain ⟨e0, e1, e2, e3, e4, e5⟩ := fd_tk t x
    have o1 := al_out H (tkC t x) 43 0
    have cT := al_cs H (tkC t x) 43 0
    have hcell : ∀ H' : Hp, Out [] H H' → cellAt H' G 0 = some (.ptr p 0) ∧ cellAt H' p 2 = some tx ∧ cellAt H' p 3 = some sx := fun H' k => ⟨by rw [k.cellAt hGl (by simp)]; exact hG, (hC.out k (by simp)).cellAt rfl, (hC.out k (by simp)).cellAt rfl⟩
    obtain ⟨H2, f1, f2⟩ := containsFuncint_c (fv := .func (.func 78) [] [.ptr G 0]) (p := fun a => phN rk a != 3) (q2.out0 o1) (by have := hal t ht; omega) (fun H' k a hm => by
      obtain ⟨c1, c2, c3⟩ := hcell H' (o1.trans k)
      exact ⟨H', settle1_c c1 c2 (hO.rl.out0 (o1.trans k)) (ha t ht a hm).1 (by rw [hl]; exact (ha t ht a hm).2), Out.refl _ _⟩)
    have o2 := o1.trans f2
    have hn2 := o2.nx
    obtain ⟨c1, c2, c3⟩ := hcell H2 o2
    have cT2 := cT.out f2 (by simp)
    have k5 : cellAt H2 H.next 5 = some (.str t.on) := cT2.cellAt e5
    have kx : cellAt (al H (tkC t x) 43 0) H.next 1 = some x := cT.cellAt e1
    have hil : i < rs0.length := by omega
    have hri : rs0[i]? = some (rs0[i]'hil) := List.getElem?_eq_getElem _
    have hrk : rk[i]? = some (rs0[i]'hil) := by rw [h1 i (Nat.le_refl _), hri]
    have hdr : rs0.drop i = (rs0[i]'hil) :: rs0.drop (i + 1) := (List.getElem_cons_drop hil).symm
    generalize rs0[i]'hil = u at *
    obtain ⟨b', o', p1, p2, p3, p4, p5⟩ := (hO.rl.out0 o2).at (by decide) (rts_get hrk)
    have u0 := p5 0 _ (fd_rt u).1
    rw [Nat.add_zero] at u0
    have hblk : (t.after.any fun a => phN rk a != 3) = blk rs0 t := by
      unfold blk
      refine any_congr' fun a hm => ?_
      obtain ⟨a0, a1⟩ := ha t ht a hm
      unfold phN
      by_cases hk : a.toNat < i
      · have hz := h2 _ hk
        rw [List.getElem?_zipWith, List.getElem?_eq_getElem (show a.toNat < ts.length by omega), List.getElem?_eq_getElem (show a.toNat < rs0.length by omega)] at hz
        rw [hz, List.getElem?_eq_getElem (show a.toNat < rs0.length by omega)]
        simp only [Option.map_some, Option.getD_some]
        have := settleT_ph rs0 sg (ts[a.toNat]'(by omega)) (rs0[a.toNat]'(by omega))
        simp only [bne, this]
      · rw [h1 _ (by omega)]
    rw [hblk] at f1
    have hz : (List.zipWith (settleT rs0 sg) ts rs0)[i]? = some (settleT rs0 sg t u) := by rw [List.getElem?_zipWith, g2, hri]
    have hct := containsstring_c (hS.out0 o2) (by omega) t.on
    rw [hdr, List.all_cons]
    -- the rest, from any heap behind
    have fin : ∀ (H3 : Hp) (rk3 : List RT), Out (rid tx) H2 H3 → OL H3 51 4 tx (rts rk3) → rk3.length = ts.length → (∀ k, k ≠ i → rk3[k]? = rk[k]?) → rk3[i]? = some (settleT rs0 sg t u) →
        (∀ H' : Hp, (∀ j16 : K.Fn 2, l_run_Run_settle JN GO cK j16 (.ptr G 0) (.bool (all && (u.ph == 3))) dx (.int .i64 (ts.length : Nat)) (.int .i64 ((i + 1 : Nat) : Int)) H3 = j16 (.ptr G 0) (.bool ((all && (u.ph == 3)) && (rs0.drop (i + 1)).all (fun r => r.ph == 3))) H') → (∀ b3 o3, ia 4 tx (.int .i64 (i : Nat)) = some (.ptr b3 o3) → cellAt H3 b3 o3 = some (.int .i64 (settleT rs0 sg t u).ph)) → cellAt H3 G 0 = some (.ptr p 0) → cellAt H3 p 2 = some tx → ∀ j16 : K.Fn 2, l_run_Run_settle JN GO cK j16 (.ptr G 0) (.bool all) dx (.int .i64 (ts.length : Nat)) (.int .i64 (i : Nat)) H = j16 (.ptr G 0) (.bool ((all && (u.ph == 3)) && (rs0.drop (i + 1)).all (fun r => r.ph == 3))) H') →
        ∃ H', (∀ j16 : K.Fn 2, l_run_Run_settle JN GO cK j16 (.ptr G 0) (.bool all) dx (.int .i64 (ts.length : Nat)) (.int .i64 (i : Nat)) H = j16 (.ptr G 0) (.bool (all && ((u.ph == 3) && (rs0.drop (i + 1)).all (fun r => r.ph == 3)))) H') ∧ Cs H' p (rv dx st tx sx) 47 0 ∧ cellAt H' G 0 = some (.ptr p 0) ∧ OL H' 51 4 tx (rts (List.zipWith (settleT rs0 sg) ts rs0)) ∧ Out (rid tx) H H' := by
      intro H3 rk3 k3 hO3 hl3 hne hei hrun
      have o3 : Out (rid tx) H H3 := (o2.mono fun j hj => by cases hj).trans k3
      have hG3 : cellAt H3 G 0 = some (.ptr p 0) := by rw [o3.cellAt hGl hGt]; exact hG
      have hC3 := hC.out o3 hpt
      have hn3 := k3.nx
      obtain ⟨H', i1, i2, i3, i4, i5⟩ := settle_loop hn hal hsg hr0 ha hpt hGt hd r (i + 1) H3 rk3 (all && (u.ph == 3)) g1 g3 hC3 hG3 (by omega) (hR.out o3 fun j hj z => (hd j z).1 hj) hO3 (hS.out o3 fun j hj z => (hd j z).2 hj) hl3 (fun k hk => by rw [hne k (by omega)]; exact h1 k (by omega)) (fun k hk => by
        by_cases e : k = i
        · subst e; rw [hei, hz]
        · rw [hne k e]; exact h2 k (by omega))
      refine ⟨H', fun j16 => ?_, i2, i3, i4, o3.trans i5⟩
      rw [← Bool.and_assoc]
      refine hrun H' i1 (fun b3 o3' hb => ?_) hG3 (hC3.cellAt rfl) j16
      obtain ⟨b4, o4, r1, r2, r3, r4, r5⟩ := hO3.rl.at (by decide) (rts_get hei)
      have e4 := r1 .i64
      rw [hb] at e4
      cases e4
      have := r5 0 _ (fd_rt (settleT rs0 sg t u)).1
      rwa [Nat.add_zero] at this
    have hph := settleT_ph rs0 sg t u
    have noset : settleT rs0 sg t u = u → (∀ H' : Hp, (∀ j16 : K.Fn 2, l_run_Run_settle JN GO cK j16 (.ptr G 0) (.bool (all && (u.ph == 3))) dx (.int .i64 (ts.length : Nat)) (.int .i64 ((i + 1 : Nat) : Int)) H2 = j16 (.ptr G 0) (.bool ((all && (u.ph == 3)) && (rs0.drop (i + 1)).all (fun r => r.ph == 3))) H') → ∀ j16 : K.Fn 2, l_run_Run_settle JN GO cK j16 (.ptr G 0) (.bool all) dx (.int .i64 (ts.length : Nat)) (.int .i64 (i : Nat)) H = j16 (.ptr G 0) (.bool ((all && (u.ph == 3)) && (rs0.drop (i + 1)).all (fun r => r.ph == 3))) H') →
        ∃ H', (∀ j16 : K.Fn 2, l_run_Run_settle JN GO cK j16 (.ptr G 0) (.bool all) dx (.int .i64 (ts.length : Nat)) (.int .i64 (i : Nat)) H = j16 (.ptr G 0) (.bool (all && ((u.ph == 3) && (rs0.drop (i + 1)).all (fun r => r.ph == 3)))) H') ∧ Cs H' p (rv dx st tx sx) 47 0 ∧ cellAt H' G 0 = some (.ptr p 0) ∧ OL H' 51 4 tx (rts (List.zipWith (settleT rs0 sg) ts rs0)) ∧ Out (rid tx) H H' := by
      intro e hrun
      exact fin H2 rk (Out.refl _ _) (hO.out o2 (by simp)) hl (fun k hk => rfl) (by rw [hrk, e]) fun H' z _ _ _ => hrun H' z
    have d3 : ∀ z : Bool, (u.ph == 3) = z → (u.ph == 3) = z := fun z h => h
    by_cases hr : rdy rs0 sg t u = true
    · have hs : settleT rs0 sg t u = { u with ph := 1 } := by unfold settleT; rw [if_pos hr]
      obtain ⟨H3, w1, w2, w3, w4⟩ := (hO.out o2 (by simp)).st1 (k := 0) (v := .int .i64 1) (rts_get hrk) p1 rfl (by decide)
      have hset : (rtC u).set 0 (.int .i64 1) = rtC { u with ph := 1 } := rfl
      rw [hset, rts_set] at w2
      rw [Nat.add_zero] at w1
      have hkl := (List.getElem?_eq_some_iff.1 hrk).1
      refine fin H3 (rk.set i { u with ph := 1 }) w3 w2 (by rw [List.length_set]; exact hl) (fun k hk => by rw [List.getElem?_set_ne (fun e => hk e.symm)]) (by rw [List.getElem?_set_self hkl, hs]) fun H' z hb hG3 hC3 j16 => ?_
      have hb3 := hb b' o' (p1 .i64)
      rw [hs] at hb3
      have hb3' : cellAt H3 b' o' = some (.int .i64 1) := hb3
      unfold rdy at hr
      simp only [Bool.and_eq_true, Bool.or_eq_true, Bool.not_eq_true'] at hr
      obtain ⟨r1, r2, r3⟩ := hr
      have r0 : u.ph = 0 := by simpa using r1
      have r13 : (u.ph == 3) = false := by rw [r0]; rfl
      rw [r13, Bool.and_false] at z ⊢
      rw [ql_run_Run_settle]
      cases hon : (t.on == []) with
      | true => cases all <;> simp (disch := (first | assumption | omega | (simp only [k_d, k_c, Nat.reduceAdd, Nat.reduceLeDiff, Nat.reduceLT] <;> fail) | (simp only [k_c]; omega) | (simp only [k_d, k_c, Nat.reduceAdd, Nat.reduceLeDiff, Nat.reduceLT, *] <;> fail) | fail)) only [bl_run_Run_settle, lt_t g1, q3, q5, hst, kx, f1, c1, c2, c3, p1, u0, r1, r2, k5, hon, w1, hG3, hC3, hb3', es, z, k_a, k_b, Nat.reduceAdd, k_s, k_x, Int.reduceBEq, Int.reduceBNe, Int.reduceLT, Int.reduceLE, Int.reduceGT, Int.reduceGE, Int.reduceNeg]
      | false =>
        have r3' := r3.resolve_left (by rw [hon]; simp)
        rw [r3'] at hct
        cases all <;> simp (disch := (first | assumption | omega | (simp only [k_d, k_c, Nat.reduceAdd, Nat.reduceLeDiff, Nat.reduceLT] <;> fail) | (simp only [k_c]; omega) | (simp only [k_d, k_c, Nat.reduceAdd, Nat.reduceLeDiff, Nat.reduceLT, *] <;> fail) | fail)) only [bl_run_Run_settle, lt_t g1, q3, q5, hst, kx, f1, c1, c2, c3, p1, u0, r1, r2, k5, hon, hct, w1, hG3, hC3, hb3', es, z, k_a, k_b, Nat.reduceAdd, k_s, k_x, Int.reduceBEq, Int.reduceBNe, Int.reduceLT, Int.reduceLE, Int.reduceGT, Int.reduceGE, Int.reduceNeg]
    · have hs : settleT rs0 sg t u = u := by unfold settleT; rw [if_neg hr]
      refine noset hs fun H' z j16 => ?_
      rw [ql_run_Run_settle]
      unfold rdy at hr
      cases r1 : (u.ph == 0) with
      | false => cases all <;> simp only [Bool.true_and, Bool.false_and] at z ⊢ <;> simp (disch := (first | assumption | omega | (simp only [k_d, k_c, Nat.reduceAdd, Nat.reduceLeDiff, Nat.reduceLT] <;> fail) | (simp only [k_c]; omega) | (simp only [k_d, k_c, Nat.reduceAdd, Nat.reduceLeDiff, Nat.reduceLT, *] <;> fail) | fail)) only [bl_run_Run_settle, lt_t g1, q3, q5, hst, kx, f1, c1, c2, c3, p1, u0, r1, k5, es, z, k_a, k_b, Nat.reduceAdd, k_s, k_x, Int.reduceBEq, Int.reduceBNe, Int.reduceLT, Int.reduceLE, Int.reduceGT, Int.reduceGE, Int.reduceNeg]
      | true =>
        cases r2 : blk rs0 t with
        | true =>
          rw [r2] at f1
          cases all <;> simp only [Bool.true_and, Bool.false_and] at z ⊢ <;> simp (disch := (first | assumption | omega | (simp only [k_d, k_c, Nat.reduceAdd, Nat.reduceLeDiff, Nat.reduceLT] <;> fail) | (simp only [k_c]; omega) | (simp only [k_d, k_c, Nat.reduceAdd, Nat.reduceLeDiff, Nat.reduceLT, *] <;> fail) | fail)) only [bl_run_Run_settle, lt_t g1, q3, q5, hst, kx, f1, c1, c2, c3, p1, u0, r1, r2, k5, es, z, k_a, k_b, Nat.reduceAdd, k_s, k_x, Int.reduceBEq, Int.reduceBNe, Int.reduceLT, Int.reduceLE, Int.reduceGT, Int.reduceGE, Int.reduceNeg]
        | false =>
          rw [r2] at f1
          rw [r1, r2] at hr
          have hon : (t.on == []) = false := by
            cases hq : (t.on == []) with
            | false => rfl
            | true => rw [hq] at hr; simp at hr
          have hno : (sg.any fun a => t.on == a) = false := by
            rw [hon] at hr
            cases hq : (sg.any fun a => t.on == a) with
            | false => rfl
            | true => rw [hq] at hr; simp at hr
          rw [hno] at hct
          cases all <;> simp only [Bool.true_and, Bool.false_and] at z ⊢ <;> simp (disch := (first | assumption | omega | (simp only [k_d, k_c, Nat.reduceAdd, Nat.reduceLeDiff, Nat.reduceLT] <;> fail) | (simp only [k_c]; omega) | (simp only [k_d, k_c, Nat.reduceAdd, Nat.reduceLeDiff, Nat.reduceLT, *] <;> fail) | fail)) only [bl_run_Run_settle, lt_t g1, q3, q5, hst, kx, f1, c1, c2, c3, p1, u0, r1, r2, k5, hon, hct, es, z, k_a, k_b, Nat.reduceAdd, k_s, k_x, Int.reduceBEq, Int.reduceBNe, Int.reduceLT, Int.reduceLE, Int.reduceGT, Int.reduceGE, Int.reduceNeg]
theorem settle_c {H : Hp} {p : Nat} {dx tx sx : AV} {xs : List AV} {R : Rn} (hC : Cs H p (rv dx R.st tx sx) 47 0) (hO : RO H dx xs tx sx R) (hp : p ∉ fpR dx xs tx sx) (hs : Sm R) (hl : R.rs.length = R.ts.length) (ha : ∀ t ∈ R.ts, ∀ a ∈ t.after, 0 ≤ a ∧ a < (R.ts.length : Int)) :
    ∃ H', cK (.func (.func 45) [] []) [.ptr p 0] H = some (.tuple [], H') ∧ Cs H' p (rv dx (settleM R).st tx sx) 47 0 ∧ RO H' dx xs tx sx (settleM R) ∧ Out (p :: rid tx) H H' := by
  have hbx : bx 126 (.ptr p 0) H = some (H.next, al H [.ptr p 0] 126 0) := bx_al1 rfl
  have o1 := al_out H [.ptr p 0] 126 0
  have hpt : p ∉ rid tx := fun z => hp (List.mem_append_right _ (List.mem_append_left _ z))
  have hG1 : cellAt (al H [.ptr p 0] 126 0) H.next 0 = some (.ptr p 0) := by rw [cellAt_al rfl]; rfl
  have hC1 := hC.out o1 (by simp)
  have k0 : cellAt (al H [.ptr p 0] 126 0) p 0 = some dx := hC1.cellAt rfl
  have hR1 := hO.v.d.out0 o1
  have hdl := hR1.lenx
  have htl := hO.v.t.1.lt
  obtain ⟨H2, i1, i2, i3, i4, i5⟩ := settle_loop (G := H.next) hs.n hs.a hs.s hl ha hpt (fun z => by have := htl _ z; omega) hO.dt R.ts 0 (al H [.ptr p 0] 126 0) R.rs true (Nat.zero_le _) List.drop_zero hC1 hG1 (by rw [al_nx]; omega) hR1 (hO.t.out o1 (by simp)) (hO.s.rw.out0 o1) hl (fun k _ => rfl) (fun k hk => by omega)
  rw [List.drop_zero, Bool.true_and, show (((0 : Nat) : Int)) = 0 from rfl] at i1
  have hR2 := hR1.out i5 fun j hj z => (hO.dt j z).1 hj
  have hS2 := (hO.s.out o1 (by simp)).out i5 fun j hj z => (hO.dt j z).2 hj
  have o2 : Out (rid tx) H H2 := (o1.mono fun j hj => by cases hj).trans i5
  cases hall : R.rs.all (fun r => r.ph == 3) with
  | true =>
    rw [hall] at i1
    obtain ⟨H3, w1, w2, w3, w4⟩ := st1 i2 (by decide) (o := 1) (by simp) (v := .int .i64 1) rfl
    have hst : (settleM R).st = 1 := by unfold settleM; rw [hall]; rfl
    have hset : (rv dx R.st tx sx).set 1 (.int .i64 1) = rv dx 1 tx sx := rfl
    rw [hset] at w2
    have hnp : ∀ {x : AV}, (∀ j ∈ rid x, j ∈ fpR dx xs tx sx) → ∀ j ∈ rid x, j ∉ [p] := fun hx j hj => by rw [List.mem_singleton]; intro e; subst e; exact hp (hx j hj)
    have hd3 : RD H3 dx xs R.ts := hR2.out w3 fun j hj => by rw [List.mem_singleton]; intro e; subst e; exact hp (List.mem_append_left _ hj)
    have ht3 := i4.out w3 (hnp fun j hj => List.mem_append_right _ (List.mem_append_left _ hj))
    have hs3 := hS2.out w3 (hnp fun j hj => List.mem_append_right _ (List.mem_append_right _ hj))
    refine ⟨H3, c_run_Run_settle ?_, by rw [hst]; exact w2, ⟨⟨hd3, ht3.rl, hs3.rw⟩, ht3, hs3, hO.dt, hO.ds⟩, (o2.mono fun j hj => .tail _ hj).trans (w3.mono fun j hj => by rw [List.mem_singleton] at hj; subst hj; exact .head _)⟩
    unfold s_run_Run_settle
    simp (disch := (first | assumption | omega | (simp only [k_d, k_c, Nat.reduceAdd, Nat.reduceLeDiff, Nat.reduceLT] <;> fail) | (simp only [k_c]; omega) | (simp only [k_d, k_c, Nat.reduceAdd, Nat.reduceLeDiff, Nat.reduceLT, *] <;> fail) | fail)) only [hbx, hG1, k0, hdl, i1, i3, w1, k_a, k_b, Nat.reduceAdd, k_s, k_x, Int.reduceBEq, Int.reduceBNe, Int.reduceLT, Int.reduceLE, Int.reduceGT, Int.reduceGE, Int.reduceNeg]
  | false =>
    rw [hall] at i1
    have hst : (settleM R).st = R.st := by unfold settleM; rw [hall]; rfl
    refine ⟨H2, c_run_Run_settle ?_, by rw [hst]; exact i2, ⟨⟨hR2, i4.rl, hS2.rw⟩, i4, hS2, hO.dt, hO.ds⟩, o2.mono fun j hj => .tail _ hj⟩
    unfold s_run_Run_settle
    simp (disch := (first | assumption | omega | (simp only [k_d, k_c, Nat.reduceAdd, Nat.reduceLeDiff, Nat.reduceLT] <;> fail) | (simp only [k_c]; omega) | (simp only [k_d, k_c, Nat.reduceAdd, Nat.reduceLeDiff, Nat.reduceLT, *] <;> fail) | fail)) only [hbx, hG1, k0, hdl, i1, i3, k_a, k_b, Nat.reduceAdd, k_s, k_x, Int.reduceBEq, Int.reduceBNe, Int.reduceLT, Int.reduceLE, Int.reduceGT, Int.reduceGE, Int.reduceNeg]
end Go.Proofs.YthljbjokonglhaaGreatDoor.DfK
namespace Go.Proofs.YthljbjokonglhaaGreatDoor.DfK
open Go Am Am.K DfEnv DfM LibP DfG
set_option linter.unusedVariables false
set_option linter.unusedSimpArgs false
set_option maxRecDepth 10000
set_option maxHeartbeats 1000000
abbrev w64 (n : Int) : Int := IntKind.wrap .i64 n
theorem RO.out {H H' : Hp} {dx tx sx : AV} {xs : List AV} {R : Rn} {S : List Nat} (h : RO H dx xs tx sx R) (k : Out S H H') (hs : ∀ j ∈ fpR dx xs tx sx, j ∉ S) : RO H' dx xs tx sx R :=
  ⟨h.v.out k hs, h.t.out k fun j hj => hs j (List.mem_append_right _ (List.mem_append_left _ hj)), h.s.out k fun j hj => hs j (List.mem_append_right _ (List.mem_append_right _ hj)), h.dt, h.ds⟩
theorem RO.out0 {H H' : Hp} {dx tx sx : AV} {xs : List AV} {R : Rn} (h : RO H dx xs tx sx R) (k : Out [] H H') : RO H' dx xs tx sx R := h.out k fun _ _ q => by cases q
theorem rt_one (t : RT) : (rtC t).all oneC = true := rfl
theorem RO.set {H : Hp} {dx tx sx : AV} {xs : List AV} {R : Rn} {i b o : Nat} (h : RO H dx xs tx sx R) (hi : i < R.rs.length) (hia : ∀ kd, ia 4 tx (.int kd i) = some (.ptr b o)) (t : RT) :
    ∃ H', st 4 (.ptr b o) (.agg (rtC t)) H = some H' ∧ RO H' dx xs tx sx { R with rs := R.rs.set i t } ∧ Out (rid tx) H H' ∧ H'.next = H.next := by
  obtain ⟨H', h1, h2, h3, h4⟩ := h.t.stN (vs := rtC t) (by rw [rts_len]; exact hi) hia (rt_one t) rfl (by decide)
  rw [rts_set] at h2
  exact ⟨H', h1, ⟨⟨h.v.d.out h3 fun j hj z => (h.dt j z).1 hj, h2.rl, h.v.s.out h3 fun j hj z => (h.dt j z).2 hj⟩, h2, h.s.out h3 fun j hj z => (h.dt j z).2 hj, h.dt, h.ds⟩, h3, h4⟩
theorem RD.at2 {H : Hp} {dx : AV} {xs : List AV} {ts : List Tk} (h : RD H dx xs ts) {i : Nat} {t : Tk} (ht : ts[i]? = some t) :
    ∃ x b o, (∀ k, ia 6 dx (.int k i) = some (.ptr b o)) ∧ b ∈ rid dx ∧ b < H.next ∧ oneC x = true ∧ cellsAt H b o 6 = some (tkC t x) ∧ ∀ k v, (tkC t x)[k]? = some v → cellAt H b (o + k) = some v := by
  have hi := (List.getElem?_eq_some_iff.1 ht).1
  have hx : xs[i]? = some (xs[i]'(by rw [h.len]; exact hi)) := List.getElem?_eq_getElem _
  have hw := h.aft i _ t hx ht
  have hz : (List.zipWith tkC ts xs)[i]? = some (tkC t (xs[i]'(by rw [h.len]; exact hi))) := by rw [List.getElem?_zipWith, ht, hx]
  obtain ⟨b, o, h1, h2, h3, h4, h5⟩ := h.row.at (by decide) hz
  exact ⟨_, b, o, h1, h2, h3, hw.one, h4, h5⟩
abbrev zR : List AV := [.slice0, .int .i64 0, .slice0, .slice0]
abbrev Rn0 : Rn := ⟨[], 0, [], []⟩
theorem RO.zero (H : Hp) : RO H .slice0 [] .slice0 .slice0 Rn0 :=
  ⟨⟨RD.nil H, RL.nil H 4, .nil⟩, OL.nil H _ 4, .nil, fun j hj => (by cases hj), fun j hj => by cases hj⟩
structure Okr (R : Rn) : Prop where
  sm : Sm R
  len : R.rs.length = R.ts.length
  aft : ∀ t ∈ R.ts, ∀ a ∈ t.after, 0 ≤ a ∧ a < (R.ts.length : Int)
/-- what a function that makes a run answers -/
def Ans (f : AV) (args : List AV) (H : Hp) (R : Rn) (e : Int) : Prop :=
  ∃ dx xs tx sx H', cK f args H = some (.tuple [.agg (rv dx R.st tx sx), .int .i64 e], H') ∧ RO H' dx xs tx sx R ∧ Out [] H H' ∧ ∀ j ∈ fpR dx xs tx sx, H.next ≤ j
theorem Ans.err {f : AV} {args : List AV} {H H1 H' : Hp} {e : Int} {m : Nat} (h : cK f args H = some (.tuple [.agg zR, .int .i64 e], H')) (k : Out [] H H1) (k2 : Out [m] H1 H') (hm : H.next ≤ m) : Ans f args H Rn0 e :=
  ⟨.slice0, [], .slice0, .slice0, H', h, RO.zero H', k.then k2 (fun j hj => by rw [List.mem_singleton] at hj; exact .inr (by omega)), fun j hj => by cases hj⟩
theorem one_ge {n m : Nat} (h : n ≤ m) : ∀ j ∈ [m], n ≤ j := fun j hj => by rw [List.mem_singleton] at hj; omega
theorem outNew {H A B : Hp} {S : List Nat} (h : Out [] H A) (k : Out S A B) (hS : ∀ j ∈ S, H.next ≤ j) : Out [] H B := h.then k fun j hj => .inr (hS j hj)
/-! Lease -/
def leaseM (R : Rn) (task try_ now : Int) : Rn × Int :=
  if mayM R task = 0 then (match R.rs[task.toNat]?, R.ts[task.toNat]? with
    | some t, some d => if t.ph = 1 then (if try_ = w64 (t.tr + 1) then ({ R with rs := R.rs.set task.toNat ⟨2, try_, w64 (now + d.wait), t.dat⟩ }, 0) else (Rn0, 8)) else (Rn0, 4)
    | _, _ => (Rn0, 4)) else (Rn0, mayM R task)
theorem lease_c {H : Hp} {dx tx sx : AV} {xs : List AV} {R : Rn} (h : RV H dx xs tx sx R) (hk : Okr R) (task try_ now : Int) :
    Ans (.func (.func 18) [] []) [.agg (rv dx R.st tx sx), .int .i64 task, .int .i64 try_, .int .i64 now] H (leaseM R task try_ now).1 (leaseM R task try_ now).2 := by
  have hbx : bx 47 (.agg (rv dx R.st tx sx)) H = some (H.next, al H (rv dx R.st tx sx) 47 0) := bx_alA (by simp)
  have o1 := al_out H (rv dx R.st tx sx) 47 0
  have c1 := al_cs H (rv dx R.st tx sx) 47 0
  have n1 : (al H (rv dx R.st tx sx) 47 0).next = H.next + 1 := rfl
  generalize al H (rv dx R.st tx sx) 47 0 = H1 at *
  have o2 := al_out H1 zR 47 0
  have c2 := al_cs H1 zR 47 0
  have n2 : (al H1 zR 47 0).next = H.next + 2 := by rw [al_nx, n1]
  rw [n1] at c2
  generalize hA2 : al H1 zR 47 0 = H2 at *
  have o12 := o1.trans o2
  have cP2 := c1.out o2 (by simp)
  have k1 : cellsAt H2 H.next 0 4 = some (rv dx R.st tx sx) := cP2.cellsAt 4 0 (by simp)
  have hm := may_c (h.out0 o12) task
  have o3 := al_out H2 (rv dx R.st tx sx) 47 0
  have n3 : (al H2 (rv dx R.st tx sx) 47 0).next = H.next + 3 := by rw [al_nx, n2]
  generalize al H2 (rv dx R.st tx sx) 47 0 = H3 at *
  have o13 := o12.trans o3
  have cP3 := cP2.out o3 (by simp)
  have cQ3 := c2.out o3 (by simp)
  unfold leaseM
  by_cases h0 : mayM R task = 0
  · obtain ⟨i, t, rfl, ht, hst⟩ := may_ok h0
    have hil := (List.getElem?_eq_some_iff.1 ht).1
    have hd : R.ts[i]? = some (R.ts[i]'(by rw [← hk.len]; exact hil)) := List.getElem?_eq_getElem _
    have d0 : (mayM R (i : Int) != 0) = false := by simp [h0]
    rw [if_pos h0, Int.toNat_natCast, ht, hd]
    simp only
    generalize R.ts[i]'(by rw [← hk.len]; exact hil) = d at *
    have k2 : cellAt H3 H.next 2 = some tx := cP3.cellAt rfl
    obtain ⟨b, o, q1, q2, q3, q4, q5⟩ := (h.t.out0 o13).at (by decide) (rts_get ht)
    have hsr := st_rt t H3
    rw [n3] at hsr
    obtain ⟨e0, e1, e2, e3⟩ := fd_rt t
    have o4 := al_out H3 (rtC t) 51 0
    have cT4 := al_cs H3 (rtC t) 51 0
    rw [n3] at cT4
    have n4 : (al H3 (rtC t) 51 0).next = H.next + 4 := by rw [al_nx, n3]
    generalize al H3 (rtC t) 51 0 = H4 at *
    have hz4 : newCells H3 [(.int .i64 0), (.int .i64 0), (.int .i64 0), (.str [])] 51 0 = some (H.next + 3, al H3 [(.int .i64 0), (.int .i64 0), (.int .i64 0), (.str [])] 51 0) := by rw [← n3]; exact newCells_al (by simp)
    have o14 := o13.trans o4
    have cP4 := cP3.out o4 (by simp)
    have cQ4 := cQ3.out o4 (by simp)
    have t0 : cellAt H4 (H.next + 3) 0 = some (.int .i64 t.ph) := cT4.cellAt e0
    have t1 : cellAt H4 (H.next + 3) 1 = some (.int .i64 t.tr) := cT4.cellAt e1
    by_cases h1 : t.ph = 1
    · have d1 : (t.ph != 1) = false := by simp [h1]
      rw [if_pos h1]
      by_cases h2 : try_ = w64 (t.tr + 1)
      · have d2 : (try_ != IntKind.wrap .i64 (t.tr + 1)) = false := by simp [h2]
        rw [if_pos h2]
        have k4 : cellsAt H4 H.next 0 4 = some (rv dx R.st tx sx) := cP4.cellsAt 4 0 (by simp)
        obtain ⟨dx', xs', tx', sx', H5, r1, r2, r3, r4⟩ := clone_c (h.out0 o14) hk.sm
        have n5 := r3.nx
        obtain ⟨H6, s1, s2, s3, s4⟩ := stAll (n := 4) (vs := rv dx' R.st tx' sx') (cP4.out r3 (by simp)) rfl rfl (by simp [r2.v.d.row.one, r2.t.rl.one, r2.s.oneX, oneC_i])
        have fr : ∀ m, m < H.next + 4 → ∀ j ∈ fpR dx' xs' tx' sx', j ∉ [m] := fun m hm j hj => by rw [List.mem_singleton]; have := r4 j hj; omega
        have R6 := r2.out s3 (fr _ (by omega))
        obtain ⟨x, b2, o2', p1, p2, p3, p4, p5, p6⟩ := R6.v.d.at2 hd
        have kw6 : cellAt H6 b2 (o2' + 3) = some (.int .i64 d.wait) := p6 3 _ rfl
        have kd6 : cellAt H6 H.next 0 = some dx' := s2.cellAt rfl
        have cT6 := (cT4.out r3 (by simp)).out s3 (by rw [List.mem_singleton]; omega)
        have hb2 : b2 ≠ H.next + 3 := by have := r4 b2 (List.mem_append_left _ (List.mem_append_left _ p2)); omega
        obtain ⟨H7, u1, u2, u3, u4⟩ := st1 cT6 (by decide) (o := 0) (by rw [rt_len]; omega) (v := .int .i64 2) rfl
        obtain ⟨H8, v1, v2, v3, v4⟩ := st1 u2 (by decide) (o := 1) (by rw [List.length_set, rt_len]; omega) (v := .int .i64 try_) rfl
        obtain ⟨H9, w1, w2, w3, w4⟩ := st1 v2 (by decide) (o := 2) (by rw [List.length_set, List.length_set, rt_len]; omega) (v := .int .i64 (w64 (now + d.wait))) rfl
        have hset : (((rtC t).set 0 (.int .i64 2)).set 1 (.int .i64 try_)).set 2 (.int .i64 (w64 (now + d.wait))) = rtC ⟨2, try_, w64 (now + d.wait), t.dat⟩ := rfl
        rw [hset] at w2
        have kw7 : cellAt H7 b2 (o2' + 3) = some (.int .i64 d.wait) := by rw [u3.cellAt p3 (by rw [List.mem_singleton]; exact hb2)]; exact kw6
        have kw8 : cellAt H8 b2 (o2' + 3) = some (.int .i64 d.wait) := by rw [v3.cellAt (by omega) (by rw [List.mem_singleton]; exact hb2)]; exact kw7
        have hT3 : H.next ∉ [H.next + 3] := by rw [List.mem_singleton]; omega
        have s7 := s2.out u3 hT3
        have s8 := s7.out v3 hT3
        have s9 := s8.out w3 hT3
        have kd7 : cellAt H7 H.next 0 = some dx' := s7.cellAt rfl
        have kd8 : cellAt H8 H.next 0 = some dx' := s8.cellAt rfl
        have kt9 : cellAt H9 H.next 2 = some tx' := s9.cellAt rfl
        have kT9 : cellsAt H9 (H.next + 3) 0 4 = some (rtC ⟨2, try_, w64 (now + d.wait), t.dat⟩) := w2.cellsAt 4 0 (by rw [rt_len]; omega)
        have R9 := ((R6.out u3 (fr _ (by omega))).out v3 (fr _ (by omega))).out w3 (fr _ (by omega))
        obtain ⟨b3, o3', y1, y2, y3, y4, y5⟩ := R9.v.t.at (by decide) (rts_get ht)
        obtain ⟨H10, z1, z2, z3, z4⟩ := R9.set hil y1 ⟨2, try_, w64 (now + d.wait), t.dat⟩
        have ntx : ∀ m, m < H.next + 4 → m ∉ rid tx' := fun m hm z => by have := r4 m (List.mem_append_right _ (List.mem_append_left _ z)); omega
        have s10 := s9.out z3 (ntx _ (by omega))
        have kP10 : cellsAt H10 H.next 0 4 = some (rv dx' R.st tx' sx') := s10.cellsAt 4 0 (by simp)
        have hQ : ∀ m, m ≠ H.next + 1 → H.next + 1 ∉ [m] := fun m hm => by rw [List.mem_singleton]; omega
        have cQ10 := ((((((cQ4.out r3 (by simp)).out s3 (hQ _ (by omega))).out u3 (hQ _ (by omega))).out v3 (hQ _ (by omega))).out w3 (hQ _ (by omega))).out z3 (ntx _ (by omega)))
        obtain ⟨H11, g1, g2, g3, g4⟩ := stAll (n := 4) (vs := rv dx' R.st tx' sx') cQ10 rfl rfl (by simp [r2.v.d.row.one, r2.t.rl.one, r2.s.oneX, oneC_i])
        have kQ : cellsAt H11 (H.next + 1) 0 4 = some (rv dx' R.st tx' sx') := g2.cellsAt 4 0 (by simp)
        have out := outNew (outNew (outNew (outNew (outNew (outNew (o14.trans r3) s3 (one_ge (Nat.le_refl _))) u3 (one_ge (by omega))) v3 (one_ge (by omega))) w3 (one_ge (by omega))) z3 (fun j hj => by have := r4 j (List.mem_append_right _ (List.mem_append_left _ hj)); omega)) g3 (one_ge (by omega))
        refine ⟨dx', xs', tx', sx', H11, c__run_Run_Lease ?_, z2.out g3 (fr _ (by omega)), out, fun j hj => by have := r4 j hj; omega⟩
        unfold s__run_Run_Lease
        simp (disch := (first | assumption | omega | (simp only [k_d, k_c, Nat.reduceAdd, Nat.reduceLeDiff, Nat.reduceLT] <;> fail) | (simp only [k_c]; omega) | (simp only [k_d, k_c, Nat.reduceAdd, Nat.reduceLeDiff, Nat.reduceLT, *] <;> fail) | fail)) only [hbx, n1, hA2, k1, hm, d0, k2, q1, q4, n3, hsr, t0, t1, d1, d2, k4, r1, s1, kd6, p1, kw6, u1, v1, w1, kd7, kd8, kw7, kw8, SM_t (same_rw r2.v.d.row.1), SM_t (same_i _ _), kt9, kT9, y1, z1, kP10, g1, kQ, k_a, k_b, Nat.reduceAdd, k_s, k_x, Int.reduceBEq, Int.reduceBNe, Int.reduceLT, Int.reduceLE, Int.reduceGT, Int.reduceGE, Int.reduceNeg]
      · have d2 : (try_ != IntKind.wrap .i64 (t.tr + 1)) = true := by simp [h2]
        rw [if_neg h2]
        obtain ⟨H5, w1, w2, w3, w4⟩ := stAll (n := 4) (vs := zR) cQ4 rfl rfl rfl
        have k5 : cellsAt H5 (H.next + 1) 0 4 = some zR := w2.cellsAt 4 0 (by simp)
        refine Ans.err (c__run_Run_Lease (?_ : _ = some (_, H5))) o14 w3 (Nat.le_succ _)
        unfold s__run_Run_Lease
        simp (disch := (first | assumption | omega | (simp only [k_d, k_c, Nat.reduceAdd, Nat.reduceLeDiff, Nat.reduceLT] <;> fail) | (simp only [k_c]; omega) | (simp only [k_d, k_c, Nat.reduceAdd, Nat.reduceLeDiff, Nat.reduceLT, *] <;> fail) | fail)) only [hbx, n1, hA2, k1, hm, d0, k2, q1, q4, n3, hsr, t0, t1, d1, d2, w1, k5, k_a, k_b, Nat.reduceAdd, k_s, k_x, Int.reduceBEq, Int.reduceBNe, Int.reduceLT, Int.reduceLE, Int.reduceGT, Int.reduceGE, Int.reduceNeg]
    · have d1 : (t.ph != 1) = true := by simp [h1]
      rw [if_neg h1]
      obtain ⟨H5, w1, w2, w3, w4⟩ := stAll (n := 4) (vs := zR) cQ4 rfl rfl rfl
      have k5 : cellsAt H5 (H.next + 1) 0 4 = some zR := w2.cellsAt 4 0 (by simp)
      refine Ans.err (c__run_Run_Lease (?_ : _ = some (_, H5))) o14 w3 (Nat.le_succ _)
      unfold s__run_Run_Lease
      simp (disch := (first | assumption | omega | (simp only [k_d, k_c, Nat.reduceAdd, Nat.reduceLeDiff, Nat.reduceLT] <;> fail) | (simp only [k_c]; omega) | (simp only [k_d, k_c, Nat.reduceAdd, Nat.reduceLeDiff, Nat.reduceLT, *] <;> fail) | fail)) only [hbx, n1, hA2, k1, hm, d0, k2, q1, q4, n3, hsr, t0, d1, w1, k5, k_a, k_b, Nat.reduceAdd, k_s, k_x, Int.reduceBEq, Int.reduceBNe, Int.reduceLT, Int.reduceLE, Int.reduceGT, Int.reduceGE, Int.reduceNeg]
  · have d0 : (mayM R task != 0) = true := by simp [h0]
    rw [if_neg h0]
    obtain ⟨H4, w1, w2, w3, w4⟩ := stAll (n := 4) (vs := zR) cQ3 rfl rfl rfl
    have k5 : cellsAt H4 (H.next + 1) 0 4 = some zR := w2.cellsAt 4 0 (by simp)
    refine Ans.err (c__run_Run_Lease (?_ : _ = some (_, H4))) o13 w3 (Nat.le_succ _)
    unfold s__run_Run_Lease
    simp (disch := (first | assumption | omega | (simp only [k_d, k_c, Nat.reduceAdd, Nat.reduceLeDiff, Nat.reduceLT] <;> fail) | (simp only [k_c]; omega) | (simp only [k_d, k_c, Nat.reduceAdd, Nat.reduceLeDiff, Nat.reduceLT, *] <;> fail) | fail)) only [hbx, n1, hA2, k1, hm, d0, w1, k5, k_a, k_b, Nat.reduceAdd, k_s, k_x, Int.reduceBEq, Int.reduceBNe, Int.reduceLT, Int.reduceLE, Int.reduceGT, Int.reduceGE, Int.reduceNeg]
end Go.Proofs.YthljbjokonglhaaGreatDoor.DfK
namespace Go.Proofs.YthljbjokonglhaaGreatDoor.DfK
open Go Am Am.K DfEnv DfM LibP DfG
set_option linter.unusedVariables false
set_option linter.unusedSimpArgs false
set_option maxRecDepth 10000
set_option maxHeartbeats 1000000
theorem mks_n {H : Hp} {z : List AV} {el n s : Nat} (k j : IntKind) (hn : n ≤ 1048576) (hl : n * z.length ≤ 16777216) : mks z el s (.int k n) (.int j n) H = some (.slice H.next 0 n n true s, al H (List.replicate n z).flatten el 0) := by
  unfold mks
  have hr : rep n z = (List.replicate n z).flatten := by
    unfold rep
    rfl
  have hlen : (List.replicate n z).flatten.length = n * z.length := by simp
  simp only
  rw [if_pos ⟨by omega, by omega, by omega⟩, Int.toNat_natCast, hr, newCells_al (by rw [hlen]; omega)]
  rfl
/-! New -/
abbrev rt0 : RT := ⟨0, 0, 0, []⟩
noncomputable def newM (ts : List Tk) : Rn × Int := if goodM ts = 0 then (settleM ⟨ts, 0, List.replicate ts.length rt0, []⟩, 0) else (Rn0, goodM ts)
theorem new_c {H : Hp} {dx : AV} {xs : List AV} {ts : List Tk} (h : RD H dx xs ts) (hn : ts.length ≤ 1000) (hal : ∀ t ∈ ts, t.after.length ≤ 1000) :
    Ans (.func (.func 17) [] []) [dv dx] H (newM ts).1 (newM ts).2 := by
  have hd1 := h.row.one
  have hbx : bx 25 (.agg [dx]) H = some (H.next, al H [dx] 25 0) := bx_alA (by simp)
  have o1 := al_out H [dx] 25 0
  have c1 := al_cs H [dx] 25 0
  have n1 : (al H [dx] 25 0).next = H.next + 1 := rfl
  generalize al H [dx] 25 0 = H1 at *
  have o2 := al_out H1 zR 47 0
  have c2 := al_cs H1 zR 47 0
  have n2 : (al H1 zR 47 0).next = H.next + 2 := by rw [al_nx, n1]
  rw [n1] at c2
  generalize hA2 : al H1 zR 47 0 = H2 at *
  have o12 := o1.trans o2
  have cP2 := c1.out o2 (by simp)
  have k1 : cellsAt H2 H.next 0 1 = some [dx] := cP2.cellsAt 1 0 (by simp)
  obtain ⟨H3, g1, o3⟩ := dgood_c (ts := ts) (by omega) (fun t ht => by have := hal t ht; omega) (h.out0 o12)
  have n3 := o3.nx
  have o13 := o12.trans o3
  have cP3 := cP2.out o3 (by simp)
  have cQ3 := c2.out o3 (by simp)
  unfold newM
  by_cases h0 : goodM ts = 0
  · rw [if_pos h0]
    have hq : 1 ≤ ts.length ∧ ts.length ≤ 16 ∧ aftAll ts := by
      have h := h0
      unfold goodM at h
      split at h
      · cases h
      · rename_i h1
        split at h
        · cases h
        · split at h
          · cases h
          · split at h
            · cases h
            · split at h
              · cases h
              · rename_i h4
                have h1 := Decidable.not_not.1 h1
                exact ⟨h1.1, h1.2, any_p4 (by simpa using h4)⟩
    rw [h0] at g1
    have k2 : cellsAt H3 H.next 0 1 = some [dx] := cP3.cellsAt 1 0 (by simp)
    have k3 : cellAt H3 H.next 0 = some dx := cP3.cellAt rfl
    have hR3 := h.out0 o13
    have hdl := hR3.lenx
    have hfl : (List.replicate ts.length [(AV.int .i64 0), (.int .i64 0), (.int .i64 0), (.str [])]).flatten = (rts (List.replicate ts.length rt0)).flatten := by
      simp [rts, rtC]
    have hmk := mks_n (H := H3) (z := [(.int .i64 0), (.int .i64 0), (.int .i64 0), (.str [])]) (el := 51) (s := 4) (n := ts.length) .i64 .i64 (by omega) (by simp; omega)
    rw [hfl] at hmk
    have o4 := al_out H3 (rts (List.replicate ts.length rt0)).flatten 51 0
    have cM := al_cs H3 (rts (List.replicate ts.length rt0)).flatten 51 0
    have n4 : (al H3 (rts (List.replicate ts.length rt0)).flatten 51 0).next = H3.next + 1 := rfl
    generalize al H3 (rts (List.replicate ts.length rt0)).flatten 51 0 = H4 at *
    have hlen4 : (rts (List.replicate ts.length rt0)).flatten.length = ts.length * 4 := by rw [flatten_len (rts_four _), rts_len, List.length_replicate]
    have hT4 : RL H4 4 (.slice H3.next 0 ts.length ts.length true 4) (rts (List.replicate ts.length rt0)) := ⟨.mk cM.ro (by rw [hlen4]) (Nat.le_refl _) (by rw [Bool.true_and, ← Bool.not_eq_true, Nat.beq_eq]; omega), rts_four _⟩
    have hV4 : RV H4 dx xs (.slice H3.next 0 ts.length ts.length true 4) .slice0 ⟨ts, 0, List.replicate ts.length rt0, []⟩ := ⟨hR3.out0 o4, hT4, .nil⟩
    
    have hOk : Okr ⟨ts, 0, List.replicate ts.length rt0, []⟩ := ⟨⟨hn, hal, by rw [List.length_replicate]; omega, by simp⟩, by simp, fun t ht a ha => by
      obtain ⟨i, hi⟩ := List.getElem?_of_mem ht
      have := (aft_all hq.2.2 hi).1 a ha
      exact ⟨this.1, by show a < (ts.length : Int); omega⟩⟩
    obtain ⟨dx', xs', tx', sx', H5, r1, r2, r3, r4⟩ := clone_c hV4 hOk.sm
    have n5 := r3.nx
    have r1' : cK (.func (.func 44) [] []) [.agg [dx, .int .i64 0, .slice H3.next 0 ts.length ts.length true 4, .slice0]] H4 = some (.agg (rv dx' 0 tx' sx'), H5) := r1
    have o5 := al_out H5 (rv dx' 0 tx' sx') 47 0
    have cA := al_cs H5 (rv dx' 0 tx' sx') 47 0
    have stA : st 4 (.ptr H5.next 0) (.agg (rv dx' 0 tx' sx')) (al H5 zR 47 0) = some (al H5 (rv dx' 0 tx' sx') 47 0) := st_alN (by simp [r2.v.d.row.one, r2.t.rl.one, r2.s.oneX, oneC_i]) rfl rfl (by decide) rfl
    have n6 : (al H5 (rv dx' 0 tx' sx') 47 0).next = H5.next + 1 := rfl
    have hncA : newCells H5 zR 47 0 = some (H5.next, al H5 zR 47 0) := newCells_al (by simp)
    generalize hA6 : al H5 (rv dx' 0 tx' sx') 47 0 = H6 at *
    have fl5 := r2.v.lt
    obtain ⟨H7, s1, s2, s3, s4⟩ := settle_c (R := ⟨ts, 0, List.replicate ts.length rt0, []⟩) cA (r2.out0 o5) (fun z => by have := fl5 _ z; omega) hOk.sm hOk.len hOk.aft
    have htx : ∀ j ∈ H5.next :: rid tx', H4.next ≤ j := fun j hj => by
      rcases List.mem_cons.1 hj with rfl | hj
      · exact n5
      · exact r4 j (List.mem_append_right _ (List.mem_append_left _ hj))
    have hQ7 : Cs H7 (H.next + 1) zR 47 0 := (((cQ3.out o4 (by simp)).out r3 (by simp)).out o5 (by simp)).out s4 fun z => by have := htx _ z; omega
    generalize settleM ⟨ts, 0, List.replicate ts.length rt0, []⟩ = R7 at *
    have kA7 : cellsAt H7 H5.next 0 4 = some (rv dx' R7.st tx' sx') := s2.cellsAt 4 0 (by simp)
    obtain ⟨H8, w1, w2, w3, w4⟩ := stAll (n := 4) (vs := rv dx' R7.st tx' sx') hQ7 rfl rfl (by simp [r2.v.d.row.one, r2.t.rl.one, r2.s.oneX, oneC_i])
    have kQ : cellsAt H8 (H.next + 1) 0 4 = some (rv dx' R7.st tx' sx') := w2.cellsAt 4 0 (by simp)
    have k4 : cellsAt H4 H.next 0 1 = some [dx] := (cP3.out o4 (by simp)).cellsAt 1 0 (by simp)
    have fl1 : fl zR [(0, 1, .agg [dx]), (2, 1, .slice H3.next 0 ts.length ts.length true 4)] = some [dx, .int .i64 0, .slice H3.next 0 ts.length ts.length true 4, .slice0] := by
      rw [fl_consN (l := [dx]) (n := 1) rfl (by simp), fl_cons1 rfl (by simp), fl_nil]; rfl
    have smd : same (.agg [dx]) (.agg [dx]) = true := by
      show sameL _ _ = true
      unfold sameL
      rw [sameS_rw h.row.1]; rfl
    have d0 : ((0 : Int) != 0) = false := rfl
    have out := outNew (outNew (((o13.trans o4).trans r3).trans o5) s4 fun j hj => by have := htx j hj; omega) w3 (one_ge (Nat.le_succ _))
    refine ⟨dx', xs', tx', sx', H8, c_run_New ?_, s3.out w3 (fun j hj => by rw [List.mem_singleton]; have := r4 j hj; omega), out, fun j hj => by have := r4 j hj; omega⟩
    unfold s_run_New
    simp (disch := (first | assumption | omega | (simp only [k_d, k_c, Nat.reduceAdd, Nat.reduceLeDiff, Nat.reduceLT] <;> fail) | (simp only [k_c]; omega) | (simp only [k_d, k_c, Nat.reduceAdd, Nat.reduceLeDiff, Nat.reduceLT, *] <;> fail) | fail)) only [hbx, n1, hA2, k1, g1, d0, k2, k3, hdl, hmk, fl1, r1', hncA, stA, k4, SM_t smd, s1, kA7, w1, kQ, k_a, k_b, Nat.reduceAdd, k_s, k_x, Int.reduceBEq, Int.reduceBNe, Int.reduceLT, Int.reduceLE, Int.reduceGT, Int.reduceGE, Int.reduceNeg]
  · rw [if_neg h0]
    have d0 : (goodM ts != 0) = true := by simp [h0]
    obtain ⟨H4, w1, w2, w3, w4⟩ := stAll (n := 4) (vs := zR) cQ3 rfl rfl rfl
    have k5 : cellsAt H4 (H.next + 1) 0 4 = some zR := w2.cellsAt 4 0 (by simp)
    refine Ans.err (c_run_New (?_ : _ = some (_, H4))) o13 w3 (Nat.le_succ _)
    unfold s_run_New
    simp (disch := (first | assumption | omega | (simp only [k_d, k_c, Nat.reduceAdd, Nat.reduceLeDiff, Nat.reduceLT] <;> fail) | (simp only [k_c]; omega) | (simp only [k_d, k_c, Nat.reduceAdd, Nat.reduceLeDiff, Nat.reduceLT, *] <;> fail) | fail)) only [hbx, n1, hA2, k1, g1, d0, w1, k5, k_a, k_b, Nat.reduceAdd, k_s, k_x, Int.reduceBEq, Int.reduceBNe, Int.reduceLT, Int.reduceLE, Int.reduceGT, Int.reduceGE, Int.reduceNeg]
/-! Done -/
def doneM (R : Rn) (task try_ : Int) (data : Str) : Rn × Int :=
  if heldM R task try_ = 0 then (settleM { R with rs := R.rs.set task.toNat ⟨3, try_, 0, data⟩ }, 0) else (Rn0, heldM R task try_)
theorem Okr.set {R : Rn} (h : Okr R) (i : Nat) (t : RT) : Okr { R with rs := R.rs.set i t } := ⟨⟨h.sm.n, h.sm.a, by rw [List.length_set]; exact h.sm.r, h.sm.s⟩, by rw [List.length_set]; exact h.len, h.aft⟩
theorem done_c {H : Hp} {dx tx sx : AV} {xs : List AV} {R : Rn} (h : RV H dx xs tx sx R) (hk : Okr R) (task try_ : Int) (data : Str) :
    Ans (.func (.func 19) [] []) [.agg (rv dx R.st tx sx), .int .i64 task, .int .i64 try_, .str data] H (doneM R task try_ data).1 (doneM R task try_ data).2 := by
  have hbx : bx 47 (.agg (rv dx R.st tx sx)) H = some (H.next, al H (rv dx R.st tx sx) 47 0) := bx_alA (by simp)
  have o1 := al_out H (rv dx R.st tx sx) 47 0
  have c1 := al_cs H (rv dx R.st tx sx) 47 0
  have n1 : (al H (rv dx R.st tx sx) 47 0).next = H.next + 1 := rfl
  generalize al H (rv dx R.st tx sx) 47 0 = H1 at *
  have o2 := al_out H1 zR 47 0
  have c2 := al_cs H1 zR 47 0
  have n2 : (al H1 zR 47 0).next = H.next + 2 := by rw [al_nx, n1]
  rw [n1] at c2
  generalize hA2 : al H1 zR 47 0 = H2 at *
  have o12 := o1.trans o2
  have cP2 := c1.out o2 (by simp)
  have k1 : cellsAt H2 H.next 0 4 = some (rv dx R.st tx sx) := cP2.cellsAt 4 0 (by simp)
  obtain ⟨H3, hm, o3⟩ := held_c (h.out0 o12) task try_
  have n3 := o3.nx
  have o13 := o12.trans o3
  have cP3 := cP2.out o3 (by simp)
  have cQ3 := c2.out o3 (by simp)
  unfold doneM
  by_cases h0 : heldM R task try_ = 0
  · obtain ⟨i, t, rfl, ht, hst, hph, htr⟩ := held_ok h0
    have hil := (List.getElem?_eq_some_iff.1 ht).1
    have d0 : (heldM R (i : Int) try_ != 0) = false := by simp [h0]
    rw [if_pos h0, Int.toNat_natCast]
    have k3 : cellsAt H3 H.next 0 4 = some (rv dx R.st tx sx) := cP3.cellsAt 4 0 (by simp)
    obtain ⟨dx', xs', tx', sx', H4, r1, r2, r3, r4⟩ := clone_c (h.out0 o13) hk.sm
    have n4 := r3.nx
    have ones : (rv dx' R.st tx' sx').all oneC = true := by simp [r2.v.d.row.one, r2.t.rl.one, r2.s.oneX, oneC_i]
    obtain ⟨H5, s1, s2, s3, s4⟩ := stAll (n := 4) (vs := rv dx' R.st tx' sx') (cP3.out r3 (by simp)) rfl rfl ones
    have fr : ∀ m, m < H.next + 2 → ∀ j ∈ fpR dx' xs' tx' sx', j ∉ [m] := fun m hm j hj => by rw [List.mem_singleton]; have := r4 j hj; omega
    have R5 := r2.out s3 (fr _ (by omega))
    have k5 : cellAt H5 H.next 2 = some tx' := s2.cellAt rfl
    obtain ⟨b, o, q1, q2, q3, q4, q5⟩ := R5.v.t.at (by decide) (rts_get ht)
    obtain ⟨H6, z1, z2, z3, z4⟩ := R5.set hil q1 ⟨3, try_, 0, data⟩
    have ntx : ∀ m, m < H.next + 2 → m ∉ rid tx' := fun m hm z => by have := r4 m (List.mem_append_right _ (List.mem_append_left _ z)); omega
    have s6 := s2.out z3 (ntx _ (by omega))
    have hk2 := hk.set i ⟨3, try_, 0, data⟩
    obtain ⟨H7, t1, t2, t3, t4⟩ := settle_c (R := { R with rs := R.rs.set i ⟨3, try_, 0, data⟩ }) s6 z2 (fun z => by have := r4 _ z; omega) hk2.sm hk2.len hk2.aft
    have ntp : ∀ m, m < H.next + 2 → m ≠ H.next → m ∉ H.next :: rid tx' := fun m hm hne z => (List.mem_cons.1 z).elim hne (ntx m hm)
    have cQ7 := (((cQ3.out r3 (by simp)).out s3 (by rw [List.mem_singleton]; omega)).out z3 (ntx _ (by omega))).out t4 (ntp _ (by omega) (by omega))
    generalize settleM { R with rs := R.rs.set i ⟨3, try_, 0, data⟩ } = R7 at *
    have k7 : cellsAt H7 H.next 0 4 = some (rv dx' R7.st tx' sx') := t2.cellsAt 4 0 (by simp)
    obtain ⟨H8, w1, w2, w3, w4⟩ := stAll (n := 4) (vs := rv dx' R7.st tx' sx') cQ7 rfl rfl (by simp [r2.v.d.row.one, r2.t.rl.one, r2.s.oneX, oneC_i])
    have k8 : cellsAt H8 (H.next + 1) 0 4 = some (rv dx' R7.st tx' sx') := w2.cellsAt 4 0 (by simp)
    have z1' : st 4 (.ptr b o) (.agg [.int .i64 3, .int .i64 try_, .int .i64 0, .str data]) H5 = some H6 := z1
    have hge : ∀ j ∈ rid tx', H.next ≤ j := fun j hj => by have := r4 j (List.mem_append_right _ (List.mem_append_left _ hj)); omega
    have out := outNew (outNew (outNew (outNew (o13.trans r3) s3 (one_ge (Nat.le_refl _))) z3 hge) t4 (fun j hj => (List.mem_cons.1 hj).elim (fun e => by omega) (hge j))) w3 (one_ge (Nat.le_succ _))
    refine ⟨dx', xs', tx', sx', H8, c__run_Run_Done ?_, t3.out w3 (fr _ (by omega)), out, fun j hj => by have := r4 j hj; omega⟩
    unfold s__run_Run_Done
    simp (disch := (first | assumption | omega | (simp only [k_d, k_c, Nat.reduceAdd, Nat.reduceLeDiff, Nat.reduceLT] <;> fail) | (simp only [k_c]; omega) | (simp only [k_d, k_c, Nat.reduceAdd, Nat.reduceLeDiff, Nat.reduceLT, *] <;> fail) | fail)) only [hbx, n1, hA2, k1, hm, d0, k3, r1, s1, k5, q1, z1', t1, k7, w1, k8, k_a, k_b, Nat.reduceAdd, k_s, k_x, Int.reduceBEq, Int.reduceBNe, Int.reduceLT, Int.reduceLE, Int.reduceGT, Int.reduceGE, Int.reduceNeg]
  · have d0 : (heldM R task try_ != 0) = true := by simp [h0]
    rw [if_neg h0]
    obtain ⟨H4, w1, w2, w3, w4⟩ := stAll (n := 4) (vs := zR) cQ3 rfl rfl rfl
    have k5 : cellsAt H4 (H.next + 1) 0 4 = some zR := w2.cellsAt 4 0 (by simp)
    refine Ans.err (c__run_Run_Done (?_ : _ = some (_, H4))) o13 w3 (Nat.le_succ _)
    unfold s__run_Run_Done
    simp (disch := (first | assumption | omega | (simp only [k_d, k_c, Nat.reduceAdd, Nat.reduceLeDiff, Nat.reduceLT] <;> fail) | (simp only [k_c]; omega) | (simp only [k_d, k_c, Nat.reduceAdd, Nat.reduceLeDiff, Nat.reduceLT, *] <;> fail) | fail)) only [hbx, n1, hA2, k1, hm, d0, w1, k5, k_a, k_b, Nat.reduceAdd, k_s, k_x, Int.reduceBEq, Int.reduceBNe, Int.reduceLT, Int.reduceLE, Int.reduceGT, Int.reduceGE, Int.reduceNeg]
end Go.Proofs.YthljbjokonglhaaGreatDoor.DfK
namespace Go.Proofs.YthljbjokonglhaaGreatDoor.DfK
open Go Am Am.K DfEnv DfM LibP DfG
set_option linter.unusedVariables false
set_option linter.unusedSimpArgs false
set_option maxRecDepth 10000
set_option maxHeartbeats 1000000
/-! back.Delay -/
def dlN : Nat → Nat → Nat
  | 0, d => d
  | n + 1, d => if d < 64000 then dlN n (min (2 * d) 64000) else d
def delN (base try_ : Nat) : Nat := if base = 0 ∨ try_ = 0 then 0 else dlN (try_ - 1) (min base 64000)
theorem min_i (ty : Array TypeId) (x y : Int) (H : Hp) : builtinA P .min ty [.int .i64 x, .int .i64 y] H = some (.int .i64 (if y < x then y else x), H) := Eq.trans rfl (id rfl)
theorem delay_loop {t : Nat} (ht : t ≤ 1000000) {H : Hp} (j21 : K.Fn 1) : ∀ (n d k : Nat), k + n = t → d ≤ 64000 → l_back_Delay JN GO cK j21 (.int .i64 (t : Nat)) (.int .i64 (d : Nat)) (.int .i64 (k : Nat)) H = j21 (.int .i64 (dlN n d : Nat)) H
  | 0, d, k, h, hd => by
    obtain rfl : k = t := by omega
    rw [ql_back_Delay]
    simp only [bl_back_Delay, lt_f, dlN, k_s, k_x, Int.reduceBEq, Int.reduceBNe, Int.reduceLT, Int.reduceLE, Int.reduceGT, Int.reduceGE, Int.reduceNeg]
  | n + 1, d, k, h, hd => by
    have h1 : k < t := by omega
    have es := wrap_s h1 (by omega)
    rw [ql_back_Delay]
    unfold dlN
    by_cases h2 : d < 64000
    · have d2 : decide (((d : Nat) : Int) < 64000) = true := decide_eq_true (by omega)
      have sh : ishl (.int .i64 ((d : Nat) : Int)) (.int .u64 1) = some (.int .i64 ((2 * d : Nat) : Int)) := by
        have := ishl_n (k := .i64) (j := .u64) (a := d) (b := 1)
        rw [show (((1 : Nat) : Int)) = 1 from rfl] at this
        rw [this, show min 1 IntKind.i64.bits = 1 from rfl, Nat.pow_one, Nat.mul_comm, wrap_i64 (by omega) (by omega)]
      have hm : (if (64000 : Int) < ((2 * d : Nat) : Int) then (64000 : Int) else ((2 * d : Nat) : Int)) = ((min (2 * d) 64000 : Nat) : Int) := by
        split <;> omega
      have hmin := min_i #[2, 2] ((2 * d : Nat) : Int) 64000 H
      rw [hm] at hmin
      have ih := delay_loop ht (H := H) j21 n (min (2 * d) 64000) (k + 1) (by omega) (Nat.min_le_right _ _)
      rw [if_pos h2]
      simp only [bl_back_Delay, lt_t h1, d2, sh, hmin, es, ih, k_s, k_x, Int.reduceBEq, Int.reduceBNe, Int.reduceLT, Int.reduceLE, Int.reduceGT, Int.reduceGE, Int.reduceNeg]
    · have d2 : decide (((d : Nat) : Int) < 64000) = false := decide_eq_false (by omega)
      rw [if_neg h2]
      simp only [bl_back_Delay, lt_t h1, d2, k_s, k_x, Int.reduceBEq, Int.reduceBNe, Int.reduceLT, Int.reduceLE, Int.reduceGT, Int.reduceGE, Int.reduceNeg]
theorem delay_c {base t : Nat} (hb : base ≤ 1000000) (ht : t ≤ 1000000) (H : Hp) : cK (.func (.func 81) [] []) [.int .i64 (base : Nat), .int .i64 (t : Nat)] H = some (.int .i64 (delN base t : Nat), H) := by
  refine c_back_Delay ?_
  unfold s_back_Delay delN
  by_cases h0 : base = 0
  · have d0 : decide (((base : Nat) : Int) < 1) = true := decide_eq_true (by omega)
    rw [if_pos (.inl h0)]
    simp only [d0, k_s, k_x, Int.reduceBEq, Int.reduceBNe, Int.reduceLT, Int.reduceLE, Int.reduceGT, Int.reduceGE, Int.reduceNeg]; rfl
  · have d0 : decide (((base : Nat) : Int) < 1) = false := decide_eq_false (by omega)
    by_cases h1 : t = 0
    · have d1 : decide (((t : Nat) : Int) < 1) = true := decide_eq_true (by omega)
      rw [if_pos (.inr h1)]
      simp only [d0, d1, k_s, k_x, Int.reduceBEq, Int.reduceBNe, Int.reduceLT, Int.reduceLE, Int.reduceGT, Int.reduceGE, Int.reduceNeg]; rfl
    · have d1 : decide (((t : Nat) : Int) < 1) = false := decide_eq_false (by omega)
      rw [if_neg (fun q => q.elim h0 h1)]
      have hm : (if (64000 : Int) < ((base : Nat) : Int) then (64000 : Int) else ((base : Nat) : Int)) = ((min base 64000 : Nat) : Int) := by
        split <;> omega
      have hmin := min_i #[2, 2] ((base : Nat) : Int) 64000 H
      rw [hm] at hmin
      have ih := fun j21 => delay_loop ht (H := H) j21 (t - 1) (min base 64000) 1 (by omega) (Nat.min_le_right _ _)
      rw [show (((1 : Nat) : Int)) = 1 from rfl] at ih
      simp only [d0, d1, hmin, ih, k_s, k_x, Int.reduceBEq, Int.reduceBNe, Int.reduceLT, Int.reduceLE, Int.reduceGT, Int.reduceGE, Int.reduceNeg]
def dM (base tr : Int) : Int := (delN base.toNat tr.toNat : Nat)
/-! fail -/
def failR (R : Rn) (i : Nat) (t : RT) (d : Tk) (now : Int) : Rn :=
  if t.tr ≤ d.retry then { R with rs := R.rs.set i { t with ph := 5, til := w64 (now + dM d.base t.tr) } } else { R with rs := R.rs.set i { t with ph := 4, til := 0 }, st := 2 }
theorem RO.upd {H H' : Hp} {dx tx sx : AV} {xs : List AV} {R : Rn} {l : List RT} (h : RO H dx xs tx sx R) (hO : OL H' 51 4 tx (rts l)) (k : Out (rid tx) H H') : RO H' dx xs tx sx { R with rs := l } :=
  ⟨⟨h.v.d.out k fun j hj z => (h.dt j z).1 hj, hO.rl, h.v.s.out k fun j hj z => (h.dt j z).2 hj⟩, hO, h.s.out k fun j hj z => (h.dt j z).2 hj, h.dt, h.ds⟩
theorem fail_c {H : Hp} {p i : Nat} {dx tx sx : AV} {xs : List AV} {R : Rn} {t : RT} {d : Tk} (hC : Cs H p (rv dx R.st tx sx) 47 0) (hO : RO H dx xs tx sx R) (hp : p ∉ fpR dx xs tx sx) (ht : R.rs[i]? = some t) (hd : R.ts[i]? = some d) (hb0 : 0 ≤ d.base) (hb : d.base ≤ 1000000) (ht0 : 0 ≤ t.tr) (ht1 : t.tr ≤ 1000000) (now : Int) :
    ∃ H', cK (.func (.func 52) [] []) [.ptr p 0, .int .i64 (i : Nat), .int .i64 now] H = some (.tuple [], H') ∧ Cs H' p (rv dx (failR R i t d now).st tx sx) 47 0 ∧ RO H' dx xs tx sx (failR R i t d now) ∧ Out (p :: rid tx) H H' := by
  have hpt : p ∉ rid tx := fun z => hp (List.mem_append_right _ (List.mem_append_left _ z))
  obtain ⟨x, b2, o2', p1, p2, p3, p4, p5, p6⟩ := hO.v.d.at2 hd
  have hst := st_tk d x p4 H
  have o1 := al_out H (tkC d x) 43 0
  have cT := al_cs H (tkC d x) 43 0
  have c2 : cellAt H p 2 = some tx := hC.cellAt rfl
  have c0 : cellAt H p 0 = some dx := hC.cellAt rfl
  obtain ⟨b, o, q1, q2, q3, q4, q5⟩ := (hO.v.t.out0 o1).at (by decide) (rts_get ht)
  have r1 : cellAt (al H (tkC d x) 43 0) b (o + 1) = some (.int .i64 t.tr) := q5 1 _ (fd_rt t).2.1
  have m2 : cellAt (al H (tkC d x) 43 0) H.next 2 = some (.int .i64 d.retry) := cT.cellAt (fd_tk d x).2.2.1
  have m4 : cellAt (al H (tkC d x) 43 0) H.next 4 = some (.int .i64 d.base) := cT.cellAt (fd_tk d x).2.2.2.2.1
  have hO1 := hO.out0 o1
  have hC1 := hC.out o1 (by simp)
  have hil := (List.getElem?_eq_some_iff.1 ht).1
  have hdel : cK (.func (.func 81) [] []) [.int .i64 d.base, .int .i64 t.tr] (al H (tkC d x) 43 0) = some (.int .i64 (dM d.base t.tr), al H (tkC d x) 43 0) := by
    have := delay_c (base := d.base.toNat) (t := t.tr.toNat) (by omega) (by omega) (al H (tkC d x) 43 0)
    rw [show ((d.base.toNat : Nat) : Int) = d.base by omega, show ((t.tr.toNat : Nat) : Int) = t.tr by omega] at this
    exact this
  generalize hA : al H (tkC d x) 43 0 = H1 at *
  have two : ∀ (a c : Int), ∃ H3 H2, st 1 (.ptr b o) (.int .i64 a) H1 = some H2 ∧ st 1 (.ptr b (o + 2)) (.int .i64 c) H2 = some H3 ∧ OL H3 51 4 tx (rts (R.rs.set i { t with ph := a, til := c })) ∧ Out (rid tx) H1 H3 := by
    intro a c
    obtain ⟨H2, w1, w2, w3, w4⟩ := hO1.t.st1 (k := 0) (v := .int .i64 a) (rts_get ht) q1 rfl (by decide)
    have e2 : ((rts R.rs).set i ((rtC t).set 0 (.int .i64 a)))[i]? = some ((rtC t).set 0 (.int .i64 a)) := List.getElem?_set_self (by rw [rts_len]; exact hil)
    obtain ⟨H3, v1, v2, v3, v4⟩ := w2.st1 (k := 2) (v := .int .i64 c) e2 q1 rfl (by decide)
    rw [List.set_set] at v2
    have hset : ((rtC t).set 0 (.int .i64 a)).set 2 (.int .i64 c) = rtC { t with ph := a, til := c } := rfl
    rw [hset, rts_set] at v2
    rw [Nat.add_zero] at w1
    exact ⟨H3, H2, w1, v1, v2, w3.trans v3⟩
  unfold failR
  by_cases hle : t.tr ≤ d.retry
  · have dl : decide (t.tr ≤ d.retry) = true := decide_eq_true hle
    obtain ⟨H3, H2, v1, v2, v3, v4⟩ := two 5 (w64 (now + dM d.base t.tr))
    rw [if_pos hle]
    refine ⟨H3, c_run_Run_fail ?_, hC1.out v4 hpt, hO1.upd v3 v4, (o1.mono fun j hj => by cases hj).trans (v4.mono fun j hj => .tail _ hj)⟩
    unfold s_run_Run_fail
    simp (disch := (first | assumption | omega | (simp only [k_d, k_c, Nat.reduceAdd, Nat.reduceLeDiff, Nat.reduceLT] <;> fail) | (simp only [k_c]; omega) | (simp only [k_d, k_c, Nat.reduceAdd, Nat.reduceLeDiff, Nat.reduceLT, *] <;> fail) | fail)) only [c2, c0, q1, p1, p5, hst, hA, r1, m2, m4, dl, hdel, v1, v2, k_a, k_b, Nat.reduceAdd, k_s, k_x, Int.reduceBEq, Int.reduceBNe, Int.reduceLT, Int.reduceLE, Int.reduceGT, Int.reduceGE, Int.reduceNeg]
  · have dl : decide (t.tr ≤ d.retry) = false := decide_eq_false hle
    obtain ⟨H3, H2, v1, v2, v3, v4⟩ := two 4 0
    rw [if_neg hle]
    obtain ⟨H4, w1, w2, w3, w4⟩ := st1 (hC1.out v4 hpt) (by decide) (o := 1) (by simp) (v := .int .i64 2) rfl
    have hset : (rv dx R.st tx sx).set 1 (.int .i64 2) = rv dx 2 tx sx := rfl
    rw [hset] at w2
    have hR4 := (hO1.upd v3 v4).out w3 fun j hj => by rw [List.mem_singleton]; intro e; subst e; exact hp hj
    refine ⟨H4, c_run_Run_fail ?_, w2, ⟨⟨hR4.v.d, hR4.v.t, hR4.v.s⟩, hR4.t, hR4.s, hR4.dt, hR4.ds⟩, ((o1.mono fun j hj => by cases hj).trans (v4.mono fun j hj => .tail _ hj)).trans (w3.mono fun j hj => by rw [List.mem_singleton] at hj; subst hj; exact .head _)⟩
    unfold s_run_Run_fail
    simp (disch := (first | assumption | omega | (simp only [k_d, k_c, Nat.reduceAdd, Nat.reduceLeDiff, Nat.reduceLT] <;> fail) | (simp only [k_c]; omega) | (simp only [k_d, k_c, Nat.reduceAdd, Nat.reduceLeDiff, Nat.reduceLT, *] <;> fail) | fail)) only [c2, c0, q1, p1, p5, hst, hA, r1, m2, m4, dl, v1, v2, w1, k_a, k_b, Nat.reduceAdd, k_s, k_x, Int.reduceBEq, Int.reduceBNe, Int.reduceLT, Int.reduceLE, Int.reduceGT, Int.reduceGE, Int.reduceNeg]
/-- what Delay needs -/
structure Bd2 (R : Rn) : Prop where
  d : ∀ t ∈ R.ts, 0 ≤ t.base ∧ t.base ≤ 1000000
  t : ∀ t ∈ R.rs, 0 ≤ t.tr ∧ t.tr ≤ 1000000
def failM (R : Rn) (task try_ now : Int) : Rn × Int :=
  if heldM R task try_ = 0 then (match R.rs[task.toNat]?, R.ts[task.toNat]? with
    | some t, some d => (failR R task.toNat t d now, 0)
    | _, _ => (Rn0, 0)) else (Rn0, heldM R task try_)
theorem failc_c {H : Hp} {dx tx sx : AV} {xs : List AV} {R : Rn} (h : RV H dx xs tx sx R) (hk : Okr R) (hb : Bd2 R) (task try_ now : Int) :
    Ans (.func (.func 21) [] []) [.agg (rv dx R.st tx sx), .int .i64 task, .int .i64 try_, .int .i64 now] H (failM R task try_ now).1 (failM R task try_ now).2 := by
  have hbx : bx 47 (.agg (rv dx R.st tx sx)) H = some (H.next, al H (rv dx R.st tx sx) 47 0) := bx_alA (by simp)
  have o1 := al_out H (rv dx R.st tx sx) 47 0
  have c1 := al_cs H (rv dx R.st tx sx) 47 0
  have n1 : (al H (rv dx R.st tx sx) 47 0).next = H.next + 1 := rfl
  generalize al H (rv dx R.st tx sx) 47 0 = H1 at *
  have o2 := al_out H1 zR 47 0
  have c2 := al_cs H1 zR 47 0
  have n2 : (al H1 zR 47 0).next = H.next + 2 := by rw [al_nx, n1]
  rw [n1] at c2
  generalize hA2 : al H1 zR 47 0 = H2 at *
  have o12 := o1.trans o2
  have cP2 := c1.out o2 (by simp)
  have k1 : cellsAt H2 H.next 0 4 = some (rv dx R.st tx sx) := cP2.cellsAt 4 0 (by simp)
  obtain ⟨H3, hm, o3⟩ := held_c (h.out0 o12) task try_
  have n3 := o3.nx
  have o13 := o12.trans o3
  have cP3 := cP2.out o3 (by simp)
  have cQ3 := c2.out o3 (by simp)
  unfold failM
  by_cases h0 : heldM R task try_ = 0
  · obtain ⟨i, t, rfl, ht, hst, hph, htr⟩ := held_ok h0
    have hil := (List.getElem?_eq_some_iff.1 ht).1
    have hd : R.ts[i]? = some (R.ts[i]'(by rw [← hk.len]; exact hil)) := List.getElem?_eq_getElem _
    have d0 : (heldM R (i : Int) try_ != 0) = false := by simp [h0]
    rw [if_pos h0, Int.toNat_natCast, ht, hd]
    simp only
    generalize R.ts[i]'(by rw [← hk.len]; exact hil) = d at *
    have k3 : cellsAt H3 H.next 0 4 = some (rv dx R.st tx sx) := cP3.cellsAt 4 0 (by simp)
    obtain ⟨dx', xs', tx', sx', H4, r1, r2, r3, r4⟩ := clone_c (h.out0 o13) hk.sm
    have n4 := r3.nx
    have ones : ∀ z : Int, (rv dx' z tx' sx').all oneC = true := fun z => by simp [r2.v.d.row.one, r2.t.rl.one, r2.s.oneX, oneC_i]
    obtain ⟨H5, s1, s2, s3, s4⟩ := stAll (n := 4) (vs := rv dx' R.st tx' sx') (cP3.out r3 (by simp)) rfl rfl (ones _)
    have fr : ∀ m, m < H.next + 2 → ∀ j ∈ fpR dx' xs' tx' sx', j ∉ [m] := fun m hm j hj => by rw [List.mem_singleton]; have := r4 j hj; omega
    have R5 := r2.out s3 (fr _ (by omega))
    have ntx : ∀ m, m < H.next + 2 → m ∉ rid tx' := fun m hm z => by have := r4 m (List.mem_append_right _ (List.mem_append_left _ z)); omega
    have b1 := hb.d d (List.mem_of_getElem? hd)
    have b2 := hb.t t (List.mem_of_getElem? ht)
    obtain ⟨H7, t1, t2, t3, t4⟩ := fail_c s2 R5 (fun z => by have := r4 _ z; omega) ht hd b1.1 b1.2 b2.1 b2.2 now
    have ntp : ∀ m, m < H.next + 2 → m ≠ H.next → m ∉ H.next :: rid tx' := fun m hm hne z => (List.mem_cons.1 z).elim hne (ntx m hm)
    have cQ7 := ((cQ3.out r3 (by simp)).out s3 (by rw [List.mem_singleton]; omega)).out t4 (ntp _ (by omega) (by omega))
    generalize failR R i t d now = R7 at *
    have k7 : cellsAt H7 H.next 0 4 = some (rv dx' R7.st tx' sx') := t2.cellsAt 4 0 (by simp)
    obtain ⟨H8, w1, w2, w3, w4⟩ := stAll (n := 4) (vs := rv dx' R7.st tx' sx') cQ7 rfl rfl (ones _)
    have k8 : cellsAt H8 (H.next + 1) 0 4 = some (rv dx' R7.st tx' sx') := w2.cellsAt 4 0 (by simp)
    have hge : ∀ j ∈ rid tx', H.next ≤ j := fun j hj => by have := r4 j (List.mem_append_right _ (List.mem_append_left _ hj)); omega
    have out := outNew (outNew (outNew (o13.trans r3) s3 (one_ge (Nat.le_refl _))) t4 (fun j hj => (List.mem_cons.1 hj).elim (fun e => by omega) (hge j))) w3 (one_ge (Nat.le_succ _))
    refine ⟨dx', xs', tx', sx', H8, c__run_Run_Fail ?_, t3.out w3 (fr _ (by omega)), out, fun j hj => by have := r4 j hj; omega⟩
    unfold s__run_Run_Fail
    simp (disch := (first | assumption | omega | (simp only [k_d, k_c, Nat.reduceAdd, Nat.reduceLeDiff, Nat.reduceLT] <;> fail) | (simp only [k_c]; omega) | (simp only [k_d, k_c, Nat.reduceAdd, Nat.reduceLeDiff, Nat.reduceLT, *] <;> fail) | fail)) only [hbx, n1, hA2, k1, hm, d0, k3, r1, s1, t1, k7, w1, k8, k_a, k_b, Nat.reduceAdd, k_s, k_x, Int.reduceBEq, Int.reduceBNe, Int.reduceLT, Int.reduceLE, Int.reduceGT, Int.reduceGE, Int.reduceNeg]
  · have d0 : (heldM R task try_ != 0) = true := by simp [h0]
    rw [if_neg h0]
    obtain ⟨H4, w1, w2, w3, w4⟩ := stAll (n := 4) (vs := zR) cQ3 rfl rfl rfl
    have k5 : cellsAt H4 (H.next + 1) 0 4 = some zR := w2.cellsAt 4 0 (by simp)
    refine Ans.err (c__run_Run_Fail (?_ : _ = some (_, H4))) o13 w3 (Nat.le_succ _)
    unfold s__run_Run_Fail
    simp (disch := (first | assumption | omega | (simp only [k_d, k_c, Nat.reduceAdd, Nat.reduceLeDiff, Nat.reduceLT] <;> fail) | (simp only [k_c]; omega) | (simp only [k_d, k_c, Nat.reduceAdd, Nat.reduceLeDiff, Nat.reduceLT, *] <;> fail) | fail)) only [hbx, n1, hA2, k1, hm, d0, w1, k5, k_a, k_b, Nat.reduceAdd, k_s, k_x, Int.reduceBEq, Int.reduceBNe, Int.reduceLT, Int.reduceLE, Int.reduceGT, Int.reduceGE, Int.reduceNeg]
end Go.Proofs.YthljbjokonglhaaGreatDoor.DfK
namespace Go.Proofs.YthljbjokonglhaaGreatDoor.DfK
open Go Am Am.K DfEnv DfM LibP DfG
set_option linter.unusedVariables false
set_option linter.unusedSimpArgs false
set_option maxRecDepth 10000
set_option maxHeartbeats 1000000
theorem signal1_c {H : Hp} {g : Nat} {name : Str} (hg : cellAt H g 0 = some (.str name)) (hgl : g < H.next) (t : Tk) (x : AV) :
    ∃ H', cK (.func (.func 60) [] [.ptr g 0]) [.agg (tkC t x)] H = some (.bool ((t.on == name) && !(name == [])), H') ∧ Out [] H H' := by
  have b1 := bx_tk t x H
  have o1 := al_out H (tkC t x) 43 0
  have c1 := al_cs H (tkC t x) 43 0
  have hg1 : cellAt (al H (tkC t x) 43 0) g 0 = some (.str name) := by rw [cellAt_al_ne hgl]; exact hg
  have k5 := c1.cellAt (fd_tk t x).2.2.2.2.2
  generalize hA : al H (tkC t x) 43 0 = H1 at *
  refine ⟨H1, c__run_Run_Signal_1 ?_, o1⟩
  unfold s__run_Run_Signal_1
  cases h1 : (t.on == name) with
  | false => simp (disch := (first | assumption | omega | (simp only [k_d, k_c, Nat.reduceAdd, Nat.reduceLeDiff, Nat.reduceLT] <;> fail) | (simp only [k_c]; omega) | (simp only [k_d, k_c, Nat.reduceAdd, Nat.reduceLeDiff, Nat.reduceLT, *] <;> fail) | fail)) only [b1, hA, hg1, k5, h1, Bool.false_and, k_a, k_b, Nat.reduceAdd, k_s, k_x, Int.reduceBEq, Int.reduceBNe, Int.reduceLT, Int.reduceLE, Int.reduceGT, Int.reduceGE, Int.reduceNeg]
  | true =>
    cases h2 : (name == []) with
    | false => simp (disch := (first | assumption | omega | (simp only [k_d, k_c, Nat.reduceAdd, Nat.reduceLeDiff, Nat.reduceLT] <;> fail) | (simp only [k_c]; omega) | (simp only [k_d, k_c, Nat.reduceAdd, Nat.reduceLeDiff, Nat.reduceLT, *] <;> fail) | fail)) only [b1, hA, hg1, k5, h1, h2, Bool.true_and, k_a, k_b, Nat.reduceAdd, k_s, k_x, Int.reduceBEq, Int.reduceBNe, Int.reduceLT, Int.reduceLE, Int.reduceGT, Int.reduceGE, Int.reduceNeg]
    | true => simp (disch := (first | assumption | omega | (simp only [k_d, k_c, Nat.reduceAdd, Nat.reduceLeDiff, Nat.reduceLT] <;> fail) | (simp only [k_c]; omega) | (simp only [k_d, k_c, Nat.reduceAdd, Nat.reduceLeDiff, Nat.reduceLT, *] <;> fail) | fail)) only [b1, hA, hg1, k5, h1, h2, Bool.true_and, k_a, k_b, Nat.reduceAdd, k_s, k_x, Int.reduceBEq, Int.reduceBNe, Int.reduceLT, Int.reduceLE, Int.reduceGT, Int.reduceGE, Int.reduceNeg]
def sigP (name : Str) (c : List AV) : Bool := match c[5]? with | some (AV.str s) => (s == name) && !(name == []) | _ => false
def knownS (ts : List Tk) (name : Str) : Bool := ts.any fun t => (t.on == name) && !(name == [])
def signalM (R : Rn) (name : Str) : Rn × Int :=
  if R.st ≠ 0 then (Rn0, 9) else if R.sg.any (fun s => name == s) then (Rn0, 5) else if knownS R.ts name then (settleM { R with sg := R.sg ++ [name] }, 0) else (Rn0, 1)
theorem zip_any {ts : List Tk} {name : Str} : ∀ {xs : List AV}, xs.length = ts.length → (List.zipWith tkC ts xs).any (sigP name) = knownS ts name := by
  induction ts with
  | nil => intro xs _; rfl
  | cons t ts ih =>
    intro xs h
    cases xs with
    | nil => simp at h
    | cons x xs =>
      simp only [List.length_cons, Nat.add_right_cancel_iff] at h
      show (sigP name (tkC t x) || (List.zipWith tkC ts xs).any (sigP name)) = _
      rw [ih h]
      rfl
theorem signal_c {H : Hp} {dx tx sx : AV} {xs : List AV} {R : Rn} (h : RV H dx xs tx sx R) (hk : Okr R) (hsg : R.sg.length ≤ 900) (name : Str) :
    Ans (.func (.func 26) [] []) [.agg (rv dx R.st tx sx), .str name] H (signalM R name).1 (signalM R name).2 := by
  have hbx : bx 47 (.agg (rv dx R.st tx sx)) H = some (H.next, al H (rv dx R.st tx sx) 47 0) := bx_alA (by simp)
  have o1 := al_out H (rv dx R.st tx sx) 47 0
  have c1 := al_cs H (rv dx R.st tx sx) 47 0
  have n1 : (al H (rv dx R.st tx sx) 47 0).next = H.next + 1 := rfl
  generalize hA1 : al H (rv dx R.st tx sx) 47 0 = H1 at *
  have oS := al_out H1 [.str name] 9 0
  have cS := al_cs H1 [.str name] 9 0
  have nS : (al H1 [.str name] 9 0).next = H.next + 2 := by rw [al_nx, n1]
  rw [n1] at cS
  generalize hAS : al H1 [.str name] 9 0 = HS at *
  have o2 := al_out HS zR 47 0
  have c2 := al_cs HS zR 47 0
  have n2 : (al HS zR 47 0).next = H.next + 3 := by rw [al_nx, nS]
  rw [nS] at c2
  generalize hA2 : al HS zR 47 0 = H2 at *
  have o12 := (o1.trans oS).trans o2
  have cP2 := (c1.out oS (by simp)).out o2 (by simp)
  have cS2 := cS.out o2 (by simp)
  have k0 : cellAt H2 H.next 0 = some dx := cP2.cellAt rfl
  have k1 : cellAt H2 H.next 1 = some (.int .i64 R.st) := cP2.cellAt rfl
  have k3 : cellAt H2 H.next 3 = some sx := cP2.cellAt rfl
  have kS : cellAt H2 (H.next + 1) 0 = some (.str name) := cS2.cellAt rfl
  unfold signalM
  by_cases h0 : R.st ≠ 0
  · have d0 : (R.st != 0) = true := by simp [h0]
    rw [if_pos h0]
    have k5 : cellsAt H2 (H.next + 2) 0 4 = some zR := c2.cellsAt 4 0 (by simp)
    refine Ans.err (m := H.next + 2) (c__run_Run_Signal (?_ : _ = some (_, H2))) o12 ((Out.refl [] H2).mono fun j hj => by cases hj) (by omega)
    unfold s__run_Run_Signal
    simp (disch := (first | assumption | omega | (simp only [k_d, k_c, Nat.reduceAdd, Nat.reduceLeDiff, Nat.reduceLT] <;> fail) | (simp only [k_c]; omega) | (simp only [k_d, k_c, Nat.reduceAdd, Nat.reduceLeDiff, Nat.reduceLT, *] <;> fail) | fail)) only [hbx, hA1, n1, hAS, nS, hA2, k1, d0, k5, k_a, k_b, Nat.reduceAdd, k_s, k_x, Int.reduceBEq, Int.reduceBNe, Int.reduceLT, Int.reduceLE, Int.reduceGT, Int.reduceGE, Int.reduceNeg]
  have d0 : (R.st != 0) = false := by simpa using h0
  rw [if_neg h0]
  have hct := containsstring_c (h.s.out0 o12) (by omega) name
  cases h5 : R.sg.any (fun s => name == s) with
  | true =>
    rw [h5] at hct
    rw [if_pos rfl]
    obtain ⟨H4, w1, w2, w3, w4⟩ := stAll (n := 4) (vs := zR) c2 rfl rfl rfl
    have k5 : cellsAt H4 (H.next + 2) 0 4 = some zR := w2.cellsAt 4 0 (by simp)
    refine Ans.err (c__run_Run_Signal (?_ : _ = some (_, H4))) o12 w3 (by omega)
    unfold s__run_Run_Signal
    simp (disch := (first | assumption | omega | (simp only [k_d, k_c, Nat.reduceAdd, Nat.reduceLeDiff, Nat.reduceLT] <;> fail) | (simp only [k_c]; omega) | (simp only [k_d, k_c, Nat.reduceAdd, Nat.reduceLeDiff, Nat.reduceLT, *] <;> fail) | fail)) only [hbx, hA1, n1, hAS, nS, hA2, k1, d0, k3, kS, hct, w1, k5, k_a, k_b, Nat.reduceAdd, k_s, k_x, Int.reduceBEq, Int.reduceBNe, Int.reduceLT, Int.reduceLE, Int.reduceGT, Int.reduceGE, Int.reduceNeg]
  | false =>
    rw [h5] at hct
    rw [if_neg (by simp)]
    have hzl : (List.zipWith tkC R.ts xs).length ≤ 1000 := by rw [List.length_zipWith]; exact Nat.le_trans (Nat.min_le_left _ _) hk.sm.n
    obtain ⟨H3, f1, f2⟩ := containsFuncTask_c (fv := .func (.func 60) [] [.ptr (H.next + 1) 0]) (p := sigP name) (h.d.row.out0 o12) (by omega) (fun H' k a ha => by
      obtain ⟨i, hi⟩ := List.getElem?_of_mem ha
      rw [List.getElem?_zipWith] at hi
      cases ht : R.ts[i]? with
      | none => rw [ht] at hi; simp at hi
      | some t =>
        cases hx : xs[i]? with
        | none => rw [ht, hx] at hi; simp at hi
        | some x =>
          rw [ht, hx] at hi
          simp only [Option.some.injEq] at hi
          subst hi
          have hk' := k.nx
          exact signal1_c (g := H.next + 1) (by rw [k.cellAt (by omega) (by simp)]; exact kS) (by omega) t x)
    rw [zip_any h.d.len] at f1
    have o13 := o12.trans f2
    have n3 := f2.nx
    have cP3 := cP2.out f2 (by simp)
    have cS3 := cS2.out f2 (by simp)
    have cQ3 := c2.out f2 (by simp)
    cases h6 : knownS R.ts name with
    | false =>
      rw [h6] at f1
      rw [if_neg (by simp)]
      obtain ⟨H4, w1, w2, w3, w4⟩ := stAll (n := 4) (vs := zR) cQ3 rfl rfl rfl
      have k5 : cellsAt H4 (H.next + 2) 0 4 = some zR := w2.cellsAt 4 0 (by simp)
      refine Ans.err (c__run_Run_Signal (?_ : _ = some (_, H4))) o13 w3 (by omega)
      unfold s__run_Run_Signal
      simp (disch := (first | assumption | omega | (simp only [k_d, k_c, Nat.reduceAdd, Nat.reduceLeDiff, Nat.reduceLT] <;> fail) | (simp only [k_c]; omega) | (simp only [k_d, k_c, Nat.reduceAdd, Nat.reduceLeDiff, Nat.reduceLT, *] <;> fail) | fail)) only [hbx, hA1, n1, hAS, nS, hA2, k1, d0, k3, kS, hct, k0, f1, w1, k5, k_a, k_b, Nat.reduceAdd, k_s, k_x, Int.reduceBEq, Int.reduceBNe, Int.reduceLT, Int.reduceLE, Int.reduceGT, Int.reduceGE, Int.reduceNeg]
    | true =>
      rw [h6] at f1
      rw [if_pos rfl]
      have k4 : cellsAt H3 H.next 0 4 = some (rv dx R.st tx sx) := cP3.cellsAt 4 0 (by simp)
      obtain ⟨dx', xs', tx', sx', H4, r1, r2, r3, r4⟩ := clone_c (h.out0 o13) hk.sm
      have n4 := r3.nx
      have ones : ∀ z : Int, ∀ s : AV, oneC s = true → (rv dx' z tx' s).all oneC = true := fun z s hs => by simp [r2.v.d.row.one, r2.t.rl.one, hs, oneC_i]
      obtain ⟨H5, s1, s2, s3, s4⟩ := stAll (n := 4) (vs := rv dx' R.st tx' sx') (cP3.out r3 (by simp)) rfl rfl (ones _ _ r2.s.oneX)
      have fr : ∀ m, m < H.next + 3 → ∀ j ∈ fpR dx' xs' tx' sx', j ∉ [m] := fun m hm j hj => by rw [List.mem_singleton]; have := r4 j hj; omega
      have R5 := r2.out s3 (fr _ (by omega))
      have k53 : cellAt H5 H.next 3 = some sx' := s2.cellAt rfl
      have kS5 : cellAt H5 (H.next + 1) 0 = some (.str name) := ((cS3.out r3 (by simp)).out s3 (by rw [List.mem_singleton]; omega)).cellAt rfl
      have fl5 := R5.v.lt
      have n5 := s3.nx
      have nsx : ∀ m, m < H.next + 3 → m ∉ rid sx' := fun m hm z => by have := r4 m (List.mem_append_right _ (List.mem_append_right _ z)); omega
      obtain ⟨sx2, H6, p1, p2, p3, p4, p5⟩ := push_ok (el2 := 9) (z := [(.str [])]) (vs := [.str name]) R5.s rfl rfl (by decide) (by rw [strs_len]; simp; omega)
      have hp2 : strs R.sg ++ [.str name] = strs (R.sg ++ [name]) := by simp [strs]
      rw [hp2] at p2
      have p1' := p1 _ rfl
      have n6 := p3.nx
      have s6 := s2.out p3 (nsx _ (by omega))
      obtain ⟨H7, v1, v2, v3, v4⟩ := Am.K.st1 s6 (by decide) (o := 3) (by simp) (v := sx2) p5
      have hset : (rv dx' R.st tx' sx').set 3 sx2 = rv dx' R.st tx' sx2 := rfl
      rw [hset] at v2
      have n7 := v3.nx
      have hs2 : ∀ j ∈ rid sx2, j ∈ rid sx' ∨ H5.next ≤ j := p4
      have ge2 : ∀ j ∈ fpR dx' xs' tx' sx2, H.next + 3 ≤ j := fun j hj => by
        rcases List.mem_append.1 hj with hj | hj
        · have := r4 j (List.mem_append_left _ hj); omega
        · rcases List.mem_append.1 hj with hj | hj
          · have := r4 j (List.mem_append_right _ (List.mem_append_left _ hj)); omega
          · rcases hs2 j hj with z | z
            · have := r4 j (List.mem_append_right _ (List.mem_append_right _ z)); omega
            · omega
      have hP7 : ∀ j, H.next + 3 ≤ j → j ∉ [H.next] := fun j hj => by rw [List.mem_singleton]; omega
      have RO7 : RO H7 dx' xs' tx' sx2 { R with sg := R.sg ++ [name] } := by
        have hd6 := (R5.v.d.out p3 fun j hj z => R5.ds j z hj).out v3 fun j hj => hP7 j (ge2 j (List.mem_append_left _ hj))
        have ht6 := (R5.t.out p3 fun j hj z => (R5.dt j hj).2 z).out v3 fun j hj => hP7 j (ge2 j (List.mem_append_right _ (List.mem_append_left _ hj)))
        have hs6 := p2.out v3 fun j hj => hP7 j (ge2 j (List.mem_append_right _ (List.mem_append_right _ hj)))
        refine ⟨⟨hd6, ht6.rl, hs6.rw⟩, ht6, hs6, fun j hj => ⟨(R5.dt j hj).1, fun z => ?_⟩, fun j hj z => ?_⟩
        · rcases hs2 j z with y | y
          · exact (R5.dt j hj).2 y
          · have := R5.t.rl.1.lt j hj; omega
        · rcases hs2 j hj with y | y
          · exact R5.ds j y z
          · have := R5.v.d.lt j z; omega
      have hk2 : Okr { R with sg := R.sg ++ [name] } := ⟨⟨hk.sm.n, hk.sm.a, hk.sm.r, by show (R.sg ++ [name]).length ≤ 1000; rw [List.length_append]; simp; omega⟩, hk.len, hk.aft⟩
      obtain ⟨H8, t1, t2, t3, t4⟩ := settle_c (R := { R with sg := R.sg ++ [name] }) v2 RO7 (fun z => by have := ge2 _ z; omega) hk2.sm hk2.len hk2.aft
      have hgt : ∀ j ∈ rid tx', H.next + 3 ≤ j := fun j hj => by have := r4 j (List.mem_append_right _ (List.mem_append_left _ hj)); omega
      have cQ8 := ((((cQ3.out r3 (by simp)).out s3 (by rw [List.mem_singleton]; omega)).out p3 (nsx _ (by omega))).out v3 (by rw [List.mem_singleton]; omega)).out t4 fun z => (List.mem_cons.1 z).elim (fun e => by omega) fun z => by have := hgt _ z; omega
      generalize settleM { R with sg := R.sg ++ [name] } = R8 at *
      have k8 : cellsAt H8 H.next 0 4 = some (rv dx' R8.st tx' sx2) := t2.cellsAt 4 0 (by simp)
      obtain ⟨H9, w1, w2, w3, w4⟩ := stAll (n := 4) (vs := rv dx' R8.st tx' sx2) cQ8 rfl rfl (ones _ _ p5)
      have k9 : cellsAt H9 (H.next + 2) 0 4 = some (rv dx' R8.st tx' sx2) := w2.cellsAt 4 0 (by simp)
      have out := outNew (outNew (outNew (outNew (outNew (o13.trans r3) s3 (one_ge (Nat.le_refl _))) p3 (fun j hj => by have := r4 j (List.mem_append_right _ (List.mem_append_right _ hj)); omega)) v3 (one_ge (Nat.le_refl _))) t4 (fun j hj => (List.mem_cons.1 hj).elim (fun e => by omega) fun z => by have := hgt _ z; omega)) w3 (one_ge (by omega))
      refine ⟨dx', xs', tx', sx2, H9, c__run_Run_Signal ?_, t3.out w3 (fun j hj => by rw [List.mem_singleton]; have := ge2 j hj; omega), out, fun j hj => by have := ge2 j hj; omega⟩
      unfold s__run_Run_Signal
      simp (disch := (first | assumption | omega | (simp only [k_d, k_c, Nat.reduceAdd, Nat.reduceLeDiff, Nat.reduceLT] <;> fail) | (simp only [k_c]; omega) | (simp only [k_d, k_c, Nat.reduceAdd, Nat.reduceLeDiff, Nat.reduceLT, *] <;> fail) | fail)) only [hbx, hA1, n1, hAS, nS, hA2, k1, d0, k3, kS, hct, k0, f1, k4, r1, s1, k53, kS5, p1', v1, t1, k8, w1, k9, k_a, k_b, Nat.reduceAdd, k_s, k_x, Int.reduceBEq, Int.reduceBNe, Int.reduceLT, Int.reduceLE, Int.reduceGT, Int.reduceGE, Int.reduceNeg]
end Go.Proofs.YthljbjokonglhaaGreatDoor.DfK
namespace Go.Proofs.YthljbjokonglhaaGreatDoor.DfK
open Go Am Am.K DfEnv DfM LibP DfG
set_option linter.unusedVariables false
set_option linter.unusedSimpArgs false
set_option maxRecDepth 10000
set_option maxHeartbeats 1000000
/-! Tick -/
def tickAt (now : Int) (R : Rn) (i : Nat) : Rn := match R.rs[i]?, R.ts[i]? with
  | some t, some d => if R.st ≠ 0 ∨ now < t.til then R else if t.ph = 2 then failR R i t d now else if t.ph = 5 then { R with rs := R.rs.set i { t with ph := 1, til := 0 } } else R
  | _, _ => R
def tickN (now : Int) : Nat → Nat → Rn → Rn
  | 0, _, R => R
  | m + 1, i, R => tickN now m (i + 1) (tickAt now R i)
def tickM (R : Rn) (now : Int) : Rn := tickN now R.rs.length 0 R
theorem mem_set {rs : List RT} {i : Nat} {u v : RT} (h : v ∈ rs.set i u) : v ∈ rs ∨ v = u := List.mem_or_eq_of_mem_set h
theorem failR_keep {R : Rn} {i : Nat} {t : RT} {d : Tk} {now : Int} (ht : R.rs[i]? = some t) (hk : Okr R) (hb : Bd2 R) : Okr (failR R i t d now) ∧ Bd2 (failR R i t d now) ∧ (failR R i t d now).ts = R.ts ∧ (failR R i t d now).sg = R.sg ∧ (failR R i t d now).rs.length = R.rs.length := by
  have hbt := hb.t t (List.mem_of_getElem? ht)
  unfold failR
  split
  · refine ⟨hk.set i _, ⟨hb.d, fun u hu => ?_⟩, rfl, rfl, List.length_set⟩
    rcases mem_set hu with hu | rfl
    · exact hb.t u hu
    · exact hbt
  · have h1 := hk.set i { t with ph := 4, til := 0 }
    refine ⟨⟨⟨h1.sm.n, h1.sm.a, h1.sm.r, h1.sm.s⟩, h1.len, h1.aft⟩, ⟨hb.d, fun u hu => ?_⟩, rfl, rfl, List.length_set⟩
    rcases mem_set hu with hu | rfl
    · exact hb.t u hu
    · exact hbt
theorem tickAt_keep {R : Rn} {i : Nat} {now : Int} (hk : Okr R) (hb : Bd2 R) : Okr (tickAt now R i) ∧ Bd2 (tickAt now R i) ∧ (tickAt now R i).ts = R.ts ∧ (tickAt now R i).sg = R.sg ∧ (tickAt now R i).rs.length = R.rs.length := by
  unfold tickAt
  split
  · rename_i t d ht hd
    split
    · exact ⟨hk, hb, rfl, rfl, rfl⟩
    · split
      · exact failR_keep ht hk hb
      · split
        · refine ⟨hk.set i _, ⟨hb.d, fun u hu => ?_⟩, rfl, rfl, List.length_set⟩
          rcases mem_set hu with hu | rfl
          · exact hb.t u hu
          · exact hb.t t (List.mem_of_getElem? ht)
        · exact ⟨hk, hb, rfl, rfl, rfl⟩
  · exact ⟨hk, hb, rfl, rfl, rfl⟩
theorem tick_loop {dx tx sx x16 : AV} {xs : List AV} {P n : Nat} {now : Int} (hn : n ≤ 1000) (hp : P ∉ fpR dx xs tx sx) : ∀ (m i : Nat) (H : Hp) (R : Rn), i + m = n → R.rs.length = n → Cs H P (rv dx R.st tx sx) 47 0 → RO H dx xs tx sx R → Okr R → Bd2 R →
    ∃ H', (∀ j12 : K.Fn 2, l__run_Run_Tick JN GO cK j12 (.int .i64 now) (.ptr P 0) x16 (.int .i64 (n : Nat)) (.int .i64 (i : Nat)) H = j12 (.ptr P 0) x16 H') ∧ Cs H' P (rv dx (tickN now m i R).st tx sx) 47 0 ∧ RO H' dx xs tx sx (tickN now m i R) ∧ Out (P :: rid tx) H H'
  | 0, i, H, R, hm, hl, hC, hO, hk, hb => by
    obtain rfl : i = n := by omega
    refine ⟨H, fun j12 => ?_, hC, hO, Out.refl _ _⟩
    rw [ql__run_Run_Tick]
    simp only [bl__run_Run_Tick, lt_f, k_s, k_x, Int.reduceBEq, Int.reduceBNe, Int.reduceLT, Int.reduceLE, Int.reduceGT, Int.reduceGE, Int.reduceNeg]
  | m + 1, i, H, R, hm, hl, hC, hO, hk, hb => by
    have h1 : i < n := by omega
    have es := wrap_s h1 (by omega)
    have ht : R.rs[i]? = some (R.rs[i]'(by omega)) := List.getElem?_eq_getElem _
    have hlt : R.ts.length = n := by rw [← hk.len]; exact hl
    have hd : R.ts[i]? = some (R.ts[i]'(by omega)) := List.getElem?_eq_getElem _
    have kp := tickAt_keep (i := i) (now := now) hk hb
    have hA : tickAt now R i = (if R.st ≠ 0 ∨ now < (R.rs[i]'(by omega)).til then R else if (R.rs[i]'(by omega)).ph = 2 then failR R i (R.rs[i]'(by omega)) (R.ts[i]'(by omega)) now else if (R.rs[i]'(by omega)).ph = 5 then { R with rs := R.rs.set i { (R.rs[i]'(by omega)) with ph := 1, til := 0 } } else R) := by
      unfold tickAt; rw [ht, hd]
    generalize R.rs[i]'(by omega) = t at *
    generalize R.ts[i]'(by omega) = d at *
    have c1 : cellAt H P 1 = some (.int .i64 R.st) := hC.cellAt rfl
    have c2 : cellAt H P 2 = some tx := hC.cellAt rfl
    obtain ⟨b, o, q1, q2, q3, q4, q5⟩ := hO.v.t.at (by decide) (rts_get ht)
    have r0 : cellAt H b o = some (.int .i64 t.ph) := by have := q5 0 _ (fd_rt t).1; rwa [Nat.add_zero] at this
    have r2 : cellAt H b (o + 2) = some (.int .i64 t.til) := q5 2 _ (fd_rt t).2.2.1
    have hil := (List.getElem?_eq_some_iff.1 ht).1
    show ∃ H', (∀ j12 : K.Fn 2, _) ∧ Cs H' P (rv dx (tickN now m (i + 1) (tickAt now R i)).st tx sx) 47 0 ∧ RO H' dx xs tx sx (tickN now m (i + 1) (tickAt now R i)) ∧ Out (P :: rid tx) H H'
    have go : ∀ (H1 : Hp), Cs H1 P (rv dx (tickAt now R i).st tx sx) 47 0 → RO H1 dx xs tx sx (tickAt now R i) → Out (P :: rid tx) H H1 → (∀ H' : Hp, (∀ j12 : K.Fn 2, l__run_Run_Tick JN GO cK j12 (.int .i64 now) (.ptr P 0) x16 (.int .i64 (n : Nat)) (.int .i64 ((i + 1 : Nat) : Int)) H1 = j12 (.ptr P 0) x16 H') → ∀ j12 : K.Fn 2, l__run_Run_Tick JN GO cK j12 (.int .i64 now) (.ptr P 0) x16 (.int .i64 (n : Nat)) (.int .i64 (i : Nat)) H = j12 (.ptr P 0) x16 H') →
        ∃ H', (∀ j12 : K.Fn 2, l__run_Run_Tick JN GO cK j12 (.int .i64 now) (.ptr P 0) x16 (.int .i64 (n : Nat)) (.int .i64 (i : Nat)) H = j12 (.ptr P 0) x16 H') ∧ Cs H' P (rv dx (tickN now m (i + 1) (tickAt now R i)).st tx sx) 47 0 ∧ RO H' dx xs tx sx (tickN now m (i + 1) (tickAt now R i)) ∧ Out (P :: rid tx) H H' := by
      intro H1 a1 a2 a3 a4
      obtain ⟨H', i1, i2, i3, i4⟩ := tick_loop (x16 := x16) hn hp m (i + 1) H1 (tickAt now R i) (by omega) (kp.2.2.2.2.trans hl) a1 a2 kp.1 kp.2.1
      exact ⟨H', a4 H' i1, i2, i3, a3.trans i4⟩
    clear kp
    by_cases h0 : R.st = 0
    · have d0 : (R.st != 0) = false := by simp [h0]
      by_cases h2 : now < t.til
      · have d2 : decide (now < t.til) = true := decide_eq_true h2
        rw [if_pos (.inr h2)] at hA
        rw [hA] at go ⊢
        refine go H hC hO (Out.refl _ _) fun H' i1 j12 => ?_
        rw [ql__run_Run_Tick]
        simp (disch := (first | assumption | omega | (simp only [k_d, k_c, Nat.reduceAdd, Nat.reduceLeDiff, Nat.reduceLT] <;> fail) | (simp only [k_c]; omega) | (simp only [k_d, k_c, Nat.reduceAdd, Nat.reduceLeDiff, Nat.reduceLT, *] <;> fail) | fail)) only [bl__run_Run_Tick, lt_t h1, c1, c2, q1, d0, r2, d2, es, i1, k_a, k_b, Nat.reduceAdd, k_s, k_x, Int.reduceBEq, Int.reduceBNe, Int.reduceLT, Int.reduceLE, Int.reduceGT, Int.reduceGE, Int.reduceNeg]
      · have d2 : decide (now < t.til) = false := decide_eq_false h2
        rw [if_neg (fun q => q.elim (fun z => z h0) h2)] at hA
        by_cases h3 : t.ph = 2
        · have d3 : (t.ph == 2) = true := by simp [h3]
          rw [if_pos h3] at hA
          rw [hA] at go ⊢
          have bd := hb.d d (List.mem_of_getElem? hd)
          have bt := hb.t t (List.mem_of_getElem? ht)
          obtain ⟨H1, f1, f2, f3, f4⟩ := fail_c hC hO hp ht hd bd.1 bd.2 bt.1 bt.2 now
          refine go H1 f2 f3 f4 fun H' i1 j12 => ?_
          rw [ql__run_Run_Tick]
          simp (disch := (first | assumption | omega | (simp only [k_d, k_c, Nat.reduceAdd, Nat.reduceLeDiff, Nat.reduceLT] <;> fail) | (simp only [k_c]; omega) | (simp only [k_d, k_c, Nat.reduceAdd, Nat.reduceLeDiff, Nat.reduceLT, *] <;> fail) | fail)) only [bl__run_Run_Tick, lt_t h1, c1, c2, q1, d0, r2, d2, r0, d3, f1, es, i1, k_a, k_b, Nat.reduceAdd, k_s, k_x, Int.reduceBEq, Int.reduceBNe, Int.reduceLT, Int.reduceLE, Int.reduceGT, Int.reduceGE, Int.reduceNeg]
        · have d3 : (t.ph == 2) = false := by simp [h3]
          rw [if_neg h3] at hA
          by_cases h5 : t.ph = 5
          · have d5 : (t.ph == 5) = true := by simp [h5]
            rw [if_pos h5] at hA
            rw [hA] at go ⊢
            obtain ⟨H2, w1, w2, w3, w4⟩ := hO.t.st1 (k := 0) (v := .int .i64 1) (rts_get ht) q1 rfl (by decide)
            have e2 : ((rts R.rs).set i ((rtC t).set 0 (.int .i64 1)))[i]? = some ((rtC t).set 0 (.int .i64 1)) := List.getElem?_set_self (by rw [rts_len]; exact hil)
            obtain ⟨H3, v1, v2, v3, v4⟩ := w2.st1 (k := 2) (v := .int .i64 0) e2 q1 rfl (by decide)
            rw [List.set_set] at v2
            have hset : ((rtC t).set 0 (.int .i64 1)).set 2 (.int .i64 0) = rtC { t with ph := 1, til := 0 } := rfl
            rw [hset, rts_set] at v2
            rw [Nat.add_zero] at w1
            have o3 := w3.trans v3
            have hpt : P ∉ rid tx := fun z => hp (List.mem_append_right _ (List.mem_append_left _ z))
            refine go H3 (hC.out o3 hpt) (hO.upd v2 o3) (o3.mono fun j hj => .tail _ hj) fun H' i1 j12 => ?_
            rw [ql__run_Run_Tick]
            simp (disch := (first | assumption | omega | (simp only [k_d, k_c, Nat.reduceAdd, Nat.reduceLeDiff, Nat.reduceLT] <;> fail) | (simp only [k_c]; omega) | (simp only [k_d, k_c, Nat.reduceAdd, Nat.reduceLeDiff, Nat.reduceLT, *] <;> fail) | fail)) only [bl__run_Run_Tick, lt_t h1, c1, c2, q1, d0, r2, d2, r0, d3, d5, w1, v1, es, i1, k_a, k_b, Nat.reduceAdd, k_s, k_x, Int.reduceBEq, Int.reduceBNe, Int.reduceLT, Int.reduceLE, Int.reduceGT, Int.reduceGE, Int.reduceNeg]
          · have d5 : (t.ph == 5) = false := by simp [h5]
            rw [if_neg h5] at hA
            rw [hA] at go ⊢
            refine go H hC hO (Out.refl _ _) fun H' i1 j12 => ?_
            rw [ql__run_Run_Tick]
            simp (disch := (first | assumption | omega | (simp only [k_d, k_c, Nat.reduceAdd, Nat.reduceLeDiff, Nat.reduceLT] <;> fail) | (simp only [k_c]; omega) | (simp only [k_d, k_c, Nat.reduceAdd, Nat.reduceLeDiff, Nat.reduceLT, *] <;> fail) | fail)) only [bl__run_Run_Tick, lt_t h1, c1, c2, q1, d0, r2, d2, r0, d3, d5, es, i1, k_a, k_b, Nat.reduceAdd, k_s, k_x, Int.reduceBEq, Int.reduceBNe, Int.reduceLT, Int.reduceLE, Int.reduceGT, Int.reduceGE, Int.reduceNeg]
    · have d0 : (R.st != 0) = true := by simp [h0]
      rw [if_pos (.inl h0)] at hA
      rw [hA] at go ⊢
      refine go H hC hO (Out.refl _ _) fun H' i1 j12 => ?_
      rw [ql__run_Run_Tick]
      simp (disch := (first | assumption | omega | (simp only [k_d, k_c, Nat.reduceAdd, Nat.reduceLeDiff, Nat.reduceLT] <;> fail) | (simp only [k_c]; omega) | (simp only [k_d, k_c, Nat.reduceAdd, Nat.reduceLeDiff, Nat.reduceLT, *] <;> fail) | fail)) only [bl__run_Run_Tick, lt_t h1, c1, c2, q1, d0, es, i1, k_a, k_b, Nat.reduceAdd, k_s, k_x, Int.reduceBEq, Int.reduceBNe, Int.reduceLT, Int.reduceLE, Int.reduceGT, Int.reduceGE, Int.reduceNeg]
theorem tick_c {H : Hp} {dx tx sx : AV} {xs : List AV} {R : Rn} (h : RV H dx xs tx sx R) (hk : Okr R) (hb : Bd2 R) (now : Int) :
    ∃ dx' xs' tx' sx' H', cK (.func (.func 23) [] []) [.agg (rv dx R.st tx sx), .int .i64 now] H = some (.agg (rv dx' (tickM R now).st tx' sx'), H') ∧ RO H' dx' xs' tx' sx' (tickM R now) ∧ Out [] H H' ∧ ∀ j ∈ fpR dx' xs' tx' sx', H.next ≤ j := by
  have hbx : bx 47 (.agg (rv dx R.st tx sx)) H = some (H.next, al H (rv dx R.st tx sx) 47 0) := bx_alA (by simp)
  have o1 := al_out H (rv dx R.st tx sx) 47 0
  have c1 := al_cs H (rv dx R.st tx sx) 47 0
  have n1 : (al H (rv dx R.st tx sx) 47 0).next = H.next + 1 := rfl
  generalize al H (rv dx R.st tx sx) 47 0 = H1 at *
  have o2 := al_out H1 zR 47 0
  have c2 := al_cs H1 zR 47 0
  have n2 : (al H1 zR 47 0).next = H.next + 2 := by rw [al_nx, n1]
  rw [n1] at c2
  generalize hA2 : al H1 zR 47 0 = H2 at *
  have o12 := o1.trans o2
  have cP2 := c1.out o2 (by simp)
  have k1 : cellsAt H2 H.next 0 4 = some (rv dx R.st tx sx) := cP2.cellsAt 4 0 (by simp)
  obtain ⟨dx', xs', tx', sx', H4, r1, r2, r3, r4⟩ := clone_c (h.out0 o12) hk.sm
  have n4 := r3.nx
  have ones : ∀ z : Int, (rv dx' z tx' sx').all oneC = true := fun z => by simp [r2.v.d.row.one, r2.t.rl.one, r2.s.oneX, oneC_i]
  obtain ⟨H5, s1, s2, s3, s4⟩ := stAll (n := 4) (vs := rv dx' R.st tx' sx') (cP2.out r3 (by simp)) rfl rfl (ones _)
  have fr : ∀ m, m < H.next + 2 → ∀ j ∈ fpR dx' xs' tx' sx', j ∉ [m] := fun m hm j hj => by rw [List.mem_singleton]; have := r4 j hj; omega
  have R5 := r2.out s3 (fr _ (by omega))
  have ntx : ∀ m, m < H.next + 2 → m ∉ rid tx' := fun m hm z => by have := r4 m (List.mem_append_right _ (List.mem_append_left _ z)); omega
  have hr := hk.sm.r
  obtain ⟨H7, t1, t2, t3, t4⟩ := tick_loop (x16 := .ptr (H.next + 1) 0) (P := H.next) (now := now) hr (fun z => by have := r4 _ z; omega) R.rs.length 0 H5 R (by omega) rfl s2 R5 hk hb
  rw [show (((0 : Nat) : Int)) = 0 from rfl] at t1
  have ht2 : Cs H7 H.next (rv dx' (tickM R now).st tx' sx') 47 0 := t2
  have ht3 : RO H7 dx' xs' tx' sx' (tickM R now) := t3
  have ntp : ∀ m, m < H.next + 2 → m ≠ H.next → m ∉ H.next :: rid tx' := fun m hm hne z => (List.mem_cons.1 z).elim hne (ntx m hm)
  have cQ7 := ((c2.out r3 (by simp)).out s3 (by rw [List.mem_singleton]; omega)).out t4 (ntp _ (by omega) (by omega))
  have k5 : cellAt H5 H.next 2 = some tx' := s2.cellAt rfl
  have tl := R5.v.tlen
  have k7 : cellsAt H7 H.next 0 4 = some (rv dx' (tickM R now).st tx' sx') := ht2.cellsAt 4 0 (by simp)
  obtain ⟨H8, w1, w2, w3, w4⟩ := stAll (n := 4) (vs := rv dx' (tickM R now).st tx' sx') cQ7 rfl rfl (ones _)
  have k8 : cellsAt H8 (H.next + 1) 0 4 = some (rv dx' (tickM R now).st tx' sx') := w2.cellsAt 4 0 (by simp)
  have hge : ∀ j ∈ rid tx', H.next ≤ j := fun j hj => by have := r4 j (List.mem_append_right _ (List.mem_append_left _ hj)); omega
  have out := outNew (outNew (outNew (o12.trans r3) s3 (one_ge (Nat.le_refl _))) t4 (fun j hj => (List.mem_cons.1 hj).elim (fun e => by omega) (hge j))) w3 (one_ge (Nat.le_succ _))
  refine ⟨dx', xs', tx', sx', H8, c__run_Run_Tick ?_, ht3.out w3 (fr _ (by omega)), out, fun j hj => by have := r4 j hj; omega⟩
  unfold s__run_Run_Tick
  simp (disch := (first | assumption | omega | (simp only [k_d, k_c, Nat.reduceAdd, Nat.reduceLeDiff, Nat.reduceLT] <;> fail) | (simp only [k_c]; omega) | (simp only [k_d, k_c, Nat.reduceAdd, Nat.reduceLeDiff, Nat.reduceLT, *] <;> fail) | fail)) only [hbx, n1, hA2, k1, r1, s1, k5, tl, t1, k7, w1, k8, k_a, k_b, Nat.reduceAdd, k_s, k_x, Int.reduceBEq, Int.reduceBNe, Int.reduceLT, Int.reduceLE, Int.reduceGT, Int.reduceGE, Int.reduceNeg]
/-! Next -/
end Go.Proofs.YthljbjokonglhaaGreatDoor.DfK
namespace Go.Proofs.YthljbjokonglhaaGreatDoor.DfK
open Go Am Am.K DfEnv DfM LibP DfG
set_option linter.unusedVariables false
set_option linter.unusedSimpArgs false
set_option maxRecDepth 10000
/-! the plain law of the order -/
/-- the order is good -/
structure OrdOK (N : Nat) (E : List Ed) (l : List Nat) : Prop where
  lt : ∀ a ∈ l, a < N
  nd : l.Nodup
  pre : ∀ (k n : Nat), l[k]? = some n → ∀ a, (a, n) ∈ E → a ∈ l.take k
/-! the law's own loops -/
theorem after_le {ts : List Tk} (hn : ts.length ≤ 16) (ha : aftAll ts) : ∀ t ∈ ts, t.after.length ≤ 16 := fun t ht => by
  obtain ⟨i, hi⟩ := List.getElem?_of_mem ht
  obtain ⟨x1, x2⟩ := aft_all ha hi
  have := nodup_le (n := ts.length) (fun a h => ⟨(x1 a h).1, (x1 a h).2.1⟩) x2
  omega
end Go.Proofs.YthljbjokonglhaaGreatDoor.DfK
namespace Go.Proofs.YthljbjokonglhaaGreatDoor.DfK
open Go Am Am.K DfEnv DfM LibP DfG
set_option linter.unusedVariables false
set_option linter.unusedSimpArgs false
set_option maxRecDepth 10000
set_option maxHeartbeats 1000000
/-! the plain law -/
def u3 (r : RT) : Bool := r.ph == 3
def u3at (rs : List RT) (k : Nat) : Bool := ((rs[k]?).map u3).getD false
theorem ph_u3 (rs : List RT) (a : Int) : (phN rs a != 3) = !(u3at rs a.toNat) := by
  unfold phN u3at
  cases rs[a.toNat]? <;> rfl
theorem blk_congr {rs rs' : List RT} (h : ∀ k, u3at rs k = u3at rs' k) (t : Tk) : blk rs t = blk rs' t := by
  unfold blk
  refine any_congr' fun a _ => ?_
  rw [ph_u3, ph_u3, h]
theorem blk_mono {rs rs' : List RT} (h : ∀ k, u3at rs k = true → u3at rs' k = true) {t : Tk} (hb : blk rs t = false) : blk rs' t = false := by
  unfold blk at hb ⊢
  rw [List.any_eq_false] at hb ⊢
  intro a ha
  have := hb a ha
  rw [ph_u3] at this ⊢
  have h1 : u3at rs a.toNat = true := by simpa using this
  rw [h _ h1]; simp
structure Semi (ts : List Tk) (R : Rn) : Prop where
  eq : R.ts = ts
  sg : R.sg = []
  len : R.rs.length = ts.length
  each : ∀ (i : Nat) (t : Tk) (r : RT), ts[i]? = some t → R.rs[i]? = some r → r.ph = 3 ∨ (r.ph = 1 ∧ r.tr = 0 ∧ blk R.rs t = false) ∨ (r.ph = 0 ∧ r.tr = 0)
structure Full (ts : List Tk) (R : Rn) : Prop where
  semi : Semi ts R
  no : ∀ (i : Nat) (t : Tk) (r : RT), ts[i]? = some t → R.rs[i]? = some r → r.ph = 0 → blk R.rs t = true
theorem settle_at {R : Rn} {i : Nat} {t : Tk} {r : RT} (ht : R.ts[i]? = some t) (hr : R.rs[i]? = some r) : (settleM R).rs[i]? = some (settleT R.rs R.sg t r) := by
  unfold settleM
  simp only
  rw [List.getElem?_zipWith, ht, hr]
theorem settle_len {R : Rn} (h : R.rs.length = R.ts.length) : (settleM R).rs.length = R.rs.length := by
  unfold settleM
  simp only
  rw [List.length_zipWith]; omega
theorem settle_u3 {R : Rn} (h : R.rs.length = R.ts.length) : (settleM R).rs.map u3 = R.rs.map u3 := by
  apply List.ext_getElem?
  intro k
  rw [List.getElem?_map, List.getElem?_map]
  by_cases hk : k < R.rs.length
  · have e1 : R.rs[k]? = some R.rs[k] := List.getElem?_eq_getElem hk
    have e2 : R.ts[k]? = some (R.ts[k]'(by omega)) := List.getElem?_eq_getElem _
    rw [settle_at e2 e1, e1]
    simp only [Option.map_some]
    congr 1
    exact settleT_ph _ _ _ _
  · rw [List.getElem?_eq_none (by rw [settle_len h]; omega), List.getElem?_eq_none (by omega)]
theorem u3at_map {rs rs' : List RT} (h : rs.map u3 = rs'.map u3) (k : Nat) : u3at rs k = u3at rs' k := by
  unfold u3at
  rw [← List.getElem?_map, ← List.getElem?_map, h]
theorem cnt_map {rs rs' : List RT} (h : rs.map u3 = rs'.map u3) : rs.countP u3 = rs'.countP u3 := by
  have e : ∀ l : List RT, l.countP u3 = (l.map u3).countP id := fun l => by rw [List.countP_map]; rfl
  rw [e, e, h]
theorem all_cnt {l : List RT} : (l.all fun r => r.ph == 3) = decide (l.countP u3 = l.length) := by
  rw [Bool.eq_iff_iff, List.all_eq_true, decide_eq_true_eq, List.countP_eq_length]
  exact Iff.rfl
theorem settle_st {R : Rn} : (settleM R).st = if R.rs.countP u3 = R.rs.length then 1 else R.st := by
  unfold settleM
  simp only
  rw [all_cnt]
  by_cases h : R.rs.countP u3 = R.rs.length
  · rw [decide_eq_true h, if_pos rfl, if_pos h]
  · rw [decide_eq_false h, if_neg (by simp), if_neg h]
/-! the law's loops -/
theorem parse_c0 {text : Str} {H : Hp} (hg : Gl H) : ∃ dx xs H', cK (.func (.func 9) [] []) [.str text] H = some (.tuple [dv dx, .int .i64 (parseM text).2], H') ∧ RD H' dx xs (parseM text).1 ∧ Out [] H H' ∧ ∀ j ∈ fpD dx xs, H.next ≤ j := by
  by_cases hl : text.length ≤ 4294967296
  · exact parse_c hg hl
  have o1 := al_out H [.slice0] 25 0
  have d : decide ((1024 : Int) < (text.length : Int)) = true := decide_eq_true (by omega)
  have hst : st 1 (.ptr H.next 0) (.agg [.slice0]) (al H [.slice0] 25 0) = some (al H [.slice0] 25 0) := st_alN rfl rfl rfl (by decide) rfl
  unfold parseM
  rw [if_pos (by omega)]
  refine ⟨.slice0, [], al H [.slice0] 25 0, c_def_Parse ?_, RD.nil _, o1, fun j hj => by cases hj⟩
  unfold s_def_Parse
  simp (disch := (first | assumption | omega | (simp only [k_d, k_c, Nat.reduceAdd, Nat.reduceLeDiff, Nat.reduceLT] <;> fail) | (simp only [k_c]; omega) | (simp only [k_d, k_c, Nat.reduceAdd, Nat.reduceLeDiff, Nat.reduceLT, *] <;> fail) | fail)) only [d, hst, k_a, k_b, Nat.reduceAdd, k_s, k_x, Int.reduceBEq, Int.reduceBNe, Int.reduceLT, Int.reduceLE, Int.reduceGT, Int.reduceGE, Int.reduceNeg]
end Go.Proofs.YthljbjokonglhaaGreatDoor.DfK
namespace Go.Proofs.YthljbjokonglhaaGreatDoor.DfK
open Go Am Am.K DfEnv DfM LibP DfG
set_option linter.unusedVariables false
set_option linter.unusedSimpArgs false
set_option maxRecDepth 10000
set_option maxHeartbeats 1000000
/-- what holds of a run, its state aside -/
structure Inv0 (R : Rn) : Prop where
  ok : Okr R
  n1 : 1 ≤ R.rs.length
  n2 : R.rs.length ≤ 16
  td : ∀ t ∈ R.ts, 0 ≤ t.retry ∧ t.retry ≤ 8 ∧ 1 ≤ t.base ∧ t.base ≤ 1000
  tr : ∀ (i : Nat) (t : Tk) (r : RT), R.ts[i]? = some t → R.rs[i]? = some r → 0 ≤ r.tr ∧ r.tr ≤ t.retry + 1 ∧ (r.ph = 0 ∨ r.ph = 1 ∨ r.ph = 5 → r.tr ≤ t.retry) ∧ (r.ph ≠ 0 → blk R.rs t = false)
def stI (R : Rn) : Prop := R.st = 1 ↔ ∀ r ∈ R.rs, r.ph = 3
/-- what a call leaves -/
structure Step (R R' : Rn) : Prop where
  ts : R'.ts = R.ts
  len : R'.rs.length = R.rs.length
  mono : ∀ (i : Nat) (r r' : RT), R.rs[i]? = some r → R'.rs[i]? = some r' → r.tr ≤ r'.tr ∧ (r.ph = 3 → r' = r)
  sg : R'.sg.length ≤ R.sg.length + 1
theorem Step.refl (R : Rn) : Step R R := ⟨rfl, rfl, fun i r r' h h' => by rw [h] at h'; cases h'; exact ⟨Int.le_refl _, fun _ => rfl⟩, by omega⟩
theorem Inv0.bd {R : Rn} (h : Inv0 R) : Bd2 R := ⟨fun t ht => by have := h.td t ht; omega, fun r hr => by
  obtain ⟨i, hi⟩ := List.getElem?_of_mem hr
  have hil := (List.getElem?_eq_some_iff.1 hi).1
  have ht : R.ts[i]? = some (R.ts[i]'(by rw [← h.ok.len]; exact hil)) := List.getElem?_eq_getElem _
  have a := h.tr i _ r ht hi
  have b := h.td _ (List.mem_of_getElem? ht)
  omega⟩
theorem u3_set {rs : List RT} {i : Nat} {r r1 : RT} (hr : rs[i]? = some r) (h3 : r.ph ≠ 3) : ∀ k, u3at rs k = true → u3at (rs.set i r1) k = true := by
  intro k hk
  by_cases e : i = k
  · subst e
    unfold u3at at hk
    rw [hr] at hk
    have : (r.ph == 3) = true := hk
    exact absurd (by simpa using this) h3
  · unfold u3at at hk ⊢
    rw [List.getElem?_set_ne e]; exact hk
/-- one task is another one -/
theorem set_inv {R : Rn} {i : Nat} {t : Tk} {r r1 : RT} {s1 : Int} (h : Inv0 R) (ht : R.ts[i]? = some t) (hr : R.rs[i]? = some r) (h3 : r.ph ≠ 3) (h0 : r.ph ≠ 0) (b1 : r.tr ≤ r1.tr) (b2 : r1.tr ≤ t.retry + 1) (b3 : r1.ph = 0 ∨ r1.ph = 1 ∨ r1.ph = 5 → r1.tr ≤ t.retry) :
    Inv0 { R with rs := R.rs.set i r1, st := s1 } ∧ Step R { R with rs := R.rs.set i r1, st := s1 } := by
  have hu := u3_set (r1 := r1) hr h3
  have hil := (List.getElem?_eq_some_iff.1 hr).1
  have hk := h.ok.set i r1
  refine ⟨⟨⟨⟨hk.sm.n, hk.sm.a, hk.sm.r, hk.sm.s⟩, hk.len, hk.aft⟩, by show 1 ≤ (R.rs.set i r1).length; rw [List.length_set]; exact h.n1, by show (R.rs.set i r1).length ≤ 16; rw [List.length_set]; exact h.n2, h.td, fun j u q hu' hq => ?_⟩, rfl, List.length_set, fun j q q' hq hq' => ?_, by show R.sg.length ≤ _; omega⟩
  · have hq2 : (R.rs.set i r1)[j]? = some q := hq
    have hu2 : R.ts[j]? = some u := hu'
    by_cases e : i = j
    · subst e
      rw [List.getElem?_set_self hil] at hq2
      have e1 : r1 = q := Option.some.inj hq2
      have e2 : t = u := Option.some.inj (ht.symm.trans hu2)
      subst e1
      subst e2
      have a := h.tr i t r ht hr
      exact ⟨by omega, b2, b3, fun _ => blk_mono hu (a.2.2.2 h0)⟩
    · rw [List.getElem?_set_ne e] at hq2
      have a := h.tr j u q hu2 hq2
      exact ⟨a.1, a.2.1, a.2.2.1, fun z => blk_mono hu (a.2.2.2 z)⟩
  · have hq2 : (R.rs.set i r1)[j]? = some q' := hq'
    by_cases e : i = j
    · subst e
      rw [List.getElem?_set_self hil] at hq2
      have e1 : r1 = q' := Option.some.inj hq2
      have e2 : r = q := Option.some.inj (hr.symm.trans hq)
      subst e1
      subst e2
      exact ⟨b1, fun z => absurd z h3⟩
    · rw [List.getElem?_set_ne e] at hq2
      have e1 : q = q' := Option.some.inj (hq.symm.trans hq2)
      subst e1
      exact ⟨Int.le_refl _, fun _ => rfl⟩
theorem settle_inv {R : Rn} (h : Inv0 R) : Inv0 (settleM R) ∧ Step R (settleM R) := by
  have hl := h.ok.len
  have hlen := settle_len hl
  have hb : ∀ t, blk (settleM R).rs t = blk R.rs t := fun t => blk_congr (u3at_map (settle_u3 hl)) t
  have hget : ∀ (i : Nat) (r : RT), (settleM R).rs[i]? = some r → ∃ t r0, R.ts[i]? = some t ∧ R.rs[i]? = some r0 ∧ r = settleT R.rs R.sg t r0 := by
    intro i r hr
    have hil := (List.getElem?_eq_some_iff.1 hr).1
    rw [hlen] at hil
    have e1 : R.rs[i]? = some R.rs[i] := List.getElem?_eq_getElem _
    have e2 : R.ts[i]? = some (R.ts[i]'(by rw [← hl]; exact hil)) := List.getElem?_eq_getElem _
    rw [settle_at e2 e1] at hr
    cases hr
    exact ⟨_, _, e2, e1, rfl⟩
  have e1 : (settleM R).ts = R.ts := rfl
  have e2 : (settleM R).sg = R.sg := rfl
  refine ⟨⟨⟨⟨h.ok.sm.n, h.ok.sm.a, by rw [hlen]; exact h.ok.sm.r, h.ok.sm.s⟩, by rw [hlen]; exact hl, h.ok.aft⟩, by rw [hlen]; exact h.n1, by rw [hlen]; exact h.n2, h.td, fun i t r ht hr => ?_⟩, rfl, hlen, fun i r r' hr hr' => ?_, by rw [e2]; omega⟩
  · obtain ⟨t', r0, k1, k2, rfl⟩ := hget i r hr
    have ht : R.ts[i]? = some t := ht
    rw [k1] at ht
    cases ht
    have a := h.tr i t r0 k1 k2
    rw [hb]
    unfold settleT
    split
    · rename_i hy
      unfold rdy at hy
      simp only [Bool.and_eq_true, Bool.not_eq_true', beq_iff_eq] at hy
      exact ⟨a.1, a.2.1, fun _ => a.2.2.1 (.inl hy.1), fun _ => hy.2.1⟩
    · exact a
  · obtain ⟨t', r0, k1, k2, rfl⟩ := hget i r' hr'
    rw [hr] at k2
    cases k2
    unfold settleT
    split
    · rename_i hy
      unfold rdy at hy
      rw [Bool.and_eq_true, beq_iff_eq] at hy
      exact ⟨Int.le_refl _, fun z => by rw [hy.1] at z; cases z⟩
    · exact ⟨Int.le_refl _, fun _ => rfl⟩
theorem Step.trans {A B C : Rn} (h : Step A B) (k : Step B C) (hs : B.sg = A.sg ∨ C.sg = B.sg) : Step A C := by
  refine ⟨k.ts.trans h.ts, k.len.trans h.len, fun i r r' hr hr' => ?_, ?_⟩
  · have hil := (List.getElem?_eq_some_iff.1 hr).1
    have e : B.rs[i]? = some (B.rs[i]'(by rw [h.len]; exact hil)) := List.getElem?_eq_getElem _
    obtain ⟨a1, a2⟩ := h.mono i r _ hr e
    obtain ⟨b1, b2⟩ := k.mono i _ r' e hr'
    exact ⟨by omega, fun z => by rw [b2 (by rw [a2 z]; exact z), a2 z]⟩
  · have a := h.sg
    have b := k.sg
    rcases hs with e | e
    · rw [e] at b; exact b
    · rw [e]; exact a
theorem stI_of {R : Rn} (h : R.rs.countP u3 = R.rs.length → R.st = 1) (h' : R.rs.countP u3 ≠ R.rs.length → R.st ≠ 1) : stI R := by
  unfold stI
  constructor
  · intro e r hr
    refine Classical.byContradiction fun q => ?_
    by_cases hc : R.rs.countP u3 = R.rs.length
    · rw [List.countP_eq_length] at hc
      have := hc r hr
      unfold u3 at this
      exact q (by simpa using this)
    · exact h' hc e
  · intro e
    refine h ?_
    rw [List.countP_eq_length]
    intro r hr
    unfold u3
    rw [e r hr]; rfl
theorem not_all {R : Rn} {i : Nat} {r : RT} (hr : R.rs[i]? = some r) (h3 : r.ph ≠ 3) (hs : R.st ≠ 1) : stI R := by
  unfold stI
  exact ⟨fun e => absurd e hs, fun e => absurd (e r (List.mem_of_getElem? hr)) h3⟩
theorem settle_stI {R : Rn} (hl : R.rs.length = R.ts.length) (h0 : R.st ≠ 1) : stI (settleM R) := by
  have hc := cnt_map (settle_u3 hl)
  have hlen := settle_len hl
  have hst := settle_st (R := R)
  refine stI_of (fun e => ?_) (fun e => ?_)
  · rw [hc, hlen] at e
    rw [hst, if_pos e]
  · rw [hc, hlen] at e
    rw [hst, if_neg e]; exact h0
/-! each call -/
def Good1 (R R' : Rn) (e : Int) : Prop := e = 0 → Inv0 R' ∧ stI R' ∧ Step R R'
theorem lease_good {R : Rn} (h : Inv0 R) (hs : stI R) (task now : Int) (t : RT) (ht : R.rs[task.toNat]? = some t) : Good1 R (leaseM R task (w64 (t.tr + 1)) now).1 (leaseM R task (w64 (t.tr + 1)) now).2 := by
  intro he
  unfold leaseM at he ⊢
  by_cases h0 : mayM R task = 0
  · obtain ⟨i, u, rfl, hu, hst⟩ := may_ok h0
    rw [Int.toNat_natCast] at ht
    have e0 : u = t := Option.some.inj (hu.symm.trans ht)
    subst e0
    have hil := (List.getElem?_eq_some_iff.1 hu).1
    have hd : R.ts[i]? = some (R.ts[i]'(by rw [← h.ok.len]; exact hil)) := List.getElem?_eq_getElem _
    rw [if_pos h0, Int.toNat_natCast, hu, hd] at he ⊢
    simp only at he ⊢
    by_cases h1 : u.ph = 1
    · rw [if_pos h1, if_pos trivial]
      have a := h.tr i _ u hd hu
      have b := h.td _ (List.mem_of_getElem? hd)
      have c := a.2.2.1 (.inr (.inl h1))
      have ew : w64 (u.tr + 1) = u.tr + 1 := wrap_i64 (by omega) (by omega)
      obtain ⟨k1, k2⟩ := set_inv (s1 := R.st) (r1 := ⟨2, w64 (u.tr + 1), w64 (now + (R.ts[i]'(by rw [← h.ok.len]; exact hil)).wait), u.dat⟩) h hd hu (by rw [h1]; decide) (by rw [h1]; decide) (by show u.tr ≤ w64 (u.tr + 1); rw [ew]; omega) (by show w64 (u.tr + 1) ≤ _; rw [ew]; omega) (by intro z; rcases z with z | z | z <;> cases z)
      refine ⟨k1, ?_, k2⟩
      exact not_all (i := i) (List.getElem?_set_self hil) (by show (2 : Int) ≠ 3; decide) (by show R.st ≠ 1; rw [hst]; decide)
    · rw [if_neg h1] at he; cases he
  · rw [if_neg h0] at he; exact absurd he h0
theorem done_good {R : Rn} (h : Inv0 R) (hs : stI R) (task try_ : Int) (d : Str) : Good1 R (doneM R task try_ d).1 (doneM R task try_ d).2 := by
  intro he
  unfold doneM at he ⊢
  by_cases h0 : heldM R task try_ = 0
  · obtain ⟨i, u, rfl, hu, hst, hph, htr⟩ := held_ok h0
    have hil := (List.getElem?_eq_some_iff.1 hu).1
    have hd : R.ts[i]? = some (R.ts[i]'(by rw [← h.ok.len]; exact hil)) := List.getElem?_eq_getElem _
    rw [if_pos h0, Int.toNat_natCast]
    have a := h.tr i _ u hd hu
    obtain ⟨k1, k2⟩ := set_inv (s1 := R.st) (r1 := ⟨3, try_, 0, d⟩) h hd hu (by rw [hph]; decide) (by rw [hph]; decide) (by show u.tr ≤ try_; omega) (by show try_ ≤ _; omega) (by intro z; rcases z with z | z | z <;> cases z)
    obtain ⟨m1, m2⟩ := settle_inv k1
    exact ⟨m1, settle_stI k1.ok.len (by show R.st ≠ 1; rw [hst]; decide), k2.trans m2 (.inr rfl)⟩
  · rw [if_neg h0] at he; exact absurd he h0
theorem failR_good {R : Rn} (h : Inv0 R) {i : Nat} {t : RT} {d : Tk} (hr : R.rs[i]? = some t) (hd : R.ts[i]? = some d) (hst : R.st = 0) (hph : t.ph = 2) (now : Int) : Inv0 (failR R i t d now) ∧ stI (failR R i t d now) ∧ Step R (failR R i t d now) ∧ (failR R i t d now).sg = R.sg := by
  have hil := (List.getElem?_eq_some_iff.1 hr).1
  have a := h.tr i d t hd hr
  unfold failR
  split
  · rename_i hle
    obtain ⟨k1, k2⟩ := set_inv (s1 := R.st) (r1 := { t with ph := 5, til := w64 (now + dM d.base t.tr) }) h hd hr (by rw [hph]; decide) (by rw [hph]; decide) (Int.le_refl _) a.2.1 (fun _ => hle)
    exact ⟨k1, not_all (i := i) (List.getElem?_set_self hil) (by show (5 : Int) ≠ 3; decide) (by show R.st ≠ 1; rw [hst]; decide), k2, rfl⟩
  · obtain ⟨k1, k2⟩ := set_inv (s1 := 2) (r1 := { t with ph := 4, til := 0 }) h hd hr (by rw [hph]; decide) (by rw [hph]; decide) (Int.le_refl _) a.2.1 (by intro z; rcases z with z | z | z <;> cases z)
    exact ⟨k1, not_all (i := i) (List.getElem?_set_self hil) (by show (4 : Int) ≠ 3; decide) (by show (2 : Int) ≠ 1; decide), k2, rfl⟩
theorem fail_good {R : Rn} (h : Inv0 R) (hs : stI R) (task try_ now : Int) : Good1 R (failM R task try_ now).1 (failM R task try_ now).2 := by
  intro he
  unfold failM at he ⊢
  by_cases h0 : heldM R task try_ = 0
  · obtain ⟨i, u, rfl, hu, hst, hph, htr⟩ := held_ok h0
    have hil := (List.getElem?_eq_some_iff.1 hu).1
    have hd : R.ts[i]? = some (R.ts[i]'(by rw [← h.ok.len]; exact hil)) := List.getElem?_eq_getElem _
    rw [if_pos h0, Int.toNat_natCast, hu, hd]
    obtain ⟨a, b, c, _⟩ := failR_good h hu hd hst hph now
    exact ⟨a, b, c⟩
  · rw [if_neg h0] at he; exact absurd he h0
theorem tickAt_good {R : Rn} (h : Inv0 R) (hs : stI R) (i : Nat) (now : Int) : Inv0 (tickAt now R i) ∧ stI (tickAt now R i) ∧ Step R (tickAt now R i) ∧ (tickAt now R i).sg = R.sg := by
  unfold tickAt
  split
  · rename_i t d ht hd
    split
    · exact ⟨h, hs, Step.refl R, rfl⟩
    · rename_i hn
      rw [not_or] at hn
      have hst : R.st = 0 := Decidable.not_not.1 hn.1
      split
      · rename_i hph
        exact failR_good h ht hd hst hph now
      · split
        · rename_i hph
          have hil := (List.getElem?_eq_some_iff.1 ht).1
          have a := h.tr i d t hd ht
          obtain ⟨k1, k2⟩ := set_inv (s1 := R.st) (r1 := { t with ph := 1, til := 0 }) h hd ht (by rw [hph]; decide) (by rw [hph]; decide) (Int.le_refl _) a.2.1 (fun _ => a.2.2.1 (.inr (.inr hph)))
          exact ⟨k1, not_all (i := i) (List.getElem?_set_self hil) (by show (1 : Int) ≠ 3; decide) (by show R.st ≠ 1; rw [hst]; decide), k2, rfl⟩
        · exact ⟨h, hs, Step.refl R, rfl⟩
  · exact ⟨h, hs, Step.refl R, rfl⟩
theorem tickN_good {now : Int} : ∀ (m i : Nat) (R : Rn), Inv0 R → stI R → Inv0 (tickN now m i R) ∧ stI (tickN now m i R) ∧ Step R (tickN now m i R) ∧ (tickN now m i R).sg = R.sg
  | 0, i, R, h, hs => ⟨h, hs, Step.refl R, rfl⟩
  | m + 1, i, R, h, hs => by
    obtain ⟨a1, a2, a3, a4⟩ := tickAt_good h hs i now
    obtain ⟨b1, b2, b3, b4⟩ := tickN_good (now := now) m (i + 1) _ a1 a2
    exact ⟨b1, b2, a3.trans b3 (.inl a4), b4.trans a4⟩
theorem signal_good {R : Rn} (h : Inv0 R) (hs : stI R) (name : Str) (hsg : R.sg.length ≤ 900) : Good1 R (signalM R name).1 (signalM R name).2 := by
  intro he
  unfold signalM at he ⊢
  by_cases h0 : R.st ≠ 0
  · rw [if_pos h0] at he; cases he
  rw [if_neg h0] at he ⊢
  have hst : R.st = 0 := Decidable.not_not.1 h0
  split at he
  · cases he
  · rename_i h5
    rw [if_neg h5]
    split at he
    · rename_i h6
      rw [if_pos h6]
      have k1 : Inv0 { R with sg := R.sg ++ [name] } := ⟨⟨⟨h.ok.sm.n, h.ok.sm.a, h.ok.sm.r, by show (R.sg ++ [name]).length ≤ 1000; rw [List.length_append]; simp; omega⟩, h.ok.len, h.ok.aft⟩, h.n1, h.n2, h.td, h.tr⟩
      have k2 : Step R { R with sg := R.sg ++ [name] } := ⟨rfl, rfl, (Step.refl R).mono, by show (R.sg ++ [name]).length ≤ _; rw [List.length_append]; simp⟩
      obtain ⟨m1, m2⟩ := settle_inv k1
      exact ⟨m1, settle_stI k1.ok.len (by show R.st ≠ 1; rw [hst]; decide), k2.trans m2 (.inr rfl)⟩
    · cases he
end Go.Proofs.YthljbjokonglhaaGreatDoor.DfK
namespace Go.Proofs.YthljbjokonglhaaGreatDoor.DfK
open Go Am Am.K DfEnv DfM LibP DfG
set_option linter.unusedVariables false
set_option linter.unusedSimpArgs false
set_option maxRecDepth 10000
set_option maxHeartbeats 1000000
theorem eqA_rt (a b c a' b' c' : Int) (s s' : Str) (H : Hp) : eqA P 50 51 (.agg [.int .i64 a, .int .i64 b, .int .i64 c, .str s]) (.agg [.int .i64 a', .int .i64 b', .int .i64 c', .str s']) H = allO (fun z : Bool => some z) [a == a', b == b', c == c', s == s'] := by kernel_rfl
theorem eqG_rt : Program.eqGuardType P P.depth 51 = false := by kernel_rfl
theorem ne_rt (t : RT) (H : Hp) : gA P .neq 51 false (.agg (rtC t)) (.agg (rtC t)) = true ∧ binA P .neq 51 (.agg (rtC t)) (.agg (rtC t)) H = some (.bool false) := by
  constructor
  · show (!(Program.eqGuardType P P.depth 51)) = true
    rw [eqG_rt]; rfl
  · show (eqA P 50 51 (.agg (rtC t)) (.agg (rtC t)) H).map (fun b => AV.bool !b) = _
    have h := eqA_rt t.ph t.tr t.til t.ph t.tr t.til t.dat t.dat H
    have e : rtC t = [.int .i64 t.ph, .int .i64 t.tr, .int .i64 t.til, .str t.dat] := rfl
    rw [e, h]
    simp [allO]
end Go.Proofs.YthljbjokonglhaaGreatDoor.DfK
namespace Go.Proofs.YthljbjokonglhaaGreatDoor.DfK
open Go Am Am.K DfEnv DfM LibP DfG
set_option linter.unusedVariables false
set_option linter.unusedSimpArgs false
set_option maxRecDepth 10000
set_option maxHeartbeats 2000000
theorem ord2_loop {Q T k : Nat} {tx x a0 a2 a3 a4 a5 : AV} {rs : List RT} {l : List Int} {u : RT} {H : Hp} (hn : rs.length ≤ 16) (hl : l.length ≤ 16) (hQ : cellAt H Q 2 = some tx) (hT : RL H 4 tx (rts rs)) (hx : cellAt H T 1 = some x) (hr : Rw H 1 x (ints l)) (hu : rs[k]? = some u) (hb : ∀ a ∈ l, 0 ≤ a ∧ a < rs.length) (hp : u.ph ≠ 0 → ∀ a ∈ l, phN rs a = 3) (j40 : K.Fn 0) (j50 : K.Fn 4) (j297 : K.Fn 5) (j331 j434 : K.Fn 7) : ∀ (r : List Int) (q : Nat), q ≤ l.length → l.drop q = r →
    l_outriderlaw16_RunOrder2 JN GO cK j40 j50 j297 j331 j434 a0 (.ptr Q 0) a2 a3 a4 a5 (.int .i64 (k : Nat)) (.ptr T 0) (.int .i64 (q : Nat)) H = j434 a0 (.ptr Q 0) a2 a3 a4 a5 (.int .i64 (k : Nat)) H
  | [], q, hq, h => by
    obtain rfl := drop_nil hq h
    have hll := hr.len1
    rw [ints_len] at hll
    rw [ql_outriderlaw16_RunOrder2]
    simp (disch := (first | assumption | omega | (simp only [k_d, k_c, Nat.reduceAdd, Nat.reduceLeDiff, Nat.reduceLT] <;> fail) | (simp only [k_c]; omega) | (simp only [k_d, k_c, Nat.reduceAdd, Nat.reduceLeDiff, Nat.reduceLT, *] <;> fail) | fail)) only [bl_outriderlaw16_RunOrder2, hx, hll, lt_f, k_a, k_b, Nat.reduceAdd, k_s, k_x, Int.reduceBEq, Int.reduceBNe, Int.reduceLT, Int.reduceLE, Int.reduceGT, Int.reduceGE, Int.reduceNeg]
  | a :: r, q, hq, h => by
    obtain ⟨h1, h2, h3⟩ := hd_drop h
    have hll := hr.len1
    rw [ints_len] at hll
    have es := wrap_s h1 (by omega)
    obtain ⟨y, y1, y2⟩ := hr.ia1 (ints_get h2) .i64
    have ham := List.mem_of_getElem? h2
    obtain ⟨b0, b1⟩ := hb a ham
    obtain ⟨m, rfl⟩ : ∃ m : Nat, a = m := ⟨a.toNat, by omega⟩
    have hm : rs[m]? = some (rs[m]'(by omega)) := List.getElem?_eq_getElem _
    have htl := hT.len (by decide)
    rw [rts_len] at htl
    obtain ⟨c, o, q1, q2, q3, q4, q5⟩ := hT.at (by decide) (rts_get hu)
    have r0 : cellAt H c o = some (.int .i64 u.ph) := by have := q5 0 _ (fd_rt u).1; rwa [Nat.add_zero] at this
    obtain ⟨c', o', p1, p2, p3, p4, p5⟩ := hT.at (by decide) (rts_get hm)
    have s0 : cellAt H c' o' = some (.int .i64 (phN rs (m : Int))) := by
      have := p5 0 _ (fd_rt _).1
      rw [Nat.add_zero] at this
      rw [this]
      unfold phN
      rw [Int.toNat_natCast, hm]; rfl
    have d1 : decide (((m : Nat) : Int) < 0) = false := decide_eq_false (by omega)
    have d2 : decide (((rs.length : Nat) : Int) ≤ ((m : Nat) : Int)) = false := decide_eq_false (by omega)
    have ih := ord2_loop (a0 := a0) (a2 := a2) (a3 := a3) (a4 := a4) (a5 := a5) hn hl hQ hT hx hr hu hb hp j40 j50 j297 j331 j434 r (q + 1) h1 h3
    rw [ql_outriderlaw16_RunOrder2]
    by_cases h0 : u.ph = 0
    · have d3 : (u.ph != 0) = false := by simp [h0]
      simp (disch := (first | assumption | omega | (simp only [k_d, k_c, Nat.reduceAdd, Nat.reduceLeDiff, Nat.reduceLT] <;> fail) | (simp only [k_c]; omega) | (simp only [k_d, k_c, Nat.reduceAdd, Nat.reduceLeDiff, Nat.reduceLT, *] <;> fail) | fail)) only [bl_outriderlaw16_RunOrder2, hx, hll, lt_t h1, y1, y2, d1, hQ, htl, d2, q1, r0, d3, es, ih, k_a, k_b, Nat.reduceAdd, k_s, k_x, Int.reduceBEq, Int.reduceBNe, Int.reduceLT, Int.reduceLE, Int.reduceGT, Int.reduceGE, Int.reduceNeg]
    · have d3 : (u.ph != 0) = true := by simp [h0]
      have h3' := hp h0 _ ham
      rw [h3'] at s0
      have d4 : ((3 : Int) != 3) = false := rfl
      simp (disch := (first | assumption | omega | (simp only [k_d, k_c, Nat.reduceAdd, Nat.reduceLeDiff, Nat.reduceLT] <;> fail) | (simp only [k_c]; omega) | (simp only [k_d, k_c, Nat.reduceAdd, Nat.reduceLeDiff, Nat.reduceLT, *] <;> fail) | fail)) only [bl_outriderlaw16_RunOrder2, hx, hll, lt_t h1, y1, y2, d1, hQ, htl, d2, q1, r0, d3, p1, s0, d4, es, ih, k_a, k_b, Nat.reduceAdd, k_s, k_x, Int.reduceBEq, Int.reduceBNe, Int.reduceLT, Int.reduceLE, Int.reduceGT, Int.reduceGE, Int.reduceNeg]
theorem ord1_loop {Q W : Nat} {dx tx sx dy ty sy a0 a2 a3 : AV} {xs ys : List AV} {R R0 : Rn} (hI : Inv0 R) (hS : Step R0 R) (hal : ∀ t ∈ R.ts, t.after.length ≤ 16) : ∀ (m k : Nat) (H : Hp), k + m = R.rs.length → Cs H Q (rv dx R.st tx sx) 47 0 → RV H dx xs tx sx R → Cs H W (rv dy R0.st ty sy) 47 0 → RV H dy ys ty sy R0 →
    ∃ H', (∀ (j40 : K.Fn 0) (j50 : K.Fn 4) (j297 : K.Fn 5), l_outriderlaw16_RunOrder1 JN GO cK j40 j50 j297 a0 (.ptr Q 0) a2 a3 (.ptr W 0) (.int .i64 ((R.rs.take k).countP u3 : Nat)) (.int .i64 (k : Nat)) H = j297 a0 (.ptr Q 0) a2 a3 (.int .i64 (R.rs.countP u3 : Nat)) H') ∧ Out [] H H'
  | 0, k, H, hm, hQ, hV, hW, hV0 => by
    obtain rfl : k = R.rs.length := by omega
    have k2 : cellAt H Q 2 = some tx := hQ.cellAt rfl
    have tl := hV.tlen
    refine ⟨H, fun j40 j50 j297 => ?_, Out.refl _ _⟩
    rw [ql_outriderlaw16_RunOrder1, List.take_length]
    simp (disch := (first | assumption | omega | (simp only [k_d, k_c, Nat.reduceAdd, Nat.reduceLeDiff, Nat.reduceLT] <;> fail) | (simp only [k_c]; omega) | (simp only [k_d, k_c, Nat.reduceAdd, Nat.reduceLeDiff, Nat.reduceLT, *] <;> fail) | fail)) only [bl_outriderlaw16_RunOrder1, k2, tl, lt_f, k_a, k_b, Nat.reduceAdd, k_s, k_x, Int.reduceBEq, Int.reduceBNe, Int.reduceLT, Int.reduceLE, Int.reduceGT, Int.reduceGE, Int.reduceNeg]
  | m + 1, k, H, hm, hQ, hV, hW, hV0 => by
    have h1 : k < R.rs.length := by omega
    have hn2 := hI.n2
    have es := wrap_s h1 (by omega)
    have hu : R.rs[k]? = some R.rs[k] := List.getElem?_eq_getElem h1
    have ht : R.ts[k]? = some (R.ts[k]'(by rw [← hI.ok.len]; exact h1)) := List.getElem?_eq_getElem _
    have hw : R0.rs[k]? = some (R0.rs[k]'(by rw [← hS.len]; exact h1)) := List.getElem?_eq_getElem _
    generalize hug : R.rs[k] = u at *
    generalize R.ts[k]'(by rw [← hI.ok.len]; exact h1) = t at *
    generalize R0.rs[k]'(by rw [← hS.len]; exact h1) = w at *
    obtain ⟨i1, i2, i3, i4⟩ := hI.tr k t u ht hu
    obtain ⟨s1, s2⟩ := hS.mono k w u hw hu
    have htd := hI.td t (List.mem_of_getElem? ht)
    have k0 : cellAt H Q 0 = some dx := hQ.cellAt rfl
    have k2 : cellAt H Q 2 = some tx := hQ.cellAt rfl
    have tl := hV.tlen
    obtain ⟨x, b, o, q0, q1, q2, q3, q4, q5, q6⟩ := hV.d.at ht
    have hst := st_tk t x q1 H
    have o1 := al_out H (tkC t x) 43 0
    have cT := al_cs H (tkC t x) 43 0
    obtain ⟨e0, e1, e2, e3, e4, e5⟩ := fd_tk t x
    have m1 := cT.cellAt e1
    have m2 := cT.cellAt e2
    have hQ1 := hQ.out o1 (by simp)
    have hW1 := hW.out o1 (by simp)
    have hV1 := hV.out0 o1
    have hV01 := hV0.out0 o1
    have hx1 := q2.out0 o1
    generalize hA : al H (tkC t x) 43 0 = H1 at *
    have g2 : cellAt H1 Q 2 = some tx := hQ1.cellAt rfl
    have w2 : cellAt H1 W 2 = some ty := hW1.cellAt rfl
    obtain ⟨c, o', p1, p2, p3, p4, p5⟩ := hV1.t.at (by decide) (rts_get hu)
    have r0 : cellAt H1 c o' = some (.int .i64 u.ph) := by have := p5 0 _ (fd_rt u).1; rwa [Nat.add_zero] at this
    have r1 : cellAt H1 c (o' + 1) = some (.int .i64 u.tr) := p5 1 _ (fd_rt u).2.1
    obtain ⟨c', o'', y1, y2, y3, y4, y5⟩ := hV01.t.at (by decide) (rts_get hw)
    have z0 : cellAt H1 c' o'' = some (.int .i64 w.ph) := by have := y5 0 _ (fd_rt w).1; rwa [Nat.add_zero] at this
    have z1 : cellAt H1 c' (o'' + 1) = some (.int .i64 w.tr) := y5 1 _ (fd_rt w).2.1
    have er : IntKind.wrap .i64 (t.retry + 1) = t.retry + 1 := wrap_i64 (by omega) (by omega)
    have d1 : decide (t.retry + 1 < u.tr) = false := decide_eq_false (by omega)
    have d2 : decide (u.tr < w.tr) = false := decide_eq_false (by omega)
    have hph : u.ph ≠ 0 → ∀ a ∈ t.after, phN R.rs a = 3 := fun z a ha => by
      have := i4 z
      unfold blk at this
      rw [List.any_eq_false] at this
      have := this a ha
      simpa using this
    have hbd : ∀ a ∈ t.after, 0 ≤ a ∧ a < R.rs.length := fun a ha => by
      have := hI.ok.aft t (List.mem_of_getElem? ht) a ha
      rw [hI.ok.len]; exact this
    have l2 := fun d j40 j50 j297 j331 j434 => ord2_loop (a0 := a0) (a2 := a2) (a3 := a3) (a4 := .ptr W 0) (a5 := d) hn2 (hal t (List.mem_of_getElem? ht)) g2 hV1.t m1 hx1 hu hbd hph j40 j50 j297 j331 j434 t.after 0 (Nat.zero_le _) List.drop_zero
    rw [show (((0 : Nat) : Int)) = 0 from rfl] at l2
    have htk : R.rs.take (k + 1) = R.rs.take k ++ [u] := by rw [List.take_add_one, hu]; rfl
    have hcl : (R.rs.take k).countP u3 ≤ 16 := Nat.le_trans List.countP_le_length (by rw [List.length_take]; omega)
    obtain ⟨H', n1, n2⟩ := ord1_loop (a0 := a0) (a2 := a2) (a3 := a3) hI hS hal m (k + 1) H1 (by omega) hQ1 hV1 hW1 hV01
    refine ⟨H', fun j40 j50 j297 => ?_, o1.trans n2⟩
    have n1' := n1 j40 j50 j297
    rw [htk, List.countP_append, List.countP_singleton] at n1'
    rw [ql_outriderlaw16_RunOrder1]
    have fin : ∀ pu : Bool, (u.ph == 3) = pu → (w.ph == 3) = true → u = w → bl_outriderlaw16_RunOrder1 JN GO cK j40 j50 j297 (l_outriderlaw16_RunOrder1 JN GO cK j40 j50 j297) a0 (.ptr Q 0) a2 a3 (.ptr W 0) (.int .i64 ((R.rs.take k).countP u3 : Nat)) (.int .i64 (k : Nat)) H = j297 a0 (.ptr Q 0) a2 a3 (.int .i64 (R.rs.countP u3 : Nat)) H' := by
      intro pu h3 h4 e
      subst e
      rw [h4] at h3
      subst h3
      obtain ⟨gg, nn⟩ := ne_rt u H1
      have ec : IntKind.wrap .i64 (((R.rs.take k).countP u3 : Nat) + 1) = (((R.rs.take k).countP u3 + 1 : Nat) : Int) := by rw [wrap_i64 (by omega) (by omega)]; omega
      have hu3 : u3 u = true := h4
      rw [hu3, if_pos rfl] at n1'
      simp (maxSteps := 2000000) (disch := (first | assumption | omega | (simp only [k_d, k_c, Nat.reduceAdd, Nat.reduceLeDiff, Nat.reduceLT] <;> fail) | (simp only [k_c]; omega) | (simp only [k_d, k_c, Nat.reduceAdd, Nat.reduceLeDiff, Nat.reduceLT, *] <;> fail) | fail)) only [bl_outriderlaw16_RunOrder1, lt_t h1, k0, k2, tl, q3, q5, hst, hA, g2, w2, p1, r0, r1, m2, er, d1, y1, z0, z1, d2, h4, p4, y4, gg, IFT_t, nn, ec, l2, es, n1', k_a, k_b, Nat.reduceAdd, k_s, k_x, Int.reduceBEq, Int.reduceBNe, Int.reduceLT, Int.reduceLE, Int.reduceGT, Int.reduceGE, Int.reduceNeg]
    cases h4 : (w.ph == 3) with
    | true => exact fin (u.ph == 3) rfl h4 (s2 (by simpa using h4))
    | false =>
      cases h3 : (u.ph == 3) with
      | true =>
        have ec : IntKind.wrap .i64 (((R.rs.take k).countP u3 : Nat) + 1) = (((R.rs.take k).countP u3 + 1 : Nat) : Int) := by rw [wrap_i64 (by omega) (by omega)]; omega
        have hu3 : u3 u = true := h3
        rw [hu3, if_pos rfl] at n1'
        simp (maxSteps := 2000000) (disch := (first | assumption | omega | (simp only [k_d, k_c, Nat.reduceAdd, Nat.reduceLeDiff, Nat.reduceLT] <;> fail) | (simp only [k_c]; omega) | (simp only [k_d, k_c, Nat.reduceAdd, Nat.reduceLeDiff, Nat.reduceLT, *] <;> fail) | fail)) only [bl_outriderlaw16_RunOrder1, lt_t h1, k0, k2, tl, q3, q5, hst, hA, g2, w2, p1, r0, r1, m2, er, d1, y1, z0, z1, d2, h4, h3, ec, l2, es, n1', k_a, k_b, Nat.reduceAdd, k_s, k_x, Int.reduceBEq, Int.reduceBNe, Int.reduceLT, Int.reduceLE, Int.reduceGT, Int.reduceGE, Int.reduceNeg]
      | false =>
        have hu3 : u3 u = false := h3
        rw [hu3, if_neg (by simp), Nat.add_zero] at n1'
        simp (maxSteps := 2000000) (disch := (first | assumption | omega | (simp only [k_d, k_c, Nat.reduceAdd, Nat.reduceLeDiff, Nat.reduceLT] <;> fail) | (simp only [k_c]; omega) | (simp only [k_d, k_c, Nat.reduceAdd, Nat.reduceLeDiff, Nat.reduceLT, *] <;> fail) | fail)) only [bl_outriderlaw16_RunOrder1, lt_t h1, k0, k2, tl, q3, q5, hst, hA, g2, w2, p1, r0, r1, m2, er, d1, y1, z0, z1, d2, h4, h3, l2, es, n1', k_a, k_b, Nat.reduceAdd, k_s, k_x, Int.reduceBEq, Int.reduceBNe, Int.reduceLT, Int.reduceLE, Int.reduceGT, Int.reduceGE, Int.reduceNeg]
end Go.Proofs.YthljbjokonglhaaGreatDoor.DfK
namespace Go.Proofs.YthljbjokonglhaaGreatDoor.DfK
open Go Am Am.K DfEnv DfM LibP DfG
set_option linter.unusedVariables false
set_option linter.unusedSimpArgs false
set_option maxRecDepth 10000
set_option maxHeartbeats 2000000
structure Act where
  op : Int
  task : Int
  try_ : Int
  n : Int
  name : Str
def actC (a : Act) : List AV := [.int .i64 a.op, .int .i64 a.task, .int .i64 a.try_, .int .i64 a.n, .str a.name]
abbrev ActTy : Ty := .struct 5 [(0, 1, .int .i64), (1, 1, .int .i64), (2, 1, .int .i64), (3, 1, .int .i64), (4, 1, .str)]
theorem pickL {α : Type} (Q : Nat → α → Prop) : ∀ n, (∀ j, j < n → ∃ a, Q j a) → ∃ l : List α, l.length = n ∧ ∀ (j : Nat) (a : α), l[j]? = some a → Q j a
  | 0, _ => ⟨[], rfl, fun j a h => by simp at h⟩
  | n + 1, h => by
    obtain ⟨l, hl, hq⟩ := pickL Q n fun j hj => h j (by omega)
    obtain ⟨a, ha⟩ := h n (by omega)
    refine ⟨l ++ [a], by simp [hl], fun j b hb => ?_⟩
    by_cases hj : j < l.length
    · rw [List.getElem?_append_left hj] at hb; exact hq j b hb
    · rw [List.getElem?_append_right (by omega)] at hb
      have : j - l.length = 0 := by
        have := (List.getElem?_eq_some_iff.1 hb).1
        simp at this; omega
      rw [this] at hb
      cases hb
      rw [show j = n by omega]; exact ha
theorem is_i' {H : Hp} {k : IntKind} {l : List AV} {d : D} (h : Is H (.int k) l d) : ∃ z, l = [.int k z] := by
  cases h with
  | int k z h => exact ⟨z, rfl⟩
theorem is_s' {H : Hp} {l : List AV} {d : D} (h : Is H .str l d) : ∃ s, l = [.str s] := by
  cases h with
  | str s h hl => exact ⟨s, rfl⟩
theorem five {l : List AV} (h : l.length = 5) {a b c d e : AV} (h0 : (l.drop 0).take 1 = [a]) (h1 : (l.drop 1).take 1 = [b]) (h2 : (l.drop 2).take 1 = [c]) (h3 : (l.drop 3).take 1 = [d]) (h4 : (l.drop 4).take 1 = [e]) : l = [a, b, c, d, e] := by
  match l, h with
  | [v, w, x, y, z], _ =>
    simp at h0 h1 h2 h3 h4
    simp [h0, h1, h2, h3, h4]
theorem flat_of {es : Nat} : ∀ {cs : List AV} {L : List (List AV)}, cs.length = L.length * es → (∀ (i : Nat) (c : List AV), L[i]? = some c → (cs.drop (i * es)).take es = c ∧ c.length = es) → cs = L.flatten
  | cs, [], h, _ => by
    simp at h; simp [h]
  | cs, a :: L, h, hq => by
    obtain ⟨h1, h2⟩ := hq 0 a rfl
    rw [Nat.zero_mul, List.drop_zero] at h1
    simp only [List.length_cons, Nat.add_mul, Nat.one_mul] at h
    have ih := flat_of (es := es) (cs := cs.drop es) (L := L) (by rw [List.length_drop]; omega) fun i c hc => by
      obtain ⟨g1, g2⟩ := hq (i + 1) c hc
      refine ⟨?_, g2⟩
      rw [List.drop_drop, show es + i * es = (i + 1) * es by rw [Nat.add_mul, Nat.one_mul]; omega]
      exact g1
    rw [List.flatten_cons, ← ih, ← h1, List.take_append_drop]
theorem acts_of {H : Hp} {x : AV} {d : D} (h : Is H (.slice 5 ActTy) [x] d) : ∃ l : List Act, RL H 5 x (l.map actC) := by
  cases h with
  | @slice _ _ _ cs ds hr hl hd =>
    obtain ⟨l, h1, h2⟩ := pickL (fun j (a : Act) => (cs.drop (j * 5)).take 5 = actC a) ds.length (fun j hj => by
      have hs := hd j _ (List.getElem?_eq_getElem hj)
      generalize hL : (cs.drop (j * 5)).take 5 = L at hs ⊢
      generalize ds[j] = dd at hs
      cases hs with
      | @struct _ _ _ es q1 q2 q3 =>
        simp only [List.length_cons, List.length_nil] at q2
        obtain ⟨a, a1⟩ := is_i' (q3 0 _ _ rfl (List.getElem?_eq_getElem (by omega)))
        obtain ⟨b, b1⟩ := is_i' (q3 1 _ _ rfl (List.getElem?_eq_getElem (by omega)))
        obtain ⟨c, c1⟩ := is_i' (q3 2 _ _ rfl (List.getElem?_eq_getElem (by omega)))
        obtain ⟨e, e1⟩ := is_i' (q3 3 _ _ rfl (List.getElem?_eq_getElem (by omega)))
        obtain ⟨f, f1⟩ := is_s' (q3 4 _ _ rfl (List.getElem?_eq_getElem (by omega)))
        exact ⟨⟨a, b, c, e, f⟩, five q1 a1 b1 c1 e1 f1⟩)
    refine ⟨l, ?_, fun c hc => by obtain ⟨a, _, rfl⟩ := List.mem_map.1 hc; rfl⟩
    rw [← flat_of (cs := cs) (es := 5) (L := l.map actC) (by rw [List.length_map, hl, h1]) fun i c hc => by
      rw [List.getElem?_map, Option.map_eq_some_iff] at hc
      obtain ⟨a, ha, rfl⟩ := hc
      exact ⟨h2 i a ha, rfl⟩]
    exact hr
theorem and_le {a : Int} {m : Nat} (hm : m < 4294967296) : ∃ z : Nat, iand (.int .i64 a) (.int .i64 (m : Int)) = some (.int .i64 (z : Int)) ∧ z ≤ m := by
  refine ⟨bts .i64 a &&& m, ?_, Nat.and_le_right⟩
  have hb : bts .i64 (m : Int) = m := by
    unfold bts
    have e : (2 ^ IntKind.i64.bits : Nat) = 18446744073709551616 := rfl
    have : (m : Int) % ((2 ^ IntKind.i64.bits : Nat) : Int) = m := Int.emod_eq_of_lt (by omega) (by rw [e]; omega)
    rw [this]
    omega
  have hw : IntKind.wrap .i64 ((bts .i64 a &&& m : Nat) : Int) = ((bts .i64 a &&& m : Nat) : Int) := by
    have : bts .i64 a &&& m ≤ m := Nat.and_le_right
    exact wrap_i64 (by omega) (by omega)
  unfold iand ii
  simp only [if_true, hb, hw]
/-! begun -/
noncomputable def begunM (text : Str) : Rn × Int := if (parseM text).2 = 0 then newM (parseM text).1 else (Rn0, (parseM text).2)
theorem begun_c {text : Str} {H : Hp} (hg : Gl H) : Ans (.func (.func 25) [] []) [.str text] H (begunM text).1 (begunM text).2 := by
  have o1 := al_out H zR 47 0
  have cQ := al_cs H zR 47 0
  have n1 : (al H zR 47 0).next = H.next + 1 := rfl
  have hnc : newCells H zR 47 0 = some (H.next, al H zR 47 0) := newCells_al (by simp)
  generalize hA1 : al H zR 47 0 = H1 at *
  obtain ⟨dx, xs, H2, p1, p2, p3, p4⟩ := parse_c0 (text := text) (hg.out0 o1)
  have hdx1 := p2.row.one
  have n2 := p3.nx
  have o3 := al_out H2 [dx] 25 0
  have cD := al_cs H2 [dx] 25 0
  have hR3 := p2.out0 o3
  have st0 : st 1 (.ptr H2.next 0) (.agg [dx]) (al H2 [.slice0] 25 0) = some (al H2 [dx] 25 0) := st_alN (by simp [hdx1]) rfl rfl (by decide) rfl
  have n3 : (al H2 [dx] 25 0).next = H2.next + 1 := rfl
  generalize hA3 : al H2 [dx] 25 0 = H3 at *
  have o13 := (o1.trans p3).trans o3
  have cQ3 := (cQ.out p3 (by simp)).out o3 (by simp)
  unfold begunM
  by_cases he : (parseM text).2 = 0
  · rw [if_pos he]
    have d2 : ((parseM text).2 != 0) = false := by simp [he]
    obtain ⟨g1, g2, g3, g4, g5, g6⟩ := parseM_good he
    generalize (parseM text).1 = ts at *
    have hal := after_le g3 g4
    have kD : cellsAt H3 H2.next 0 1 = some [dx] := cD.cellsAt 1 0 (by simp)
    obtain ⟨dx4, xs4, tx4, sx4, H4, q1, q2, q3, q4⟩ := new_c hR3 (by omega) (fun t ht => by have := hal t ht; omega)
    have n4 := q3.nx
    obtain ⟨H5, w1, w2, w3, w4⟩ := stAll (n := 4) (vs := rv dx4 (newM ts).1.st tx4 sx4) (cQ3.out q3 (by simp)) rfl rfl (by simp [q2.v.d.row.one, q2.t.rl.one, q2.s.oneX, oneC_i])
    have k5 : cellsAt H5 H.next 0 4 = some (rv dx4 (newM ts).1.st tx4 sx4) := w2.cellsAt 4 0 (by simp)
    refine ⟨dx4, xs4, tx4, sx4, H5, c_outriderlaw16_begun ?_, q2.out w3 (fun j hj => by rw [List.mem_singleton]; have := q4 j hj; omega), outNew (o13.trans q3) w3 (one_ge (Nat.le_refl _)), fun j hj => by have := q4 j hj; omega⟩
    unfold s_outriderlaw16_begun
    simp (disch := (first | assumption | omega | (simp only [k_d, k_c, Nat.reduceAdd, Nat.reduceLeDiff, Nat.reduceLT] <;> fail) | (simp only [k_c]; omega) | (simp only [k_d, k_c, Nat.reduceAdd, Nat.reduceLeDiff, Nat.reduceLT, *] <;> fail) | fail)) only [hnc, hA1, p1, st0, d2, kD, q1, w1, k5, k_a, k_b, Nat.reduceAdd, k_s, k_x, Int.reduceBEq, Int.reduceBNe, Int.reduceLT, Int.reduceLE, Int.reduceGT, Int.reduceGE, Int.reduceNeg]
  · rw [if_neg he]
    have d2 : ((parseM text).2 != 0) = true := by simp [he]
    obtain ⟨H4, w1, w2, w3, w4⟩ := stAll (n := 4) (vs := zR) cQ3 rfl rfl rfl
    have k5 : cellsAt H4 H.next 0 4 = some zR := w2.cellsAt 4 0 (by simp)
    refine Ans.err (c_outriderlaw16_begun (?_ : _ = some (_, H4))) o13 w3 (Nat.le_refl _)
    unfold s_outriderlaw16_begun
    simp (disch := (first | assumption | omega | (simp only [k_d, k_c, Nat.reduceAdd, Nat.reduceLeDiff, Nat.reduceLT] <;> fail) | (simp only [k_c]; omega) | (simp only [k_d, k_c, Nat.reduceAdd, Nat.reduceLeDiff, Nat.reduceLT, *] <;> fail) | fail)) only [hnc, hA1, p1, st0, d2, w1, k5, k_a, k_b, Nat.reduceAdd, k_s, k_x, Int.reduceBEq, Int.reduceBNe, Int.reduceLT, Int.reduceLE, Int.reduceGT, Int.reduceGE, Int.reduceNeg]
end Go.Proofs.YthljbjokonglhaaGreatDoor.DfK
