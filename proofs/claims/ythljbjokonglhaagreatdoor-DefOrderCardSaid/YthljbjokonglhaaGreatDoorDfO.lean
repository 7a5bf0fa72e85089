/- DefOrder over the symbolic heap: a definition that is read has an order in which each task stands behind those that it waits for. Conditions: the listed variables hold what the row says. -/
import Derived.Test.YthljbjokonglhaaGreatDoorDfD6
namespace Go.Proofs.YthljbjokonglhaaGreatDoor.DfK
open Go Am Am.K DfEnv DfM LibP DfG
set_option linter.unusedVariables false
set_option linter.unusedSimpArgs false
set_option maxRecDepth 10000
/-! the plain law of the order -/
theorem nextB_spec {E : List Ed} {out : List Nat} : ∀ (n : Nat) (nx : Int), (∃ m : Nat, m < n ∧ nextB E out n nx = m ∧ freeN E out m = true) ∨ (nextB E out n nx = nx ∧ ∀ m, m < n → freeN E out m = false)
  | 0, nx => .inr ⟨rfl, fun m h => by omega⟩
  | n + 1, nx => by
    have hn : nextB E out (n + 1) nx = nextB E out n (if freeN E out n then (n : Int) else nx) := rfl
    rw [hn]
    cases hf : freeN E out n with
    | true =>
      rcases nextB_spec (E := E) (out := out) n (n : Int) with ⟨m, h1, h2, h3⟩ | ⟨h1, h2⟩
      · exact .inl ⟨m, by omega, by simpa using h2, h3⟩
      · exact .inl ⟨n, by omega, by simpa using h1, hf⟩
    | false =>
      rcases nextB_spec (E := E) (out := out) n nx with ⟨m, h1, h2, h3⟩ | ⟨h1, h2⟩
      · exact .inl ⟨m, by omega, by simpa using h2, h3⟩
      · refine .inr ⟨by simpa using h1, fun m hm => ?_⟩
        by_cases hmn : m = n
        · subst hmn; exact hf
        · exact h2 m (by omega)
theorem free_iff {E : List Ed} {out : List Nat} {n : Nat} : freeN E out n = true ↔ (∀ a, (a, n) ∈ E → a ∈ out) ∧ n ∉ out := by
  unfold freeN
  rw [Bool.and_eq_true, List.all_eq_true, Bool.not_eq_true', List.any_eq_false]
  constructor
  · rintro ⟨h1, h2⟩
    refine ⟨fun a ha => ?_, fun q => h2 n q (by simp)⟩
    have := h1 a (mem_bes.2.2 ha)
    rw [List.any_eq_true] at this
    obtain ⟨b, hb, he⟩ := this
    have : a = b := by simpa using he
    rw [this]; exact hb
  · rintro ⟨h1, h2⟩
    refine ⟨fun a ha => ?_, fun b hb q => h2 ?_⟩
    · rw [List.any_eq_true]; exact ⟨a, h1 a (mem_bes.2.1 ha), by simp⟩
    · have : n = b := by simpa using q
      rw [this]; exact hb
theorem noCyc_V {N : Nat} {E : List Ed} (hE : GoodE N E) (h : noCyc N E) : ∀ n, n < N → V (far (fun n => bes E n false) N n) n = false := by
  intro n hn
  have := h n hn
  unfold selfD at this
  unfold V
  rw [fa_at hE hn, this]
theorem sc_lt {N : Nat} {E : List Ed} (hE : GoodE N E) : ∀ a, ∀ b ∈ bes E a false, b < N := fun a b hb => (hE.lt _ (mem_bes.1.1 hb)).2.1
/-- the order is good -/
structure OrdOK (N : Nat) (E : List Ed) (l : List Nat) : Prop where
  lt : ∀ a ∈ l, a < N
  nd : l.Nodup
  pre : ∀ (k n : Nat), l[k]? = some n → ∀ a, (a, n) ∈ E → a ∈ l.take k
theorem ordM_ok {N : Nat} {E : List Ed} (hE : GoodE N E) (h : noCyc N E) : ∀ (k : Nat) (out : List Nat), out.length + k = N → OrdOK N E out → ∃ l, ordM E N k out = some l ∧ OrdOK N E l ∧ l.length = N
  | 0, out, hk, ho => ⟨out, rfl, ho, by omega⟩
  | k + 1, out, hk, ho => by
    have hR : (List.range N).filter (fun n => !(out.any (fun b => n == b))) ≠ [] := by
      intro q
      have hsub : ∀ n, n < N → n ∈ out := by
        intro n hn
        rw [List.filter_eq_nil_iff] at q
        have := q n (List.mem_range.2 hn)
        rw [Bool.not_eq_true, Bool.not_eq_false', List.any_eq_true] at this
        obtain ⟨b, hb, he⟩ := this
        have : n = b := by simpa using he
        rw [this]; exact hb
      have h1 : (List.range N).length ≤ out.length := by
        have key : ∀ (m : Nat) (o : List Nat), (∀ n, n < m → n ∈ o) → m ≤ o.length := by
          intro m
          induction m with
          | zero => intro o _; omega
          | succ m ih =>
            intro o ho
            have hm := ho m (by omega)
            have := ih (o.erase m) fun n hn => (List.mem_erase_of_ne (by omega)).2 (ho n (by omega))
            rw [List.length_erase_of_mem hm] at this
            have : 0 < o.length := List.length_pos_of_mem hm
            omega
        rw [List.length_range]; exact key N out hsub
      rw [List.length_range] at h1
      omega
    obtain ⟨m, hm, hx⟩ := first_of (sc_lt hE) (noCyc_V hE h) _ hR (fun a ha => List.mem_range.1 (List.mem_filter.1 ha).1)
    obtain ⟨hm1, hm2⟩ := List.mem_filter.1 hm
    have hmo : m ∉ out := fun q => by
      rw [Bool.not_eq_true', List.any_eq_false] at hm2
      exact hm2 m q (by simp)
    have hfree : freeN E out m = true := free_iff.2 ⟨fun a ha => by
      refine Classical.byContradiction fun q => ?_
      have haN := (hE.lt _ ha).1
      have haR : a ∈ (List.range N).filter (fun n => !(out.any (fun b => n == b))) := by
        rw [List.mem_filter]
        refine ⟨List.mem_range.2 haN, ?_⟩
        rw [Bool.not_eq_true', List.any_eq_false]
        intro b hb he
        have : a = b := by simpa using he
        exact q (this ▸ hb)
      exact hx a haR (mem_bes.1.2 ha), hmo⟩
    rcases nextB_spec (E := E) (out := out) N (-1) with ⟨n, n1, n2, n3⟩ | ⟨n1, n2⟩
    · obtain ⟨f1, f2⟩ := free_iff.1 n3
      have ho' : OrdOK N E (out ++ [n]) := by
        refine ⟨fun a ha => ?_, List.nodup_append.2 ⟨ho.nd, by simp, fun a ha b hb => ?_⟩, fun i c hc a ha => ?_⟩
        · rcases List.mem_append.1 ha with ha | ha
          · exact ho.lt a ha
          · rw [List.mem_singleton] at ha; subst ha; exact n1
        · rw [List.mem_singleton] at hb; subst hb; exact fun e => f2 (e ▸ ha)
        · by_cases hi : i < out.length
          · rw [List.getElem?_append_left hi] at hc
            rw [List.take_append_of_le_length (by omega)]
            exact ho.pre i c hc a ha
          · have h2 := (List.getElem?_eq_some_iff.1 hc).1
            rw [List.length_append] at h2
            obtain rfl : i = out.length := by simp at h2; omega
            rw [List.getElem?_append_right (Nat.le_refl _), Nat.sub_self] at hc
            cases hc
            rw [List.take_append_of_le_length (Nat.le_refl _), List.take_of_length_le (Nat.le_refl _)]
            exact f1 a ha
      obtain ⟨l, l1, l2⟩ := ordM_ok hE h k (out ++ [n]) (by simp; omega) ho'
      refine ⟨l, ?_, l2⟩
      rw [ordM, if_neg (by omega), n2, Int.toNat_natCast]
      exact l1
    · have := n2 m (List.mem_range.1 hm1)
      rw [hfree] at this; cases this
/-! the law's own loops -/
theorem nodup_inj : ∀ {l : List Nat} {i j x : Nat}, l.Nodup → l[i]? = some x → l[j]? = some x → i = j
  | [], i, j, x, _, h, _ => by simp at h
  | a :: l, 0, 0, x, _, _, _ => rfl
  | a :: l, 0, j + 1, x, hn, h, k => by
    simp only [List.getElem?_cons_zero, Option.some.injEq, List.getElem?_cons_succ] at h k
    subst h
    exact absurd (List.mem_of_getElem? k) (List.nodup_cons.1 hn).1
  | a :: l, i + 1, 0, x, hn, h, k => by
    simp only [List.getElem?_cons_zero, Option.some.injEq, List.getElem?_cons_succ] at h k
    subst k
    exact absurd (List.mem_of_getElem? h) (List.nodup_cons.1 hn).1
  | a :: l, i + 1, j + 1, x, hn, h, k => by
    simp only [List.getElem?_cons_succ] at h k
    rw [nodup_inj (List.nodup_cons.1 hn).2 h k]
theorem place_loop {N : Nat} {l : List Nat} {lx : AV} {A : Nat} {x69 : AV} (hN : N ≤ 16) (hlt : ∀ a ∈ l, a < N) (hnd : l.Nodup) (hll : l.length = N) : ∀ (r : List Nat) (i : Nat) (H : Hp) (pl : List Nat), i ≤ l.length → l.drop i = r → Rw H 1 lx (ints (nats l)) → A ∉ rid lx → pl.length = N → (∀ k, k < i → ∀ n, l[k]? = some n → pl[n]? = some k) → Cs H A (ints (nats pl)) 3 0 →
    ∃ H' pl', (∀ j67 : K.Fn 2, l_outriderlaw12_DefOrder JN GO cK j67 x69 lx (.slice A 0 N N true 1) (.int .i64 (i : Nat)) H = j67 x69 (.slice A 0 N N true 1) H') ∧ pl'.length = N ∧ (∀ (k n : Nat), l[k]? = some n → pl'[n]? = some k) ∧ Cs H' A (ints (nats pl')) 3 0 ∧ Out [A] H H'
  | [], i, H, pl, hi, h, hlx, hA, hpl, hp, hC => by
    obtain rfl := drop_nil hi h
    have hl := hlx.len1
    rw [ints_len, nats_len] at hl
    refine ⟨H, pl, fun j67 => ?_, hpl, fun k n hk => hp k (List.getElem?_eq_some_iff.1 hk).1 n hk, hC, Out.refl _ _⟩
    rw [ql_outriderlaw12_DefOrder]
    simp only [bl_outriderlaw12_DefOrder, hl, lt_f, k_s, k_x, Int.reduceBEq, Int.reduceBNe, Int.reduceLT, Int.reduceLE, Int.reduceGT, Int.reduceGE, Int.reduceNeg]
  | n :: r, i, H, pl, hi, h, hlx, hA, hpl, hp, hC => by
    obtain ⟨h1, h2, h3⟩ := hd_drop h
    have hl := hlx.len1
    rw [ints_len, nats_len] at hl
    obtain ⟨q, q1, q2⟩ := hlx.ia1 (nats_get h2) .i64
    have es := wrap_s h1 (by omega)
    have hn := hlt n (List.mem_of_getElem? h2)
    have d1 : decide (((n : Nat) : Int) < 0) = false := decide_eq_false (by omega)
    have d2 : decide (((l.length : Nat) : Int) ≤ ((n : Nat) : Int)) = false := decide_eq_false (by omega)
    have hia : ia 1 (.slice A 0 N N true 1) (.int .i64 (n : Int)) = some (.ptr A n) := by rw [ia_s hn]; simp
    obtain ⟨H1, w1, w2, w3, w4⟩ := st1 hC (by decide) (o := n) (by rw [ints_len, nats_len]; omega) (v := .int .i64 (i : Int)) rfl
    have hset : (ints (nats pl)).set n (.int .i64 (i : Int)) = ints (nats (pl.set n i)) := by simp [ints, nats, List.map_set]
    rw [hset] at w2
    obtain ⟨H', pl', i1, i2, i3, i4, i5⟩ := place_loop (x69 := x69) hN hlt hnd hll r (i + 1) H1 (pl.set n i) h1 h3 (hlx.out w3 fun j hj => by rw [List.mem_singleton]; intro e; subst e; exact hA hj) hA (by rw [List.length_set]; exact hpl) (fun k hk m hm => by
      by_cases hki : k = i
      · subst hki
        rw [h2] at hm; cases hm
        rw [List.getElem?_set_self (by omega)]
      · have hne : n ≠ m := fun e => by
          subst e
          exact hki (nodup_inj hnd hm h2)
        rw [List.getElem?_set_ne hne]
        exact hp k (by omega) m hm) w2
    refine ⟨H', pl', fun j67 => ?_, i2, i3, i4, w3.trans i5⟩
    rw [ql_outriderlaw12_DefOrder]
    simp (disch := (first | assumption | omega | (simp only [k_d, k_c, Nat.reduceAdd, Nat.reduceLeDiff, Nat.reduceLT] <;> fail) | (simp only [k_c]; omega) | (simp only [k_d, k_c, Nat.reduceAdd, Nat.reduceLeDiff, Nat.reduceLT, *] <;> fail) | fail)) only [bl_outriderlaw12_DefOrder, hl, lt_t h1, q1, q2, d1, d2, hia, w1, es, i1, k_a, k_b, Nat.reduceAdd, k_s, k_x, Int.reduceBEq, Int.reduceBNe, Int.reduceLT, Int.reduceLE, Int.reduceGT, Int.reduceGE, Int.reduceNeg]
theorem chk2_loop {N : Nat} {ts : List Tk} {dx : AV} {xs : List AV} {pl : List Nat} {A D : Nat} {H : Hp} (hN : N ≤ 16) (hpl : pl.length = N) (hC : Cs H A (ints (nats pl)) 3 0) (hD : cellAt H D 0 = some dx) (hR : RD H dx xs ts) {i : Nat} {t : Tk} (ht : ts[i]? = some t) (hiN : i < N) (hal : t.after.length ≤ 16)
    (hok : ∀ a ∈ t.after, ∃ m : Nat, a = m ∧ m < N ∧ ∃ p q, pl[m]? = some p ∧ pl[i]? = some q ∧ p < q) (j136 : K.Fn 0) (j158 j159 : K.Fn 3) : ∀ (r : List Int) (k : Nat), k ≤ t.after.length → t.after.drop k = r →
    l_outriderlaw12_DefOrder2 JN GO cK j136 j158 j159 (.ptr D 0) (.slice A 0 N N true 1) (.int .i64 (i : Nat)) (.int .i64 (k : Nat)) H = j159 (.ptr D 0) (.slice A 0 N N true 1) (.int .i64 (i : Nat)) H
  | [], k, hk, h => by
    obtain rfl := drop_nil hk h
    obtain ⟨x, b, o, q0, q1, q2, q3, q4, q5, _⟩ := hR.at ht
    have hl := q2.len1
    rw [ints_len] at hl
    have hx : cellAt H b (o + 1) = some x := by
      have := q5
      unfold cellsAt at this
      have h6 : ∀ n o' l, cellsAt H b o' (n + 1) = some l → cellAt H b o' = l.head? ∧ cellsAt H b (o' + 1) n = some l.tail := by
        intro n o' l hl
        unfold cellsAt at hl
        simp only [Option.bind_eq_bind, Option.bind_eq_some_iff] at hl
        obtain ⟨v, h1, w, h2, h3⟩ := hl
        cases h3
        exact ⟨h1, h2⟩
      have a1 := (h6 5 o _ q5).2
      exact (h6 4 (o + 1) _ a1).1
    rw [ql_outriderlaw12_DefOrder2]
    simp (disch := (first | assumption | omega | (simp only [k_d, k_c, Nat.reduceAdd, Nat.reduceLeDiff, Nat.reduceLT] <;> fail) | (simp only [k_c]; omega) | (simp only [k_d, k_c, Nat.reduceAdd, Nat.reduceLeDiff, Nat.reduceLT, *] <;> fail) | fail)) only [bl_outriderlaw12_DefOrder2, hD, q3, hx, hl, lt_f, k_a, k_b, Nat.reduceAdd, k_s, k_x, Int.reduceBEq, Int.reduceBNe, Int.reduceLT, Int.reduceLE, Int.reduceGT, Int.reduceGE, Int.reduceNeg]
  | a :: r, k, hk, h => by
    obtain ⟨h1, h2, h3⟩ := hd_drop h
    obtain ⟨x, b, o, q0, q1, q2, q3, q4, q5, _⟩ := hR.at ht
    have hl := q2.len1
    rw [ints_len] at hl
    have hx : cellAt H b (o + 1) = some x := by
      have h6 : ∀ n o' l, cellsAt H b o' (n + 1) = some l → cellAt H b o' = l.head? ∧ cellsAt H b (o' + 1) n = some l.tail := by
        intro n o' l hl
        unfold cellsAt at hl
        simp only [Option.bind_eq_bind, Option.bind_eq_some_iff] at hl
        obtain ⟨v, h1, w, h2, h3⟩ := hl
        cases h3
        exact ⟨h1, h2⟩
      have a1 := (h6 5 o _ q5).2
      exact (h6 4 (o + 1) _ a1).1
    obtain ⟨y, y1, y2⟩ := q2.ia1 (ints_get h2) .i64
    have es := wrap_s h1 (by omega)
    obtain ⟨m, rfl, hm, p, q, p1, p2, p3⟩ := hok a (List.mem_of_getElem? h2)
    have d1 : decide (((m : Nat) : Int) < 0) = false := decide_eq_false (by omega)
    have d2 : decide (((N : Nat) : Int) ≤ ((m : Nat) : Int)) = false := decide_eq_false (by omega)
    have d3 : decide (((q : Nat) : Int) ≤ ((p : Nat) : Int)) = false := decide_eq_false (by omega)
    have ia1 : ia 1 (.slice A 0 N N true 1) (.int .i64 (m : Int)) = some (.ptr A m) := by rw [ia_s hm]; simp
    have ia2 : ia 1 (.slice A 0 N N true 1) (.int .i64 (i : Int)) = some (.ptr A i) := by rw [ia_s hiN]; simp
    have c1 := hC.cellAt (nats_get p1)
    have c2 := hC.cellAt (nats_get p2)
    have ih := chk2_loop hN hpl hC hD hR ht hiN hal hok j136 j158 j159 r (k + 1) h1 h3
    rw [ql_outriderlaw12_DefOrder2]
    simp (disch := (first | assumption | omega | (simp only [k_d, k_c, Nat.reduceAdd, Nat.reduceLeDiff, Nat.reduceLT] <;> fail) | (simp only [k_c]; omega) | (simp only [k_d, k_c, Nat.reduceAdd, Nat.reduceLeDiff, Nat.reduceLT, *] <;> fail) | fail)) only [bl_outriderlaw12_DefOrder2, hD, q3, hx, hl, lt_t h1, y1, y2, d1, d2, d3, ia1, ia2, c1, c2, es, ih, k_a, k_b, Nat.reduceAdd, k_s, k_x, Int.reduceBEq, Int.reduceBNe, Int.reduceLT, Int.reduceLE, Int.reduceGT, Int.reduceGE, Int.reduceNeg]
theorem chk_loop {N : Nat} {ts : List Tk} {dx : AV} {xs : List AV} {pl : List Nat} {A D : Nat} {H : Hp} (hN : N ≤ 16) (htl : ts.length = N) (hpl : pl.length = N) (hC : Cs H A (ints (nats pl)) 3 0) (hD : cellAt H D 0 = some dx) (hR : RD H dx xs ts) (hal : ∀ t ∈ ts, t.after.length ≤ 16)
    (hok : ∀ (i : Nat) (t : Tk), ts[i]? = some t → ∀ a ∈ t.after, ∃ m : Nat, a = m ∧ m < N ∧ ∃ p q, pl[m]? = some p ∧ pl[i]? = some q ∧ p < q) (j136 : K.Fn 0) : ∀ (r : List Tk) (i : Nat), i ≤ ts.length → ts.drop i = r →
    l_outriderlaw12_DefOrder1 JN GO cK j136 (.ptr D 0) (.slice A 0 N N true 1) (.int .i64 (i : Nat)) H = j136 H
  | [], i, hi, h => by
    obtain rfl := drop_nil hi h
    have hl := hR.lenx
    rw [ql_outriderlaw12_DefOrder1]
    simp (disch := (first | assumption | omega | (simp only [k_d, k_c, Nat.reduceAdd, Nat.reduceLeDiff, Nat.reduceLT] <;> fail) | (simp only [k_c]; omega) | (simp only [k_d, k_c, Nat.reduceAdd, Nat.reduceLeDiff, Nat.reduceLT, *] <;> fail) | fail)) only [bl_outriderlaw12_DefOrder1, hD, hl, lt_f, k_a, k_b, Nat.reduceAdd, k_s, k_x, Int.reduceBEq, Int.reduceBNe, Int.reduceLT, Int.reduceLE, Int.reduceGT, Int.reduceGE, Int.reduceNeg]
  | t :: r, i, hi, h => by
    obtain ⟨h1, h2, h3⟩ := hd_drop h
    have hl := hR.lenx
    have es := wrap_s h1 (by omega)
    have ih := chk_loop hN htl hpl hC hD hR hal hok j136 r (i + 1) h1 h3
    have i2 := fun j158 j159 => chk2_loop hN hpl hC hD hR h2 (by omega) (hal t (List.mem_of_getElem? h2)) (hok i t h2) j136 j158 j159 t.after 0 (Nat.zero_le _) List.drop_zero
    rw [show (((0 : Nat) : Int)) = 0 from rfl] at i2
    rw [ql_outriderlaw12_DefOrder1]
    simp (disch := (first | assumption | omega | (simp only [k_d, k_c, Nat.reduceAdd, Nat.reduceLeDiff, Nat.reduceLT] <;> fail) | (simp only [k_c]; omega) | (simp only [k_d, k_c, Nat.reduceAdd, Nat.reduceLeDiff, Nat.reduceLT, *] <;> fail) | fail)) only [bl_outriderlaw12_DefOrder1, hD, hl, lt_t h1, i2, es, ih, k_a, k_b, Nat.reduceAdd, k_s, k_x, Int.reduceBEq, Int.reduceBNe, Int.reduceLT, Int.reduceLE, Int.reduceGT, Int.reduceGE, Int.reduceNeg]
theorem mem_edFrom {ts : List Tk} : ∀ {i0 i : Nat} {t : Tk} {a : Int}, ts[i]? = some t → a ∈ t.after → (a.toNat, i0 + i) ∈ edFrom i0 ts := by
  induction ts with
  | nil => intro i0 i t a h; simp at h
  | cons u ts ih =>
    intro i0 i t a h ha
    cases i with
    | zero =>
      simp only [List.getElem?_cons_zero, Option.some.injEq] at h
      subst h
      exact List.mem_append_left _ (List.mem_map.2 ⟨a, ha, rfl⟩)
    | succ i =>
      simp only [List.getElem?_cons_succ] at h
      have := ih (i0 := i0 + 1) h ha
      rw [show i0 + 1 + i = i0 + (i + 1) by omega] at this
      exact List.mem_append_right _ this
theorem after_le {ts : List Tk} (hn : ts.length ≤ 16) (ha : aftAll ts) : ∀ t ∈ ts, t.after.length ≤ 16 := fun t ht => by
  obtain ⟨i, hi⟩ := List.getElem?_of_mem ht
  obtain ⟨x1, x2⟩ := aft_all ha hi
  have := nodup_le (n := ts.length) (fun a h => ⟨(x1 a h).1, (x1 a h).2.1⟩) x2
  omega
theorem law_c {text : Str} {H : Hp} (hT : hasT H begin0) (hnx : 11 ≤ H.next) : ∃ H', cK (.func (.func 5) [] []) [.str text] H = some (.bool true, H') := by
  have haw := awake_c an hT hnx
  have hg := Gl.of hT hnx
  by_cases hbig : 1024 < text.length
  · have d : decide ((1024 : Int) < (text.length : Int)) = true := decide_eq_true (by omega)
    refine ⟨H, c_outriderlaw12_DefOrder ?_⟩
    unfold s_outriderlaw12_DefOrder
    simp (disch := (first | assumption | omega | (simp only [k_d, k_c, Nat.reduceAdd, Nat.reduceLeDiff, Nat.reduceLT] <;> fail) | (simp only [k_c]; omega) | (simp only [k_d, k_c, Nat.reduceAdd, Nat.reduceLeDiff, Nat.reduceLT, *] <;> fail) | fail)) only [haw, d, k_a, k_b, Nat.reduceAdd, k_s, k_x, Int.reduceBEq, Int.reduceBNe, Int.reduceLT, Int.reduceLE, Int.reduceGT, Int.reduceGE, Int.reduceNeg]
  have d : decide ((1024 : Int) < (text.length : Int)) = false := decide_eq_false (by omega)
  obtain ⟨dx, xs, H1, p1, p2, p3, p4⟩ := parse_c (text := text) hg (by omega)
  have hdx1 := p2.row.one
  have o1 := al_out H1 [dx] 25 0
  have hR1 := p2.out0 o1
  have st0 : st 1 (.ptr H1.next 0) (.agg [dx]) (al H1 [.slice0] 25 0) = some (al H1 [dx] 25 0) := st_alN (by simp [hdx1]) rfl rfl (by decide) rfl
  by_cases he : (parseM text).2 ≠ 0
  · have d2 : ((parseM text).2 != 0) = true := by simp [he]
    refine ⟨al H1 [dx] 25 0, c_outriderlaw12_DefOrder ?_⟩
    unfold s_outriderlaw12_DefOrder
    simp (disch := (first | assumption | omega | (simp only [k_d, k_c, Nat.reduceAdd, Nat.reduceLeDiff, Nat.reduceLT] <;> fail) | (simp only [k_c]; omega) | (simp only [k_d, k_c, Nat.reduceAdd, Nat.reduceLeDiff, Nat.reduceLT, *] <;> fail) | fail)) only [haw, d, p1, st0, d2, k_a, k_b, Nat.reduceAdd, k_s, k_x, Int.reduceBEq, Int.reduceBNe, Int.reduceLT, Int.reduceLE, Int.reduceGT, Int.reduceGE, Int.reduceNeg]
  replace he : (parseM text).2 = 0 := Decidable.not_not.1 he
  have d2 : ((parseM text).2 != 0) = false := by simp [he]
  obtain ⟨g1, g2, g3, g4, g5, g6⟩ := parseM_good he
  generalize (parseM text).1 = ts at *
  have hal := after_le g3 g4
  have hE := goodE_of g3 g4
  obtain ⟨ex, H2, r1, r2, r3, r4⟩ := graph_c g3 hal g4 hR1
  obtain ⟨lx, H3, q1, q2, q3, q4⟩ := order_c hE r2
  obtain ⟨l, l1, l2, l3⟩ := ordM_ok hE g5 ts.length [] (by simp) ⟨fun a h => (by cases h), List.nodup_nil, fun k n h => by simp at h⟩
  rw [l1] at q1
  have hlx := q2 l l1
  have hll := hlx.len1
  rw [ints_len, nats_len, l3] at hll
  have o23 := o1.trans (r3.trans q3)
  have hD3 : cellAt H3 H1.next 0 = some dx := by
    rw [(r3.trans q3).cellAt (by rw [al_nx]; omega) (by simp), cellAt_al rfl]; rfl
  have hn13 := (r3.trans q3).nx
  rw [al_nx] at hn13
  have hmk := mks_ok (H := H3) (z := .int .i64 0) (el := 3) (n := ts.length) .i64 .i64 (by omega)
  have hrep : List.replicate ts.length (AV.int .i64 0) = ints (nats (List.replicate ts.length 0)) := by simp [ints, nats]
  rw [hrep] at hmk
  have o4 := al_out H3 (ints (nats (List.replicate ts.length 0))) 3 0
  have hlxl := hlx.lt
  obtain ⟨H4, pl, k1, k2, k3, k4, k5⟩ := place_loop (A := H3.next) (x69 := .ptr H1.next 0) g3 l2.lt l2.nd l3 l 0 _ (List.replicate ts.length 0) (Nat.zero_le _) List.drop_zero (hlx.out0 o4) (fun z => by have := hlxl _ z; omega) (by simp) (fun k hk => by omega) (al_cs H3 (ints (nats (List.replicate ts.length 0))) 3 0)
  rw [show (((0 : Nat) : Int)) = 0 from rfl] at k1
  have hR3 := (p2.out0 o23).out0 o4
  have hfl := p2.lt
  have hn1 := o1.nx
  have hR4 := hR3.out k5 fun j hj => by rw [List.mem_singleton]; have := hfl j hj; omega
  have hD4 : cellAt H4 H1.next 0 = some dx := by
    rw [k5.cellAt (by rw [al_nx]; omega) (by rw [List.mem_singleton]; omega), cellAt_al_ne (by omega)]; exact hD3
  have hperm : ∀ m, m < ts.length → ∃ k : Nat, l[k]? = some m := by
    intro m hm
    refine Classical.byContradiction fun q => ?_
    have hmn : m ∉ l := fun z => q (List.getElem?_of_mem z)
    have h1 := pigeon ts.length (m :: l) (List.nodup_cons.2 ⟨hmn, l2.nd⟩) fun a ha => by
      rcases List.mem_cons.1 ha with rfl | ha
      · exact hm
      · exact l2.lt a ha
    rw [List.length_cons, l3] at h1; omega
  have hok : ∀ (i : Nat) (t : Tk), ts[i]? = some t → ∀ a ∈ t.after, ∃ m : Nat, a = m ∧ m < ts.length ∧ ∃ p q, pl[m]? = some p ∧ pl[i]? = some q ∧ p < q := by
    intro i t ht a ha
    obtain ⟨a1, a2, a3⟩ := (aft_all g4 ht).1 a ha
    have hi := (List.getElem?_eq_some_iff.1 ht).1
    obtain ⟨q, hq⟩ := hperm i hi
    have hmem := mem_edFrom (i0 := 0) ht ha
    rw [Nat.zero_add] at hmem
    have hpre := l2.pre q i hq a.toNat hmem
    obtain ⟨p, hp⟩ := List.getElem?_of_mem hpre
    have hpl := (List.getElem?_eq_some_iff.1 hp).1
    rw [List.length_take] at hpl
    rw [List.getElem?_take, if_pos (by omega)] at hp
    exact ⟨a.toNat, by omega, by omega, p, q, k3 p _ hp, k3 q _ hq, by omega⟩
  have hchk := fun j136 => chk_loop g3 rfl k2 k4 hD4 hR4 hal hok j136 ts 0 (Nat.zero_le _) List.drop_zero
  rw [show (((0 : Nat) : Int)) = 0 from rfl] at hchk
  have hdl := hR3.lenx
  have hdc : cellsAt (al H1 [dx] 25 0) H1.next 0 1 = some [dx] := cellsAt_al rfl (by simp)
  refine ⟨H4, c_outriderlaw12_DefOrder ?_⟩
  unfold s_outriderlaw12_DefOrder
  simp (disch := (first | assumption | omega | (simp only [k_d, k_c, Nat.reduceAdd, Nat.reduceLeDiff, Nat.reduceLT] <;> fail) | (simp only [k_c]; omega) | (simp only [k_d, k_c, Nat.reduceAdd, Nat.reduceLeDiff, Nat.reduceLT, *] <;> fail) | fail)) only [haw, d, p1, st0, d2, hdc, r1, q1, Option.isSome_some, hll, hD3, hdl, bne_self_eq_false, hmk, k1, hchk, k_a, k_b, Nat.reduceAdd, k_s, k_x, Int.reduceBEq, Int.reduceBNe, Int.reduceLT, Int.reduceLE, Int.reduceGT, Int.reduceGE, Int.reduceNeg]
theorem order_top {H : Hp} {as' : List AV} {ds : List D} (h : ArgsIs H [.str] as' ds) (hT : hasT H begin0) (hn : 11 ≤ H.next) : ∃ H', cK (.func (.func 5) [] []) as' H = some (.bool true, H') := by
  cases h with
  | cons ha hk =>
    cases hk
    obtain ⟨s, rfl, _, _⟩ := isA_str ha
    exact law_c hT hn
end Go.Proofs.YthljbjokonglhaaGreatDoor.DfK
