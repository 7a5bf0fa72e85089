/- Plain law: what a breadth-first search finds; where none comes back to its beginning, each edge goes down in rank, and some node of each row has none of its row ahead. No conditions. -/
import Derived.Test.YthljbjokonglhaaGreatDoorAm13
namespace Go.Proofs.YthljbjokonglhaaGreatDoor.DfG
set_option linter.unusedVariables false
set_option linter.unusedSimpArgs false
theorem countP_le {p q : Nat → Bool} (h : ∀ x, p x = true → q x = true) (l : List Nat) : l.countP p ≤ l.countP q :=
  List.countP_mono_left fun x _ hx => h x hx
theorem countP_lt {p q : Nat → Bool} (h : ∀ x, p x = true → q x = true) {a : Nat} (hq : q a = true) (hp : p a = false) : ∀ l : List Nat, a ∈ l → l.countP p < l.countP q
  | [], hm => by cases hm
  | b :: l, hm => by
    rw [List.countP_cons, List.countP_cons]
    have hle := countP_le h l
    rcases List.mem_cons.1 hm with rfl | hm
    · rw [hq, hp]; simp; omega
    · have hlt := countP_lt h hq hp l hm
      cases hpb : p b with
      | true => rw [h b hpb]; simp; omega
      | false => cases q b <;> simp <;> omega
/-! the search: sc tells the nodes behind one -/
section
variable (sc : Nat → List Nat)
def exp1 (steps : Nat) (s : List Nat × List Nat) (b : Nat) : List Nat × List Nat := if s.1[b]? = some 0 then (s.1.set b steps, s.2 ++ [b]) else s
def expd (steps : Nat) (bs : List Nat) (s : List Nat × List Nat) : List Nat × List Nat := bs.foldl (exp1 steps) s
def lev (steps : Nat) (l : List Nat) (s : List Nat × List Nat) : List Nat × List Nat := l.foldl (fun s a => expd steps (sc a) s) s
def farL : Nat → List Nat → List Nat → Nat → List Nat
  | 0, _, out, _ => out
  | f + 1, l, out, steps => if l = [] then out else farL f (lev sc steps l (out, [])).2 (lev sc steps l (out, [])).1 (steps + 1)
def far (N n : Nat) : List Nat := farL sc (N + 1) [n] (List.replicate N 0) 1
end
def zeros (l : List Nat) : Nat := l.countP (· == 0)
/-- found -/
def V (out : List Nat) (b : Nat) : Bool := match out[b]? with | some (_ + 1) => true | _ => false
theorem V_set {out : List Nat} {b steps c : Nat} (h : out[b]? = some 0) (hs : 0 < steps) : V (out.set b steps) c = (V out c || c == b) := by
  unfold V
  have hb := (List.getElem?_eq_some_iff.1 h).1
  rw [List.getElem?_set]
  by_cases hc : b = c
  · subst hc
    rw [if_pos rfl, if_pos hb]
    obtain ⟨k, rfl⟩ : ∃ k, steps = k + 1 := ⟨steps - 1, by omega⟩
    simp
  · rw [if_neg hc]
    have : (c == b) = false := by simp; exact fun q => hc q.symm
    rw [this, Bool.or_false]
theorem zeros_set {out : List Nat} {b steps : Nat} (h : out[b]? = some 0) (hs : 0 < steps) : zeros (out.set b steps) + 1 = zeros out := by
  unfold zeros
  induction out generalizing b with
  | nil => simp at h
  | cons a l ih =>
    cases b with
    | zero =>
      simp only [List.getElem?_cons_zero, Option.some.injEq] at h
      subst h
      rw [List.set_cons_zero, List.countP_cons, List.countP_cons]
      have : (steps == 0) = false := by simp; omega
      rw [this]; simp
    | succ b =>
      simp only [List.getElem?_cons_succ] at h
      rw [List.set_cons_succ, List.countP_cons, List.countP_cons]
      have := ih h
      omega
structure Step (s s' : List Nat × List Nat) (bs : Nat → Prop) : Prop where
  len : s'.1.length = s.1.length
  zer : zeros s'.1 + s'.2.length = zeros s.1 + s.2.length
  mono : ∀ c, V s.1 c = true → V s'.1 c = true
  keep : ∀ c ∈ s.2, c ∈ s'.2
  new : ∀ c, V s'.1 c = true → V s.1 c = true ∨ (bs c ∧ c ∈ s'.2)
  from' : ∀ c ∈ s'.2, c ∈ s.2 ∨ (bs c ∧ V s'.1 c = true)
  all : ∀ c, bs c → c < s.1.length → V s'.1 c = true
theorem Step.refl (s : List Nat × List Nat) : Step s s (fun _ => False) := ⟨rfl, rfl, fun _ h => h, fun _ h => h, fun _ h => .inl h, fun _ h => .inl h, fun _ h => h.elim⟩
theorem Step.trans {s s' s'' : List Nat × List Nat} {p q : Nat → Prop} (h : Step s s' p) (k : Step s' s'' q) : Step s s'' (fun c => p c ∨ q c) where
  len := k.len.trans h.len
  zer := k.zer.trans h.zer
  mono := fun c hc => k.mono c (h.mono c hc)
  keep := fun c hc => k.keep c (h.keep c hc)
  new := fun c hc => (k.new c hc).elim (fun a => (h.new c a).imp id fun b => ⟨.inl b.1, k.keep c b.2⟩) (fun a => .inr ⟨.inr a.1, a.2⟩)
  from' := fun c hc => (k.from' c hc).elim (fun a => (h.from' c a).imp id fun b => ⟨.inl b.1, k.mono c b.2⟩) (fun a => .inr ⟨.inr a.1, a.2⟩)
  all := fun c hc hl => hc.elim (fun a => k.mono c (h.all c a hl)) (fun a => k.all c a (by rw [h.len]; exact hl))
theorem Step.congr {s s' : List Nat × List Nat} {p q : Nat → Prop} (h : Step s s' p) (hpq : ∀ c, p c ↔ q c) : Step s s' q :=
  ⟨h.len, h.zer, h.mono, h.keep, fun c hc => (h.new c hc).imp id fun b => ⟨(hpq c).1 b.1, b.2⟩, fun c hc => (h.from' c hc).imp id fun b => ⟨(hpq c).1 b.1, b.2⟩, fun c hc hl => h.all c ((hpq c).2 hc) hl⟩
theorem V_of {out : List Nat} {b : Nat} (hb : b < out.length) (h : out[b]? ≠ some 0) : V out b = true := by
  unfold V
  rw [List.getElem?_eq_getElem hb] at h ⊢
  cases hx : out[b] with
  | zero => rw [hx] at h; exact absurd rfl h
  | succ k => rfl
theorem exp1_step {steps : Nat} (hs : 0 < steps) (s : List Nat × List Nat) (b : Nat) : Step s (exp1 steps s b) (fun c => c = b) := by
  unfold exp1
  split
  · rename_i h
    have hz := zeros_set h hs
    refine ⟨List.length_set, by simp; omega, fun c hc => ?_, fun c hc => List.mem_append_left _ hc, fun c hc => ?_, fun c hc => ?_, fun c hc hl => ?_⟩
    · rw [V_set h hs, hc]; rfl
    · rw [V_set h hs, Bool.or_eq_true] at hc
      refine hc.imp id fun q => ?_
      have q : c = b := by simpa using q
      exact ⟨q, by subst q; simp⟩
    · rcases List.mem_append.1 hc with hc | hc
      · exact .inl hc
      · rw [List.mem_singleton] at hc
        subst hc
        exact .inr ⟨rfl, by rw [V_set h hs]; simp⟩
    · subst hc; rw [V_set h hs]; simp
  · rename_i h
    exact ⟨rfl, rfl, fun _ h => h, fun _ h => h, fun _ h => .inl h, fun _ h => .inl h, fun c hc hl => by subst hc; exact V_of hl h⟩
theorem expd_step {steps : Nat} (hs : 0 < steps) : ∀ (bs : List Nat) (s : List Nat × List Nat), Step s (expd steps bs s) (fun c => c ∈ bs)
  | [], s => (Step.refl s).congr fun c => by simp
  | b :: bs, s => ((exp1_step hs s b).trans (expd_step hs bs _)).congr fun c => by simp
theorem lev_step {sc : Nat → List Nat} {steps : Nat} (hs : 0 < steps) : ∀ (l : List Nat) (s : List Nat × List Nat), Step s (lev sc steps l s) (fun c => ∃ a ∈ l, c ∈ sc a)
  | [], s => (Step.refl s).congr fun c => by simp
  | a :: l, s => ((expd_step hs (sc a) s).trans (lev_step hs l _)).congr fun c => by simp
/-- at the end of the search -/
theorem farL_end {sc : Nat → List Nat} {N n : Nat} (hN : ∀ a, ∀ b ∈ sc a, b < N) {C : Nat → Prop} (hC0 : ∀ b ∈ sc n, C b) (hC : ∀ a, C a → ∀ b ∈ sc a, C b) :
    ∀ (f : Nat) (l out : List Nat) (steps : Nat), 0 < steps → out.length = N → (l = [] ∨ zeros out < f) → (∀ a, (a = n ∨ V out a = true) → a ∈ l ∨ ∀ b ∈ sc a, V out b = true) →
      (∀ a ∈ l, a = n ∨ C a) → (∀ a, V out a = true → C a) →
      (farL sc f l out steps).length = N ∧ (∀ a, (a = n ∨ V (farL sc f l out steps) a = true) → ∀ b ∈ sc a, V (farL sc f l out steps) b = true) ∧ ∀ a, V (farL sc f l out steps) a = true → C a
  | 0, l, out, steps, hs, hl, hz, h1, h2, h3 => by
    have : l = [] := hz.resolve_right (by omega)
    subst this
    exact ⟨hl, fun a ha => (h1 a ha).resolve_left (by simp), h3⟩
  | f + 1, l, out, steps, hs, hl, hz, h1, h2, h3 => by
    unfold farL
    split
    · rename_i h
      subst h
      exact ⟨hl, fun a ha => (h1 a ha).resolve_left (by simp), h3⟩
    · rename_i hne
      have hz := hz.resolve_left hne
      have S := lev_step (sc := sc) hs l (out, [])
      refine farL_end hN hC0 hC f _ _ (steps + 1) (by omega) (S.len.trans hl) ?_ ?_ ?_ ?_
      · have := S.zer
        simp only [List.length_nil, Nat.add_zero] at this
        cases hx : (lev sc steps l (out, [])).2 with
        | nil => exact .inl rfl
        | cons x y => rw [hx] at this; simp only [List.length_cons] at this; exact .inr (by omega)
      · intro a ha
        have key : (a = n ∨ V out a = true) → a ∈ (lev sc steps l (out, [])).2 ∨ ∀ b ∈ sc a, V (lev sc steps l (out, [])).1 b = true := by
          intro ha
          refine .inr fun b hb => ?_
          rcases h1 a ha with q | q
          · exact S.all b ⟨a, q, hb⟩ (by rw [hl]; exact hN a b hb)
          · exact S.mono b (q b hb)
        rcases ha with ha | ha
        · exact key (.inl ha)
        · rcases S.new a ha with q | q
          · exact key (.inr q)
          · exact .inl q.2
      · intro a ha
        rcases S.from' a ha with q | ⟨⟨x, hx, hax⟩, _⟩
        · cases q
        · refine .inr ?_
          rcases h2 x hx with rfl | q
          · exact hC0 a hax
          · exact hC x q a hax
      · intro a ha
        rcases S.new a ha with q | ⟨⟨x, hx, hax⟩, _⟩
        · exact h3 a q
        · rcases h2 x hx with rfl | q
          · exact hC0 a hax
          · exact hC x q a hax
theorem V_rep (N b : Nat) : V (List.replicate N 0) b = false := by
  unfold V
  rw [List.getElem?_replicate]
  split
  · rename_i h
    split at h <;> cases h
  · rfl
theorem zeros_rep (N : Nat) : zeros (List.replicate N 0) = N := by unfold zeros; rw [List.countP_replicate]; simp
theorem far_end {sc : Nat → List Nat} {N n : Nat} (hN : ∀ a, ∀ b ∈ sc a, b < N) {C : Nat → Prop} (hC0 : ∀ b ∈ sc n, C b) (hC : ∀ a, C a → ∀ b ∈ sc a, C b) :
    (far sc N n).length = N ∧ (∀ a, (a = n ∨ V (far sc N n) a = true) → ∀ b ∈ sc a, V (far sc N n) b = true) ∧ ∀ a, V (far sc N n) a = true → C a :=
  farL_end hN hC0 hC _ _ _ _ (by decide) (by simp) (.inr (by rw [zeros_rep]; omega)) (fun a ha => by
    rcases ha with rfl | ha
    · exact .inl (.head _)
    · rw [V_rep] at ha; cases ha) (fun a ha => by rw [List.mem_singleton] at ha; exact .inl ha) (fun a ha => by rw [V_rep] at ha; cases ha)
end Go.Proofs.YthljbjokonglhaaGreatDoor.DfG
