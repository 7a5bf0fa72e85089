/- A heap with a new object on top, written out (of no program). -/
import Derived.Test.YtnabkcdchklnpaaDoorAm15
set_option linter.unusedVariables false
set_option linter.unusedSimpArgs false
namespace Go.Proofs.YtnabkcdchklnpaaDoor.Am
set_option linter.unusedVariables false
set_option linter.unusedSimpArgs false
/-! A heap with a new object on top, written out. -/
namespace Tr
variable {α : Type}
end Tr
namespace K
/-- a new object on top -/
def al (H : Hp) (l : List AV) (el fl : Nat) : Hp := ⟨H.h.put 34 H.next (.cells (Tr.puts .nil 0 l) 0 l.length el fl), H.next + 1⟩
theorem al_nx (H : Hp) (l : List AV) (el fl : Nat) : (al H l el fl).next = H.next + 1 := Eq.trans rfl (id rfl)
theorem al_get (H : Hp) (l : List AV) (el fl i : Nat) : (al H l el fl).h.get i = if i = H.next then some (.cells (Tr.puts .nil 0 l) 0 l.length el fl) else H.h.get i := Tr.get_putP _ _ _ _
theorem al_cs (H : Hp) (l : List AV) (el fl : Nat) : Cs (al H l el fl) H.next l el fl := by
  refine ⟨Nat.lt_succ_self _, Tr.puts .nil 0 l, by rw [al_get, if_pos rfl], fun k v hk => ?_⟩
  have := (List.getElem?_eq_some_iff.1 hk).1
  rw [get_puts_k, if_pos (by omega)]; exact hk
theorem al_out (H : Hp) (l : List AV) (el fl : Nat) : Out [] H (al H l el fl) := ⟨Nat.le_succ _, fun j hj _ => by rw [al_get, if_neg (by omega)]⟩
theorem Out.al {S : List Nat} {H H' : Hp} (h : Out S H H') (l : List AV) (el fl : Nat) : Out S H (al H' l el fl) := h.then (al_out H' l el fl) fun j hj => by cases hj
theorem cellAt_of {H H' : Hp} {i o : Nat} (h : H'.h.get i = H.h.get i) : cellAt H' i o = cellAt H i o := by unfold cellAt; rw [h]
theorem cellsAt_of {H H' : Hp} {i : Nat} (h : H'.h.get i = H.h.get i) : ∀ (n o : Nat), cellsAt H' i o n = cellsAt H i o n
  | 0, o => rfl
  | n + 1, o => by unfold cellsAt; rw [cellAt_of h, cellsAt_of h n]
theorem Out.cellAt {S : List Nat} {H H' : Hp} (h : Out S H H') {i o : Nat} (hi : i < H.next) (hs : i ∉ S) : cellAt H' i o = Am.cellAt H i o := cellAt_of (h.2 i hi hs)
theorem Out.cellsAt {S : List Nat} {H H' : Hp} (h : Out S H H') {i o n : Nat} (hi : i < H.next) (hs : i ∉ S) : cellsAt H' i o n = Am.cellsAt H i o n := cellsAt_of (h.2 i hi hs) _ _
/-- cells set, one behind the other -/
def setR (l : List AV) (o : Nat) : List AV → List AV
  | [] => l
  | v :: vs => setR (l.set o v) (o + 1) vs
theorem setR_len : ∀ (vs l : List AV) (o : Nat), (setR l o vs).length = l.length
  | [], l, o => rfl
  | v :: vs, l, o => by rw [setR, setR_len vs, List.length_set]
theorem setR_get : ∀ (vs l : List AV) (o k : Nat), o + vs.length ≤ l.length → (setR l o vs)[k]? = if o ≤ k ∧ k < o + vs.length then vs[k - o]? else l[k]?
  | [], l, o, k, h => by rw [if_neg (by simp only [List.length_nil]; omega)]; rfl
  | v :: vs, l, o, k, h => by
    simp only [List.length_cons] at h ⊢
    rw [setR, setR_get vs _ _ _ (by rw [List.length_set]; omega)]
    by_cases h1 : o + 1 ≤ k ∧ k < o + 1 + vs.length
    · rw [if_pos h1, if_pos (by omega), show k - o = (k - (o + 1)) + 1 by omega, List.getElem?_cons_succ]
    · rw [if_neg h1]
      by_cases h2 : k = o
      · subst h2
        rw [if_pos (by omega), Nat.sub_self, List.getElem?_set_self (by omega)]; rfl
      · rw [if_neg (by omega), List.getElem?_set_ne (fun q => h2 q.symm)]
theorem cellsV_one {v : AV} (h : oneC v = true) : cellsV v = some [v] := by cases v <;> first | rfl | cases h
theorem cellsV_agg (l : List AV) : cellsV (.agg l) = some l := Eq.trans rfl (id rfl)
theorem Rw.one {H : Hp} {es : Nat} {x : AV} {l : List AV} (h : Rw H es x l) : oneC x = true := by cases h <;> rfl
theorem Ow.oneX {H : Hp} {el es : Nat} {x : AV} {l : List AV} (h : Ow H el es x l) : oneC x = true := h.rw.one
/-- one more element behind a row of ours -/
theorem push_ok {H : Hp} {el es el2 : Nat} {z : List AV} {s : AV} {l vs : List AV} (h : Ow H el es s l) (hv : vs.all oneC = true) (hn : vs.length = es) (hes : 0 < es) (hlen : l.length + vs.length ≤ 16777216) :
    ∃ s' H', (∀ i, i = H.next → app' el es z false s (.slice i 0 1 1 true es) (al H vs el2 0) = some (s', H')) ∧ Ow H' el es s' (l ++ vs) ∧ Out (rid s) H H' ∧ (∀ j ∈ rid s', j ∈ rid s ∨ H.next ≤ j) ∧ oneC s' = true := by
  have c := al_cs H vs el2 0
  have hr : Rw (al H vs el2 0) es (.slice H.next 0 1 1 true es) vs := .mk c.ro (by rw [hn, Nat.one_mul]) (Nat.le_refl _) rfl
  have ho : Ow (al H vs el2 0) el es s l := h.out (al_out H vs el2 0) fun j hj => by simp
  obtain ⟨s', H', h1, h2, h3, h4⟩ := append_ok (z := z) ho hr (List.all_eq_true.1 hv) hes hlen
  refine ⟨s', H', fun i hi => by subst hi; exact h1, h2, ((al_out H vs el2 0).mono (S' := rid s) (fun j hj => by cases hj)).then h3 (fun j hj => .inl hj), fun j hj => (h4 j hj).imp id fun q => by rw [al_nx] at q; omega, h2.oneX⟩
theorem ixs_n {s : List Nat} {i b : Nat} (k : IntKind) (h : s[i]? = some b) : ixs (.str s) (.int k i) = some (.int .u8 b) := by
  unfold ixs
  simp only
  rw [if_pos (by omega), Int.toNat_natCast, h]; rfl
/-- an element of a row, of whatever size -/
theorem Rw.ia {H : Hp} {es n : Nat} {x : AV} {l : List AV} (h : Rw H es x l) (hl : l.length = n * es) (hes : 0 < es) {i : Nat} (hi : i < n) : ∃ b o, (∀ k, ia es x (.int k i) = some (.ptr b o)) ∧ b ∈ rid x ∧ b < H.next ∧
    (∀ k v, l[i * es + k]? = some v → k < es → cellAt H b (o + k) = some v) ∧ cellsAt H b o es = some ((l.drop (i * es)).take es) := by
  cases h with
  | nil =>
    simp only [List.length_nil] at hl
    rcases Nat.mul_eq_zero.1 hl.symm with q | q <;> omega
  | emp =>
    simp only [List.length_nil] at hl
    rcases Nat.mul_eq_zero.1 hl.symm with q | q <;> omega
  | @mk j off m cap ex l hr hn hc he =>
    have hm : m = n := Nat.eq_of_mul_eq_mul_right hes (hn.symm.trans hl)
    subst hm
    have hle : (i + 1) * es ≤ m * es := Nat.mul_le_mul_right _ hi
    rw [Nat.add_mul, Nat.one_mul] at hle
    refine ⟨j, off + i * es, fun k => ia_s hi, by rw [rid_s he]; exact .head _, hr.1, fun k v hk _ => ?_, ?_⟩
    · rw [Nat.add_assoc]; exact hr.cellAt hk
    · have h1 := ((hr.drop (i * es) (by omega)).take es).cellsAt
      rw [List.length_take, List.length_drop, Nat.min_eq_left (by omega)] at h1
      exact h1
/-! rows of parts, each of so many cells -/
def RL (H : Hp) (es : Nat) (x : AV) (L : List (List AV)) : Prop := Rw H es x L.flatten ∧ ∀ c ∈ L, c.length = es
def OL (H : Hp) (el es : Nat) (x : AV) (L : List (List AV)) : Prop := Ow H el es x L.flatten ∧ ∀ c ∈ L, c.length = es
theorem flatten_len {es : Nat} : ∀ {L : List (List AV)}, (∀ c ∈ L, c.length = es) → L.flatten.length = L.length * es
  | [], _ => by simp
  | c :: L, h => by
    rw [List.flatten_cons, List.length_append, h c (.head _), flatten_len fun d hd => h d (.tail _ hd), List.length_cons, Nat.add_mul]; omega
theorem flatten_at {es : Nat} : ∀ {L : List (List AV)} {i : Nat} {c : List AV}, (∀ c ∈ L, c.length = es) → L[i]? = some c → (L.flatten.drop (i * es)).take es = c
  | [], i, c, _, h => by simp at h
  | a :: L, 0, c, hl, h => by
    simp only [List.getElem?_cons_zero, Option.some.injEq] at h
    subst h
    have := hl a (.head _)
    rw [Nat.zero_mul, List.drop_zero, List.flatten_cons, List.take_append_of_le_length (by omega), List.take_of_length_le (by omega)]
  | a :: L, i + 1, c, hl, h => by
    simp only [List.getElem?_cons_succ] at h
    have ha := hl a (.head _)
    rw [List.flatten_cons, Nat.add_mul, Nat.one_mul, List.drop_append, List.drop_eq_nil_of_le (by omega), List.nil_append, ha, Nat.add_sub_cancel]
    exact flatten_at (fun d hd => hl d (.tail _ hd)) h
theorem OL.rl {H : Hp} {el es : Nat} {x : AV} {L : List (List AV)} (h : OL H el es x L) : RL H es x L := ⟨h.1.rw, h.2⟩
theorem RL.out {H H' : Hp} {es : Nat} {x : AV} {L : List (List AV)} {S : List Nat} (h : RL H es x L) (k : Out S H H') (hi : ∀ j ∈ rid x, j ∉ S) : RL H' es x L := ⟨h.1.out k hi, h.2⟩
theorem RL.out0 {H H' : Hp} {es : Nat} {x : AV} {L : List (List AV)} (h : RL H es x L) (k : Out [] H H') : RL H' es x L := h.out k fun _ _ q => by cases q
theorem Rw.out0 {H H' : Hp} {es : Nat} {x : AV} {l : List AV} (h : Rw H es x l) (k : Out [] H H') : Rw H' es x l := h.out k fun _ _ q => by cases q
theorem OL.out {H H' : Hp} {el es : Nat} {x : AV} {L : List (List AV)} {S : List Nat} (h : OL H el es x L) (k : Out S H H') (hi : ∀ j ∈ rid x, j ∉ S) : OL H' el es x L := ⟨h.1.out k hi, h.2⟩
theorem RL.one {H : Hp} {es : Nat} {x : AV} {L : List (List AV)} (h : RL H es x L) : oneC x = true := h.1.one
theorem RL.len {H : Hp} {es : Nat} {x : AV} {L : List (List AV)} (h : RL H es x L) (hes : 0 < es) : lenx x = some (.int .i64 (L.length : Nat)) := by
  obtain ⟨n, h1, h2⟩ := h.1.len
  rw [flatten_len h.2] at h2
  rw [h1, Nat.eq_of_mul_eq_mul_right hes h2]
theorem RL.at {H : Hp} {es : Nat} {x : AV} {L : List (List AV)} (h : RL H es x L) (hes : 0 < es) {i : Nat} {c : List AV} (hi : L[i]? = some c) : ∃ b o, (∀ k, ia es x (.int k i) = some (.ptr b o)) ∧ b ∈ rid x ∧ b < H.next ∧ cellsAt H b o es = some c ∧ ∀ k v, c[k]? = some v → cellAt H b (o + k) = some v := by
  have hil := (List.getElem?_eq_some_iff.1 hi).1
  obtain ⟨b, o, h1, h2, h3, h4, h5⟩ := h.1.ia (flatten_len h.2) hes hil
  have hf := flatten_at h.2 hi
  rw [hf] at h5
  refine ⟨b, o, h1, h2, h3, h5, fun k v hv => ?_⟩
  have hk : k < es := by have := (List.getElem?_eq_some_iff.1 hv).1; rw [h.2 c (List.mem_of_getElem? hi)] at this; exact this
  refine h4 k v ?_ hk
  rw [← hf, List.getElem?_take, if_pos hk, List.getElem?_drop] at hv
  exact hv
theorem OL.nil (H : Hp) (el es : Nat) : OL H el es .slice0 [] := ⟨.nil, fun c hc => by cases hc⟩
theorem RL.nil (H : Hp) (es : Nat) : RL H es .slice0 [] := ⟨.nil, fun c hc => by cases hc⟩
/-- one more part -/
theorem OL.push {H : Hp} {el es el2 : Nat} {z : List AV} {s : AV} {L : List (List AV)} {vs : List AV} (h : OL H el es s L) (hv : vs.all oneC = true) (hn : vs.length = es) (hes : 0 < es) (hlen : (L.length + 1) * es ≤ 16777216) :
    ∃ s' H', (∀ i, i = H.next → app' el es z false s (.slice i 0 1 1 true es) (al H vs el2 0) = some (s', H')) ∧ OL H' el es s' (L ++ [vs]) ∧ Out (rid s) H H' ∧ (∀ j ∈ rid s', j ∈ rid s ∨ H.next ≤ j) ∧ oneC s' = true := by
  obtain ⟨s', H', h1, h2, h3⟩ := push_ok (el2 := el2) (z := z) h.1 hv hn hes (by rw [flatten_len h.2, hn]; rw [Nat.add_mul, Nat.one_mul] at hlen; exact hlen)
  refine ⟨s', H', h1, ⟨by rw [List.flatten_append]; simpa using h2, fun c hc => ?_⟩, h3⟩
  rcases List.mem_append.1 hc with hc | hc
  · exact h.2 c hc
  · rw [List.mem_singleton] at hc; subst hc; exact hn
theorem OL.one {H : Hp} {el es : Nat} {x : AV} {L : List (List AV)} (h : OL H el es x L) : ∀ c ∈ L, c.all oneC = true := fun c hc => by
  rw [List.all_eq_true]
  intro v hv
  exact h.1.one v (List.mem_flatten.2 ⟨c, hc, hv⟩)
theorem Out.nx {S : List Nat} {H H' : Hp} (h : Out S H H') : H.next ≤ H'.next := h.1
/-- the laws, in one -/
theorem k_s : type_of% (And.intro @LF_p (And.intro @NF_p (And.intro @NA_p (And.intro @JN_0 (And.intro @JN_1 (And.intro @JN_2 (And.intro @JN_3 (And.intro @JN_4 (And.intro @JN_5 (And.intro @JN_6 (And.intro @JN_7 (And.intro @JN_8 (And.intro @JN_9 (And.intro @JN_10 (And.intro @JN_11 (And.intro @JN_12 (And.intro @JN_13 (And.intro @JN_14 (And.intro @JN_15 (And.intro @JN_16 (And.intro @JN_17 (And.intro @JN_18 (And.intro @JN_19 (And.intro @JN_20 (And.intro @JN_21 (And.intro @JN_22 (And.intro @JN_23 (And.intro @JN_24 (And.intro @B1_s (And.intro @B2_s (And.intro @BN_s (And.intro @CD_t (And.intro @CD_f (And.intro @GO_tt (And.intro @GO_ft (And.intro @GO_tf (And.intro @GO_ff (And.intro @GO_ut (And.intro @GO_uf (And.intro @GD2_tt (And.intro @GD2_ft (And.intro @GD2_tf (And.intro @GD2_ff (And.intro @pk_t (And.intro @pk_f (And.intro @nilA_p (And.intro @nilA_i (And.intro @fa_p (And.intro @fd_a (And.intro @ex_t (And.intro @iadd_i (And.intro @isub_i (And.intro @imul_i (And.intro @ieq_i (And.intro @ine_i (And.intro @ilt_i (And.intro @ile_i (And.intro @igt_i (And.intro @ige_i (And.intro @seq_s (And.intro @sne_s (And.intro @slt_s (And.intro @lens_s (And.intro @lenx_0 (And.intro @lenx_s (And.intro @not_b (And.intro @bb_e (And.intro @bb_n (And.intro @cv_i (And.intro @pe_00 (And.intro @pe_0p (And.intro @pe_p0 (And.intro @eqB_e @eqB_n))))))))))))))))))))))))))))))))))))))))))))))))))))))))))))))))))))))))) := And.intro @LF_p (And.intro @NF_p (And.intro @NA_p (And.intro @JN_0 (And.intro @JN_1 (And.intro @JN_2 (And.intro @JN_3 (And.intro @JN_4 (And.intro @JN_5 (And.intro @JN_6 (And.intro @JN_7 (And.intro @JN_8 (And.intro @JN_9 (And.intro @JN_10 (And.intro @JN_11 (And.intro @JN_12 (And.intro @JN_13 (And.intro @JN_14 (And.intro @JN_15 (And.intro @JN_16 (And.intro @JN_17 (And.intro @JN_18 (And.intro @JN_19 (And.intro @JN_20 (And.intro @JN_21 (And.intro @JN_22 (And.intro @JN_23 (And.intro @JN_24 (And.intro @B1_s (And.intro @B2_s (And.intro @BN_s (And.intro @CD_t (And.intro @CD_f (And.intro @GO_tt (And.intro @GO_ft (And.intro @GO_tf (And.intro @GO_ff (And.intro @GO_ut (And.intro @GO_uf (And.intro @GD2_tt (And.intro @GD2_ft (And.intro @GD2_tf (And.intro @GD2_ff (And.intro @pk_t (And.intro @pk_f (And.intro @nilA_p (And.intro @nilA_i (And.intro @fa_p (And.intro @fd_a (And.intro @ex_t (And.intro @iadd_i (And.intro @isub_i (And.intro @imul_i (And.intro @ieq_i (And.intro @ine_i (And.intro @ilt_i (And.intro @ile_i (And.intro @igt_i (And.intro @ige_i (And.intro @seq_s (And.intro @sne_s (And.intro @slt_s (And.intro @lens_s (And.intro @lenx_0 (And.intro @lenx_s (And.intro @not_b (And.intro @bb_e (And.intro @bb_n (And.intro @cv_i (And.intro @pe_00 (And.intro @pe_0p (And.intro @pe_p0 (And.intro @eqB_e @eqB_n))))))))))))))))))))))))))))))))))))))))))))))))))))))))))))))))))))))))
theorem k_x : (∀ (a : AV) (l : List AV), (a :: l)[0]? = some a) ∧ (∀ (a : AV) (l : List AV) (i : Nat), (a :: l)[i + 1]? = l[i]?) ∧ (∀ n : Nat, 0 + n = n) ∧ ((!true) = false) ∧ ((!false) = true) ∧ (∀ h : Decidable True, @decide True h = true) ∧ (∀ h : Decidable False, @decide False h = false) ∧ (∀ a : Int, (a == a) = true) ∧ (∀ a : List Nat, (a == a) = true) ∧ (∀ a : Int, (a != a) = false) ∧ (∀ a : List Nat, (a != a) = false) ∧ (∀ a b : Int, (a ≥ b) = (b ≤ a)) ∧ (∀ a b : Int, (a > b) = (b < a)) :=
  ⟨fun _ _ => rfl, fun _ _ _ => rfl, Nat.zero_add, rfl, rfl, fun _ => decide_eq_true trivial, fun _ => decide_eq_false id, fun _ => beq_self_eq_true _, fun _ => beq_self_eq_true _, fun _ => bne_self_eq_false _, fun _ => bne_self_eq_false _, fun _ _ => rfl, fun _ _ => rfl⟩
end K
end Go.Proofs.YtnabkcdchklnpaaDoor.Am
