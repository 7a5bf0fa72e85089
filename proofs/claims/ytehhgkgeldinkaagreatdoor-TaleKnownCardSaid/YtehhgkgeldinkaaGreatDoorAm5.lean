/- Regions that draw an order, and whole functions: a run of the evaluator is a run of the model (of no program). -/
import Derived.Test.YtehhgkgeldinkaaGreatDoorAm4
set_option linter.unusedVariables false
set_option linter.unusedSimpArgs false
namespace Go.Proofs.YtehhgkgeldinkaaGreatDoor.Am
set_option linter.unusedVariables false
set_option linter.unusedSimpArgs false

theorem putD_get {n : Nat} {dst : Option Tmp} {v : AV} {t t' : Tm} (h : putD n dst v t = some t') (d : Tmp) : t'.get d = if dst = some d then some v else t.get d := by
  unfold putD at h
  split at h
  · cases h; simp
  · rename_i x
    cases hb : (Nat.blt x n && Nat.blt x 4294967296) with
    | false => rw [hb] at h; cases h
    | true =>
      rw [hb] at h
      cases h
      simp only [Bool.and_eq_true, Nat.blt_eq] at hb
      rw [Tr.get_put _ _ _ _ _ (by omega)]
      by_cases hx : d = x
      · subst hx; simp
      · rw [if_neg hx, if_neg (fun q => hx (Option.some.inj q).symm)]
theorem putD_lt {n : Nat} {dst : Option Tmp} {v : AV} {t t' : Tm} (h : putD n dst v t = some t') {d : Tmp} (hd : dst = some d) : d < n := by
  subst hd
  unfold putD at h
  simp only at h
  cases hb : (Nat.blt d n && Nat.blt d 4294967296) with
  | false => rw [hb] at h; cases h
  | true => simp only [Bool.and_eq_true, Nat.blt_eq] at hb; exact hb.1

theorem RH.weaken {G : Nat} {F F' : Nat → Prop} {W : World} {e : Em} {H : Hp} {w : World} (h : RH G F W e H w) (hF : ∀ k, F' k → F k) : RH G F' W e H w :=
  h.reframe (fun k hk => h.frame k (hF k hk)) (fun i o ho hw hk => (h.obj i o ho).2.choose_spec.2.2 hw (hF _ hk)) h.os h.tape h.output h.size
theorem RH.rebase {G : Nat} {F : Nat → Prop} {W : World} {e : Em} {H : Hp} {w : World} (h : RH G F W e H w) : RH G F w e H w :=
  h.reframe (fun k hk => ⟨(h.frame k hk).1, rfl⟩) (fun i o ho hw hk => (h.obj i o ho).2.choose_spec.2.2 hw hk) rfl rfl rfl (Nat.le_refl _)

/-- a block that is there already is taken for a new object -/
theorem RH.adopt {G : Nat} {F F' : Nat → Prop} {W : World} {e : Em} {H : Hp} {w : World} (h : RH G F W e H w) {o : AO} {i : Nat} {H' : Hp} (ha : Am.alloc H o = some (i, H')) {b n : Nat} {ob : Obj}
    (hb : w.heap[b]? = some ob) (hfree : ∀ j oj, H.h.get j = some oj → e.b j ≠ b) (hor : OR (e.ext b 0 n) i o ob) (hF : ∀ k, F' k → F k ∧ k ≠ b) : i = e.N ∧ RH G F' W (e.ext b 0 n) H' w := by
  obtain ⟨rfl, hlt, rfl⟩ := alloc_some ha
  have hN := h.N
  have hget : ∀ j, (H.h.put 34 H.next o).get j = if j = H.next then some o else H.h.get j := fun j => Tr.get_putP _ _ _ _
  have hle := Em.le_ext e b 0 n
  have old : ∀ j oj, H.h.get j = some oj → (e.ext b 0 n).b j = e.b j := fun j oj hj => (hle.2 j (h.obj j oj hj).1).1
  refine ⟨hN.symm, ?_, ?_, ?_, ?_, ?_, h.os, h.tape, h.output, h.size, by obtain ⟨g1, g2, g3⟩ := h.gsz; rw [(hle.2 G g2).2.2]; simp [Em.ext]; omega⟩
  · simp [Em.ext, hN]
  · intro j oj hj
    simp only at hj
    rw [hget] at hj
    by_cases ej : j = H.next
    · subst ej
      rw [if_pos rfl] at hj
      cases hj
      refine ⟨by simp [Em.ext, hN], ob, ?_, hor, ?_⟩
      · rw [← hN, Em.ext_b]; exact hb
      · intro _ hk
        rw [← hN, Em.ext_b] at hk
        exact (hF _ hk).2 rfl
    · rw [if_neg ej] at hj
      obtain ⟨a, ob2, b2, c2, d2⟩ := h.obj j oj hj
      refine ⟨by simp [Em.ext]; omega, ob2, ?_, c2.mono hle a, ?_⟩
      · rw [old j oj hj]; exact b2
      · intro hw hk; rw [old j oj hj, (hle.2 G h.gsz.2.1).2.2] at hw; rw [old j oj hj] at hk; exact d2 hw (hF _ hk).1
  · intro j k oj ok hj hk hq he
    simp only at hj hk
    rw [hget] at hj hk
    by_cases ej : j = H.next <;> by_cases ek : k = H.next
    · omega
    · rw [if_neg ek] at hk
      rw [old k ok hk, ej, ← hN, Em.ext_b] at he
      exact absurd he.symm (hfree k ok hk)
    · rw [if_neg ej] at hj
      rw [old j oj hj, ek, ← hN, Em.ext_b] at he
      exact absurd he (hfree j oj hj)
    · rw [if_neg ej] at hj
      rw [if_neg ek] at hk
      rw [old j oj hj, (hle.2 G h.gsz.2.1).2.2] at hq
      rw [old j oj hj, old k ok hk] at he
      exact h.inj j k oj ok hj hk hq he
  · intro g hg
    obtain ⟨a, b', c⟩ := h.glob g hg
    obtain ⟨x, y, _⟩ := hle.2 g a
    exact ⟨by simp [Em.ext]; omega, x.trans b', y.trans c⟩
  · intro k hk
    exact h.frame k (hF k hk).1

theorem row_or {e : Em} {l : List AV} {cs : Array Value} {el b : Nat} (hl : VRL e l cs.toList) (hlen : l.length ≤ 16777216) : OR (e.ext b 0 cs.size) e.N (.cells (Tr.puts .nil 0 l) 0 l.length el 0) (.cells cs el (0, 0)) := by
  refine .cells _ _ _ _ _ _ _ (by rw [Em.ext_n]) ?_ (fun _ => rfl) (by simp) (fun _ => Em.ext_d ..)
  intro k v _ hk hg
  rw [Tr.get_puts .nil _ _ _ _ (by omega)] at hg
  rw [if_pos ⟨by omega, by omega⟩, Nat.sub_zero] at hg
  obtain ⟨v', hv', hr⟩ := hl.get hg
  exact ⟨k, by rw [Em.ext_d]; omega, v', by rw [← Array.getElem?_toList]; exact hv', hr.mono (Em.le_ext ..)⟩

/-- all that is known of a drawn region's run -/
structure Run (P : Program) (cf : CF) (n : Nat) (ops : Array Oper) (B : List Nat) (t0 : Tm) (H0 : Hp) (TP TE : Nat → Tm) (HB HH : Nat → Hp) (V : Nat → AV) (X : Nat → Bool) : Prop where
  form : Form ops B
  t1 : TP 0 = t0
  t2 : TE 0 = t0
  h1 : HB 0 = H0
  h2 : HH 0 = H0
  step : ∀ j o, ops[j]? = some o → StepOK P cf n ops o (X j) (V j) (TP j) (TE j) (TP (j + 1)) (TE (j + 1)) (HB j) (HH j) (HB (j + 1)) (HH (j + 1))
  d1 : ∀ i oi, ops[i]? = some oi → X i = true → kd P oi = .eff → ∀ j oj, ops[j]? = some oj → X j = true → (kd P oj = .eff ∨ kd P oj = .late) → j < i → (B.getD i 0).testBit j = true
  d2 : ∀ i oi, ops[i]? = some oi → X i = true → kd P oi = .eff → ∀ j oj, ops[j]? = some oj → X j = true → kd P oj = .read → j < i → (B.getD i 0).testBit j = true ∨
    ∃ h', opA P (ev P.globals.size (TP j)) oj (HB (i + 1)) = some (V j, h')
  d3 : ∀ i oi, ops[i]? = some oi → X i = true → kd P oi = .eff → ∀ j oj, ops[j]? = some oj → X j = true → kd P oj = .read → i < j → (B.getD j 0).testBit i = true ∨
    ∃ h', opA P (ev P.globals.size (TP j)) oj (HB i) = some (V j, h')

/-- what is put into the temporaries that the quiet operations see -/
def pv (P : Program) (V : Nat → AV) (X : Nat → Bool) (j : Nat) (o : Oper) : AV := if X j = true ∧ kd P o = .late then .junk else V j

section
variable {P : Program} {cf : CF} {n : Nat} {ops : Array Oper} {B : List Nat} {t0 : Tm} {H0 : Hp} {TP TE : Nat → Tm} {HB HH : Nat → Hp} {V : Nat → AV} {X : Nat → Bool}

theorem Run.puts (R : Run P cf n ops B t0 H0 TP TE HB HH V X) {j : Nat} {o : Oper} (ho : ops[j]? = some o) :
    putD n o.dst (pv P V X j o) (TP j) = some (TP (j + 1)) ∧ putD n o.dst (V j) (TE j) = some (TE (j + 1)) := by
  obtain ⟨_, h⟩ := R.step j o ho
  cases hx : X j with
  | false =>
    rw [hx] at h
    obtain ⟨h1, h2, h3, _⟩ := h
    simp only [pv, hx, Bool.false_eq_true, false_and, if_false]
    rw [h1]; exact ⟨h2, h3⟩
  | true =>
    rw [hx] at h
    cases hk : kd P o <;> rw [hk] at h <;> simp only [pv, hx, hk, true_and, if_true, reduceCtorEq, if_false, and_false]
    · exact ⟨h.2.1, h.2.2.1⟩
    · exact ⟨h.2.1, h.2.2.1⟩
    · exact ⟨h.2.1, h.2.2.1⟩
    · exact ⟨h.2.1, h.2.2.1⟩

theorem Run.vals (R : Run P cf n ops B t0 H0 TP TE HB HH V X) : ∀ i, i ≤ ops.size → ∀ d,
    (∀ j o, j < i → ops[j]? = some o → o.dst = some d → (TP i).get d = some (pv P V X j o) ∧ (TE i).get d = some (V j)) ∧
    ((∀ j o, j < i → ops[j]? = some o → o.dst ≠ some d) → (TP i).get d = t0.get d ∧ (TE i).get d = t0.get d) := by
  intro i
  induction i with
  | zero => intro _ d; exact ⟨fun j o hj => by omega, fun _ => ⟨by rw [R.t1], by rw [R.t2]⟩⟩
  | succ i ih =>
    intro hi d
    obtain ⟨i1, i2⟩ := ih (by omega) d
    have ho : ops[i]? = some ops[i] := Array.getElem?_eq_getElem (by omega)
    obtain ⟨p1, p2⟩ := R.puts ho
    have g1 := putD_get p1 d
    have g2 := putD_get p2 d
    constructor
    · intro j o hj hoj hd
      by_cases hji : j = i
      · subst hji
        rw [ho] at hoj; cases hoj
        rw [g1, g2, if_pos hd, if_pos hd]; exact ⟨rfl, rfl⟩
      · have hne : ops[i].dst ≠ some d := fun q => hji (R.form.one j i o _ d hoj ho hd q)
        rw [g1, g2, if_neg hne, if_neg hne]
        exact i1 j o (by omega) hoj hd
    · intro hall
      have hne := hall i _ (by omega) ho
      rw [g1, g2, if_neg hne, if_neg hne]
      exact i2 fun j o hj hoj => hall j o (by omega) hoj

/-- between effects the base heap stays -/
theorem Run.hb_const (R : Run P cf n ops B t0 H0 TP TE HB HH V X) (p : Nat) : ∀ k, p + k ≤ ops.size → (∀ j o, p ≤ j → j < p + k → ops[j]? = some o → X j = true → kd P o ≠ .eff) → HB (p + k) = HB p := by
  intro k
  induction k with
  | zero => intro _ _; rfl
  | succ k ih =>
    intro hk hne
    have ho : ops[p + k]? = some ops[p + k] := Array.getElem?_eq_getElem (by omega)
    obtain ⟨_, h⟩ := R.step (p + k) _ ho
    have : HB (p + k + 1) = HB (p + k) := by
      cases hx : X (p + k) with
      | false => rw [hx] at h; exact h.2.2.2.1
      | true =>
        rw [hx] at h
        have hn := hne (p + k) _ (by omega) (by omega) ho hx
        cases hkd : kd P ops[p + k] <;> rw [hkd] at h
        · exact h.2.2.2.1
        · exact h.2.2.2.1
        · exact h.2.2.2
        · exact absurd hkd hn
    rw [← Nat.add_assoc, this]
    exact ih (by omega) fun j o h1 h2 => hne j o h1 (by omega)
end
end Go.Proofs.YtehhgkgeldinkaaGreatDoor.Am
namespace Go.Proofs.YtehhgkgeldinkaaGreatDoor.Am
set_option linter.unusedVariables false
set_option linter.unusedSimpArgs false
variable {P : Program}

theorem sameS_eq : ∀ {a b : AV}, sameS a b = true → a = b := by
  intro a b h
  unfold sameS at h
  split at h <;> first
    | rfl
    | (cases h; done)
    | (simp only [beq_iff_eq] at h; subst h; rfl)
    | (simp only [Bool.and_eq_true, beq_iff_eq] at h; obtain ⟨h1, h2⟩ := h; subst h1; subst h2; rfl)
    | (simp only [Bool.and_eq_true] at h; obtain ⟨h1, h2⟩ := h; rw [Nat.eq_of_beq_eq_true h1, Nat.eq_of_beq_eq_true h2])
    | (simp only [Bool.and_eq_true, beq_iff_eq] at h; obtain ⟨⟨⟨⟨⟨h1, h2⟩, h3⟩, h4⟩, h5⟩, h6⟩ := h; rw [Nat.eq_of_beq_eq_true h1, Nat.eq_of_beq_eq_true h2, Nat.eq_of_beq_eq_true h3, Nat.eq_of_beq_eq_true h4, h5, Nat.eq_of_beq_eq_true h6])
    | (rw [Nat.eq_of_beq_eq_true h])
theorem sameL_eq : ∀ {a b : List AV}, sameL a b = true → a = b
  | [], [], _ => rfl
  | [], _ :: _, h => by simp [sameL] at h
  | _ :: _, [], h => by simp [sameL] at h
  | a :: x, b :: y, h => by
    simp only [sameL, Bool.and_eq_true] at h
    rw [sameS_eq h.1, sameL_eq h.2]
theorem same_eq {a b : AV} (h : same a b = true) : a = b := by
  unfold same at h
  split at h
  · rw [sameL_eq h]
  · rw [sameL_eq h]
  · simp only [Bool.and_eq_true] at h
    rw [Nat.eq_of_beq_eq_true h.1, sameS_eq h.2]
  · exact sameS_eq h

theorem map_pair {x : Option AV} {H : Hp} {v : AV} {H' : Hp} (h : x.map (fun v => (v, H)) = some (v, H')) : x = some v ∧ H' = H := by
  simp only [Option.map_eq_some_iff, Prod.mk.injEq] at h
  obtain ⟨a, ha, rfl, rfl⟩ := h
  exact ⟨ha, rfl⟩
theorem pair_map {x : Option AV} {H : Hp} {v : AV} (h : x = some v) : x.map (fun v => (v, H)) = some (v, H) := by rw [h]; rfl

theorem kd_late {o : Oper} (h : kd P o = .late) : (∃ t, o.op = .alloc t) ∨ (∃ t a b, o.op = .makeSlice t (.const a) (.const b)) ∨ ∃ a b v el, o.op = .convert a b (.const v) ∧ P.underlying a = some .string ∧ P.underlying b = some (.slice el) := by
  unfold kd at h
  cases hop : o.op <;> rw [hop] at h <;> simp only [reduceCtorEq] at h
  case alloc t => exact .inl ⟨t, rfl⟩
  case binOp => split at h <;> first | (cases h; done) | (split at h <;> cases h)
  case convert a b x =>
    split at h <;> first | (cases h; done) | skip
    rename_i el ha hb
    split at h
    · rename_i v; exact .inr (.inr ⟨a, b, v, el, rfl, ha, hb⟩)
    · cases h
  case makeSlice t l c =>
    split at h
    · rename_i a b; exact .inr (.inl ⟨t, a, b, rfl⟩)
    · cases h
  case call c => split at h <;> cases h

theorem conv_int {a b : TypeId} {x v : AV} {H H' : Hp} {i j : IntKind} (ha : P.underlying a = some (.int i)) (hb : P.underlying b = some (.int j)) (h : convA P a b x H = some (v, H')) :
    H' = H ∧ ∀ H2, convA P a b x H2 = some (v, H2) := by
  unfold convA at h ⊢
  rw [ha, hb] at h ⊢
  cases x <;> simp only at h ⊢ <;> first | (cases h; exact ⟨rfl, fun _ => rfl⟩) | (cases h; done) | (simp at h; done) | skip
theorem conv_str {a b : TypeId} {x v : AV} {H H' : Hp} (ha : P.underlying a = some .string) (hb : P.underlying b = some .string) (h : convA P a b x H = some (v, H')) :
    H' = H ∧ ∀ H2, convA P a b x H2 = some (v, H2) := by
  unfold convA at h ⊢
  rw [ha, hb] at h ⊢
  cases x <;> simp only at h ⊢ <;> first
    | (cases h; exact ⟨rfl, fun _ => rfl⟩) | (cases h; done) | (simp at h; done)
    | (split at h
       · rename_i q; cases h; exact ⟨rfl, fun _ => by rw [if_pos q]⟩
       · cases h)
    | skip
theorem conv_b2s {a b e : TypeId} {x v : AV} {H H' : Hp} (ha : P.underlying a = some (.slice e)) (hb : P.underlying b = some .string) (h : convA P a b x H = some (v, H')) : H' = H := by
  unfold convA at h
  rw [ha, hb] at h
  cases x <;> simp only at h <;> first
    | (cases h; rfl) | (cases h; done) | (simp at h; done)
    | (split at h <;> first | (cases h; rfl) | (cases h; done) | skip)
    | skip
  rename_i q
  cases hz : Nat.beq _ 0 with
  | true => rw [hz] at h; cases h; rfl
  | false =>
    rw [hz] at h
    simp only [cond_false, Option.bind_eq_some_iff, Option.map_eq_some_iff, Prod.mk.injEq] at h
    obtain ⟨_, _, _, _, _, rfl⟩ := h
    rfl

/-- a quiet operation leaves the heap -/
theorem opA_same {ρ : Operand → AV} {o : Oper} {H H' : Hp} {v : AV} (hk : kd P o = .pure ∨ kd P o = .read) (h : opA P ρ o H = some (v, H')) : H' = H := by
  unfold opA at h
  unfold kd at hk
  cases hop : o.op <;> rw [hop] at h hk <;> simp only [reduceCtorEq, or_self] at h hk
  case move x => cases h; rfl
  case assign x => cases h; rfl
  case pick c a b =>
    split at h
    · cases h; rfl
    · cases h
  case build t ps => exact (map_pair h).2
  case load t a => exact (map_pair h).2
  case nilCheck x => exact (map_pair h).2
  case binOp op t x y ty =>
    cases hg : guardA P op t x y (ρ x) (ρ y) with
    | false => rw [hg] at h; cases h
    | true => rw [hg] at h; exact (map_pair h).2
  case unOp op t x => exact (map_pair h).2
  case convert a b x =>
    split at hk
    · rename_i i j ha hb; exact (conv_int ha hb h).1
    · rename_i ha hb; exact (conv_str ha hb h).1
    · rename_i e ha hb; exact conv_b2s ha hb h
    · split at hk <;> simp at hk
    · simp at hk
  case makeSlice t l c => split at hk <;> simp at hk
  case makeInterface t x => exact (map_pair h).2
  case makeFunc fn a b => exact (map_pair h).2
  case slice t x lo hi mx => exact (map_pair h).2
  case fieldAddr t x f => exact (map_pair h).2
  case field t x f => exact (map_pair h).2
  case indexAddr t x ix => exact (map_pair h).2
  case index t x ix => exact (map_pair h).2
  case lookup t x k ok => exact (map_pair h).2
  case entry it => exact (map_pair h).2
  case extract t ix =>
    split at h
    · exact (map_pair h).2
    · cases h
  case typeAssert x t as ok => exact (map_pair h).2
  case call c =>
    cases hc : c.callee with
    | builtin b =>
      rw [hc] at h hk
      simp only at h hk
      cases b <;> simp only [reduceCtorEq, or_self] at hk <;> (unfold builtinA at h; split at h <;> first | (cases h; done) | exact (map_pair h).2 | simp_all)
    | value f => rw [hc] at h; cases h
    | invoke r m => rw [hc] at h; cases h

theorem binA_pure {op : BinOp} {t : TypeId} {x y : AV} (hk : (match op with
      | .eql | .neq => match P.underlying t with | some (.int _) | some .string | some .bool => Kd.pure | _ => .read
      | _ => .pure) = .pure) (H H2 : Hp) : binA P op t x y H = binA P op t x y H2 := by
  have heq : (op = .eql ∨ op = .neq) → ∀ H H2 : Hp, eqA P 50 t x y H = eqA P 50 t x y H2 := by
    intro ho H H2
    have hu : P.underlying t = some .string ∨ P.underlying t = some .bool ∨ ∃ k, P.underlying t = some (.int k) := by
      rcases ho with rfl | rfl <;> (simp only at hk; split at hk <;> first | (exact .inl (by assumption)) | (exact .inr (.inl (by assumption))) | (exact .inr (.inr ⟨_, by assumption⟩)) | cases hk)
    unfold eqA
    rcases hu with hu | hu | ⟨k, hu⟩ <;> (rw [hu]; cases x <;> cases y <;> rfl)
  cases op
  case eql =>
    have := heq (.inl rfl) H H2
    cases x <;> cases y <;> simp only [binA, this]
  case neq =>
    have := heq (.inr rfl) H H2
    cases x <;> cases y <;> simp only [binA, this]
  all_goals (cases x <;> cases y <;> rfl)

/-- a pure operation does not look at the heap -/
theorem opA_pure {ρ : Operand → AV} {o : Oper} {H H' : Hp} {v : AV} (hk : kd P o = .pure) (h : opA P ρ o H = some (v, H')) (H2 : Hp) : opA P ρ o H2 = some (v, H2) := by
  have hs := opA_same (.inl hk) h
  subst hs
  unfold opA at h ⊢
  unfold kd at hk
  cases hop : o.op <;> rw [hop] at h hk <;> simp only [reduceCtorEq] at h hk ⊢
  case move x => cases h; rfl
  case assign x => cases h; rfl
  case pick c a b =>
    split at h
    · cases h; simp [*]
    · cases h
  case build t ps => exact pair_map (map_pair h).1
  case nilCheck x => exact pair_map (map_pair h).1
  case binOp op t x y ty =>
    cases hg : guardA P op t x y (ρ x) (ρ y) with
    | false => rw [hg] at h; cases h
    | true =>
      rw [hg] at h
      rw [binA_pure hk H2 H']
      exact pair_map (map_pair h).1
  case unOp op t x => exact pair_map (map_pair h).1
  case convert a b x =>
    split at hk
    · rename_i i j ha hb; exact (conv_int ha hb h).2 H2
    · rename_i ha hb; exact (conv_str ha hb h).2 H2
    · cases hk
    · split at hk <;> cases hk
    · cases hk
  case makeSlice t l c => split at hk <;> cases hk
  case makeInterface t x => exact pair_map (map_pair h).1
  case makeFunc fn a b => exact pair_map (map_pair h).1
  case fieldAddr t x f => exact pair_map (map_pair h).1
  case field t x f => exact pair_map (map_pair h).1
  case indexAddr t x ix => exact pair_map (map_pair h).1
  case index t x ix => exact pair_map (map_pair h).1
  case extract t ix =>
    split at h
    · rename_i l hl; exact pair_map (map_pair h).1
    · cases h
  case typeAssert x t as ok => exact pair_map (map_pair h).1
  case call c =>
    cases hc : c.callee with
    | builtin b =>
      rw [hc] at h hk
      simp only at h hk ⊢
      cases b <;> simp only [reduceCtorEq] at hk <;> (unfold builtinA at h ⊢; split at h <;> first | (cases h; done) | exact pair_map (map_pair h).1 | simp_all)
    | value f => rw [hc] at h; cases h
    | invoke r m => rw [hc] at h; cases h
end Go.Proofs.YtehhgkgeldinkaaGreatDoor.Am
namespace Go.Proofs.YtehhgkgeldinkaaGreatDoor.Am
set_option linter.unusedVariables false
set_option linter.unusedSimpArgs false

section
variable {P : Program} {cf : CF} {n : Nat} {ops : Array Oper} {B : List Nat} {t0 : Tm} {H0 : Hp} {TP TE : Nat → Tm} {HB HH : Nat → Hp} {V : Nat → AV} {X : Nat → Bool}

/-- listed, a new variable, not taken up yet -/
def Pend (P : Program) (ops : Array Oper) (X : Nat → Bool) (S : Nat → Prop) (p j : Nat) : Prop := S j ∧ p ≤ j ∧ X j = true ∧ ∃ o, ops[j]? = some o ∧ kd P o = .late

/-- what a late operation lays, and what it hands back -/
def LateRel (P : Program) (o : Oper) (b : Nat) (ob : Obj) (val : Value) : Prop :=
  ∀ (t : Tm) (H H' : Hp) (v : AV) (e : Em), opA P (ev P.globals.size t) o H = some (v, H') → e.N = H.next → ∃ ao n, Am.alloc H ao = some (e.N, H') ∧ OR (e.ext b 0 n) e.N ao ob ∧ VR (e.ext b 0 n) v val

structure Inv (P : Program) (n : Nat) (ops : Array Oper) (B : List Nat) (t0 : Tm) (HB HH : Nat → Hp) (V : Nat → AV) (X : Nat → Bool) (F : Nat → Prop) (W : World) (e0 : Em) (ds : List Deferred)
    (S : Nat → Prop) (p : Nat) (e : Em) (a : Act) (w : World) (blk : Nat → Nat) : Prop where
  pN : p ≤ ops.size
  ph : HH p = HB p
  pe : p = 0 ∨ ∃ j oj, p = j + 1 ∧ ops[j]? = some oj ∧ X j = true ∧ kd P oj = .eff
  down : ∀ i j, S i → (B.getD i 0).testBit j = true → S j
  eff : ∀ i o, ops[i]? = some o → X i = true → kd P o = .eff → (S i ↔ i < p)
  rh : RH P.globals.size (fun k => F k ∨ ∃ j, Pend P ops X S p j ∧ blk j = k) w e (HB p) w
  frame : ∀ k, F k → w.heap[k]? = W.heap[k]?
  os : w.os = W.os
  tape : w.tape = W.tape
  output : w.output = W.output
  size : W.heap.size ≤ w.heap.size
  pend : ∀ j, Pend P ops X S p j → e.n P.globals.size ≤ blk j ∧ ¬ F (blk j) ∧ ∀ o, ops[j]? = some o → ∃ ob val, w.heap[blk j]? = some ob ∧ LateRel P o (blk j) ob val ∧ ∀ d, o.dst = some d → a.tmps.getD d undef = val
  dist : ∀ i j, Pend P ops X S p i → Pend P ops X S p j → blk i = blk j → i = j
  val : ∀ j o d, ops[j]? = some o → S j → o.dst = some d → ¬ Pend P ops X S p j → VR e (V j) (a.tmps.getD d undef)
  val0 : ∀ d, (∀ j o, ops[j]? = some o → S j → o.dst ≠ some d) → VR e ((t0.get d).getD undefA) (a.tmps.getD d undef)
  tsz : n ≤ a.tmps.size
  le : e0.le e
  defers : a.defers = ds

/-- what an operation that is ready reads of the temporaries, when it is quiet -/
theorem Inv.read (R : Run P cf n ops B t0 H0 TP TE HB HH V X) {F : Nat → Prop} {W : World} {e0 : Em} {ds : List Deferred} {S : Nat → Prop} {p : Nat} {e : Em} {a : Act} {w : World} {blk : Nat → Nat}
    (I : Inv P n ops B t0 HB HH V X F W e0 ds S p e a w blk) {i : Nat} {o : Oper} (ho : ops[i]? = some o) (hS : ¬ S i) (hr : ∀ j, (B.getD i 0).testBit j = true → S j) {d : Tmp} (hd : readsT ops o d = true) :
    VR e (((TP i).get d).getD undefA) (a.tmps.getD d undef) := by
  have hi : i < ops.size := (Array.getElem?_eq_some_iff.1 ho).1
  obtain ⟨v1, v2⟩ := R.vals i (Nat.le_of_lt hi) d
  by_cases hex : ∃ j o', j < i ∧ ops[j]? = some o' ∧ o'.dst = some d
  · obtain ⟨j, o', hj, ho', hd'⟩ := hex
    rw [(v1 j o' hj ho' hd').1]
    have hSj : S j := by
      have := R.form.rd j i o' o d ho' ho hd' (by omega) hd
      rw [if_pos hj] at this
      exact hr j this
    simp only [Option.getD_some, pv]
    split
    · exact .junk _
    · rename_i hn
      refine I.val j o' d ho' hSj hd' (fun q => hn ?_)
      obtain ⟨_, _, hx, o2, ho2, hk⟩ := q
      rw [ho'] at ho2; cases ho2
      exact ⟨hx, hk⟩
  · rw [(v2 fun j o' hj ho' hd' => hex ⟨j, o', hj, ho', hd'⟩).1]
    refine I.val0 d fun j o' ho' hSj hd' => ?_
    by_cases hji : j < i
    · exact hex ⟨j, o', hji, ho', hd'⟩
    · by_cases hje : j = i
      · subst hje; exact hS hSj
      · have := R.form.rd j i o' o d ho' ho hd' hje hd
        rw [if_neg (by omega)] at this
        exact hS (I.down j i hSj this)

theorem mem_tmpsOf {o : Oper} {d : Tmp} (h : Operand.tmp d ∈ o.op.operands.toList) : d ∈ tmpsOf o := by
  unfold tmpsOf
  rw [List.mem_filterMap]
  exact ⟨.tmp d, h, rfl⟩

theorem reads_of {o : Oper} {d : Tmp} (h : Operand.tmp d ∈ o.op.operands.toList) : readsT ops o d = true := by
  unfold readsT
  rw [Bool.or_eq_true]
  left
  simpa using mem_tmpsOf h

/-- operands of a constant kind stand without temporaries -/
theorem evc_rel {F : Nat → Prop} {W : World} {e : Em} {H : Hp} {w : World} (h : RH P.globals.size F W e H w) {t : Tm} {a : Act} {x : Operand} (ht : ∀ d, x = .tmp d → VR e ((t.get d).getD undefA) (a.tmps.getD d undef)) :
    VR e (ev P.globals.size t x) (a.eval x) := by
  cases x with
  | tmp d => exact ht d rfl
  | const v =>
    simp only [Am.ev, Act.eval]
    cases hc : Am.ofC v with
    | none => exact .junk v
    | some c => exact .ofC hc
  | global g =>
    simp only [Am.ev, Act.eval]
    cases hb : Nat.blt g P.globals.size with
    | false => exact .junk _
    | true =>
      rw [Nat.blt_eq] at hb
      obtain ⟨h1, h2, h3⟩ := h.glob g hb
      have := VR.ptr (e := e) g 0 0 h1 (by rw [h3]; simp)
      rw [h2] at this
      exact this
  | func f => exact .func _ (by simp) [] [] #[] #[] rfl rfl (by simp) (by simp)

/-- the new variables ahead of an effect are taken up, in the text's order -/
theorem Inv.adopt (R : Run P cf n ops B t0 H0 TP TE HB HH V X) {F : Nat → Prop} {W : World} {e0 : Em} {ds : List Deferred} {S : Nat → Prop} {p : Nat} {e : Em} {a : Act} {w : World} {blk : Nat → Nat}
    (I : Inv P n ops B t0 HB HH V X F W e0 ds S p e a w blk) : ∀ k, p + k ≤ ops.size → (∀ j o, p ≤ j → j < p + k → ops[j]? = some o → X j = true → kd P o ≠ .eff ∧ (kd P o = .late → S j)) →
    ∃ e', e.le e' ∧ RH P.globals.size (fun q => F q ∨ ∃ j, Pend P ops X S (p + k) j ∧ blk j = q) w e' (HH (p + k)) w ∧
      ∀ j o d, p ≤ j → j < p + k → ops[j]? = some o → X j = true → kd P o = .late → o.dst = some d → VR e' (V j) (a.tmps.getD d undef) := by
  intro k
  induction k with
  | zero =>
    intro _ _
    refine ⟨e, e.le_refl, ?_, fun j o d h1 h2 => by omega⟩
    rw [Nat.add_zero, I.ph]
    exact I.rh
  | succ k ih =>
    intro hk hne
    obtain ⟨e1, he1, hr1, hv1⟩ := ih (by omega) fun j o h1 h2 => hne j o h1 (by omega)
    have ho : ops[p + k]? = some ops[p + k] := Array.getElem?_eq_getElem (by omega)
    obtain ⟨_, hst⟩ := R.step (p + k) _ ho
    have same : HH (p + k + 1) = HH (p + k) → ¬ (X (p + k) = true ∧ kd P ops[p + k] = .late) → ∃ e', e.le e' ∧ RH P.globals.size (fun q => F q ∨ ∃ j, Pend P ops X S (p + (k + 1)) j ∧ blk j = q) w e' (HH (p + (k + 1))) w ∧
      ∀ j o d, p ≤ j → j < p + (k + 1) → ops[j]? = some o → X j = true → kd P o = .late → o.dst = some d → VR e' (V j) (a.tmps.getD d undef) := by
      intro hh hnl
      refine ⟨e1, he1, ?_, ?_⟩
      · rw [← Nat.add_assoc, hh]
        refine hr1.weaken fun q hq => ?_
        rcases hq with hq | ⟨j, ⟨q1, q2, q3⟩, q4⟩
        · exact .inl hq
        · exact .inr ⟨j, ⟨q1, by omega, q3⟩, q4⟩
      · intro j o d h1 h2 hj hx hkd hd
        by_cases hjk : j = p + k
        · subst hjk
          rw [ho] at hj; cases hj
          exact absurd ⟨hx, hkd⟩ hnl
        · exact hv1 j o d h1 (by omega) hj hx hkd hd
    cases hx : X (p + k) with
    | false =>
      rw [hx] at hst
      exact same hst.2.2.2.2 (by simp [hx])
    | true =>
      rw [hx] at hst
      have hn := hne (p + k) _ (by omega) (by omega) ho hx
      cases hkd : kd P ops[p + k] <;> rw [hkd] at hst
      · exact same hst.2.2.2.2 (by simp [hkd])
      · exact same hst.2.2.2.2 (by simp [hkd])
      · -- a new variable
        obtain ⟨hA, _, _, _⟩ := hst
        have hS := hn.2 hkd
        have hpd : Pend P ops X S (p + k) (p + k) := ⟨hS, Nat.le_refl _, hx, _, ho, hkd⟩
        have hpd0 : Pend P ops X S p (p + k) := ⟨hS, by omega, hx, _, ho, hkd⟩
        obtain ⟨g1, g2, g3⟩ := I.pend _ hpd0
        obtain ⟨ob, val, hblk, hrel, hdst⟩ := g3 _ ho
        obtain ⟨ao, nn, hal, hor, hvr⟩ := hrel _ _ _ _ e1 hA hr1.N
        have hfree : ∀ j oj, (HH (p + k)).h.get j = some oj → e1.b j ≠ blk (p + k) := by
          intro j oj hj hq
          obtain ⟨a1, ob, b1, c1, d1⟩ := hr1.obj j oj hj
          by_cases hjG : e1.n P.globals.size ≤ e1.b j
          · exact d1 (.inr hjG) (.inr ⟨p + k, hpd, hq.symm⟩)
          · have := (he1.2 _ I.rh.gsz.2.1).2.2
            omega
        obtain ⟨_, hr2⟩ := hr1.adopt (F' := fun q => F q ∨ ∃ j, Pend P ops X S (p + (k + 1)) j ∧ blk j = q) hal hblk hfree hor (by
          intro q hq
          rcases hq with hq | ⟨j, ⟨q1, q2, q3⟩, q4⟩
          · exact ⟨.inl hq, fun r => g2 (r ▸ hq)⟩
          · refine ⟨.inr ⟨j, ⟨q1, by omega, q3⟩, q4⟩, fun r => ?_⟩
            have := I.dist j (p + k) ⟨q1, by omega, q3⟩ hpd0 (q4.trans r)
            omega)
        refine ⟨_, Em.le_trans he1 (Em.le_ext ..), by rw [← Nat.add_assoc]; exact hr2, ?_⟩
        intro j o d h1 h2 hj hxj hkj hd
        by_cases hjk : j = p + k
        · subst hjk
          rw [ho] at hj; cases hj
          rw [hdst d hd]
          exact hvr
        · exact (hv1 j o d h1 (by omega) hj hxj hkj hd).mono (Em.le_ext ..)
      · exact absurd hkd hn.1
end
end Go.Proofs.YtehhgkgeldinkaaGreatDoor.Am
namespace Go.Proofs.YtehhgkgeldinkaaGreatDoor.Am
set_option linter.unusedVariables false
set_option linter.unusedSimpArgs false

theorem RH.push {G : Nat} {F : Nat → Prop} {W : World} {e : Em} {H : Hp} {w : World} (h : RH G F W e H w) (ob : Obj) :
    RH G (fun k => F k ∨ k = w.heap.size) { w with heap := w.heap.push ob } e H { w with heap := w.heap.push ob } := by
  refine ⟨h.N, ?_, h.inj, h.glob, ?_, rfl, rfl, rfl, Nat.le_refl _, by obtain ⟨g1, g2, g3⟩ := h.gsz; simp; omega⟩
  · intro i o ho
    obtain ⟨a, ob2, b, c, d⟩ := h.obj i o ho
    have hlt := (Array.getElem?_eq_some_iff.1 b).1
    refine ⟨a, ob2, ?_, c, fun hw hk => ?_⟩
    · simp only; rw [Array.getElem?_push, if_neg (by omega)]; exact b
    · rcases hk with hk | hk
      · exact d hw hk
      · omega
  · intro k hk
    refine ⟨?_, rfl⟩
    rcases hk with hk | hk
    · have := (h.frame k hk).1; simp; omega
    · simp; omega

theorem put_get {a : Act} {dst : Option Tmp} {v : Value} {n : Nat} (hn : n ≤ a.tmps.size) (hd : ∀ d, dst = some d → d < n) (d : Tmp) : (a.put dst v).tmps.getD d undef = if dst = some d then v else a.tmps.getD d undef := by
  cases dst with
  | none => simp [Act.put]
  | some x =>
    simp only [Act.put]
    have hx0 : x < a.tmps.size := Nat.lt_of_lt_of_le (hd x rfl) hn
    rw [getD_set hx0]
    by_cases hx : d = x
    · subst hx; simp
    · rw [if_neg hx, if_neg (fun q => hx (Option.some.inj q).symm)]
theorem put_size {a : Act} {dst : Option Tmp} {v : Value} : (a.put dst v).tmps.size = a.tmps.size := by cases dst <;> simp [Act.put]
theorem put_defers' {a : Act} {dst : Option Tmp} {v : Value} : (a.put dst v).defers = a.defers := by cases dst <;> rfl

section
variable {P : Program} {cf : CF} {n : Nat} {ops : Array Oper} {B : List Nat} {t0 : Tm} {H0 : Hp} {TP TE : Nat → Tm} {HB HH : Nat → Hp} {V : Nat → AV} {X : Nat → Bool}
  {F : Nat → Prop} {W : World} {e0 : Em} {ds : List Deferred} {S : Nat → Prop} {p : Nat} {e : Em} {a : Act} {w : World} {blk : Nat → Nat}

theorem Run.lt (R : Run P cf n ops B t0 H0 TP TE HB HH V X) {i : Nat} {o : Oper} (ho : ops[i]? = some o) : ∀ d, o.dst = some d → d < n := fun d hd => putD_lt (R.puts ho).2 hd

/-- behind a quiet operation -/
theorem Inv.quiet (R : Run P cf n ops B t0 H0 TP TE HB HH V X) (I : Inv P n ops B t0 HB HH V X F W e0 ds S p e a w blk) {i : Nat} {o : Oper} (ho : ops[i]? = some o) (hS : ¬ S i)
    (hr : ∀ j, (B.getD i 0).testBit j = true → S j) (hk : X i = true → kd P o ≠ .late ∧ kd P o ≠ .eff) {e' : Em} {w' : World} {v' : Value}
    (he : e.le e') (hR : RH P.globals.size (fun k => F k ∨ ∃ j, Pend P ops X S p j ∧ blk j = k) w e' (HB p) w') (hv : VR e' (V i) v') :
    Inv P n ops B t0 HB HH V X F W e0 ds (fun j => S j ∨ j = i) p e' (a.put o.dst v') w' blk := by
  have hpe : ∀ j, Pend P ops X (fun j => S j ∨ j = i) p j ↔ Pend P ops X S p j := by
    intro j
    constructor
    · rintro ⟨q1 | q1, q2, q3, o2, q4, q5⟩
      · exact ⟨q1, q2, q3, o2, q4, q5⟩
      · subst q1
        rw [ho] at q4; cases q4
        exact absurd q5 (hk q3).1
    · rintro ⟨q1, q2⟩
      exact ⟨.inl q1, q2⟩
  have hne : ∀ j o2 d, ops[j]? = some o2 → o2.dst = some d → j ≠ i → o.dst ≠ some d := fun j o2 d h1 h2 h3 h4 => h3 (R.form.one j i o2 o d h1 ho h2 h4)
  have hget := fun d => put_get (a := a) (dst := o.dst) (v := v') I.tsz (R.lt ho) d
  refine ⟨I.pN, I.ph, I.pe, ?_, ?_, ?_, ?_, hR.os.trans I.os, hR.tape.trans I.tape, hR.output.trans I.output, Nat.le_trans I.size hR.size, ?_, ?_, ?_, ?_, by rw [put_size]; exact I.tsz, Em.le_trans I.le he, by rw [put_defers']; exact I.defers⟩
  · intro i' j h1 h2
    rcases h1 with h1 | h1
    · exact .inl (I.down i' j h1 h2)
    · subst h1; exact .inl (hr j h2)
  · intro i' o' h1 h2 h3
    rw [← I.eff i' o' h1 h2 h3]
    constructor
    · rintro (q | q)
      · exact q
      · subst q; rw [ho] at h1; cases h1; exact absurd h3 (hk h2).2
    · exact .inl
  · refine (hR.weaken fun k hk => ?_).rebase
    rcases hk with hk | ⟨j, h1, h2⟩
    · exact .inl hk
    · exact .inr ⟨j, (hpe j).1 h1, h2⟩
  · intro k hk
    exact (hR.frame k (.inl hk)).2.trans (I.frame k hk)
  · intro j hj
    have hj' := (hpe j).1 hj
    obtain ⟨g1, g2, g3⟩ := I.pend j hj'
    refine ⟨by rw [(he.2 _ I.rh.gsz.2.1).2.2]; exact g1, g2, fun o2 h1 => ?_⟩
    obtain ⟨ob, val, q3, q2, q4⟩ := g3 o2 h1
    refine ⟨ob, val, ?_, q2, fun d hd => ?_⟩
    · rw [(hR.frame (blk j) (.inr ⟨j, hj', rfl⟩)).2]; exact q3
    · rw [hget, if_neg (hne j o2 d h1 hd (fun q => hS (q ▸ hj'.1)))]; exact q4 d hd
  · intro x y hx hy
    exact I.dist x y ((hpe x).1 hx) ((hpe y).1 hy)
  · intro j o2 d h1 h2 h3 h4
    rw [hget]
    rcases h2 with h2 | h2
    · rw [if_neg (hne j o2 d h1 h3 (fun q => hS (q ▸ h2)))]
      exact (I.val j o2 d h1 h2 h3 (fun q => h4 ((hpe j).2 q))).mono he
    · subst h2
      rw [ho] at h1; cases h1
      rw [if_pos h3]; exact hv
  · intro d hd
    rw [hget, if_neg (hd i o ho (.inr rfl))]
    exact (I.val0 d fun j o2 h1 h2 => hd j o2 h1 (.inl h2)).mono he

/-- behind a new variable -/
theorem Inv.late (R : Run P cf n ops B t0 H0 TP TE HB HH V X) (I : Inv P n ops B t0 HB HH V X F W e0 ds S p e a w blk) {i : Nat} {o : Oper} (ho : ops[i]? = some o) (hS : ¬ S i)
    (hr : ∀ j, (B.getD i 0).testBit j = true → S j) (hX : X i = true) (hkd : kd P o = .late) (hpi : p ≤ i) {ob : Obj} {val : Value} {dr : Nat} (hrel : LateRel P o w.heap.size ob val) :
    Inv P n ops B t0 HB HH V X F W e0 ds (fun j => S j ∨ j = i) p e (a.put o.dst val) { w with drawn := dr, heap := w.heap.push ob } (fun j => if j = i then w.heap.size else blk j) := by
  have hpe : ∀ j, Pend P ops X (fun j => S j ∨ j = i) p j ↔ (Pend P ops X S p j ∨ j = i) := by
    intro j
    constructor
    · rintro ⟨q1 | q1, q2⟩
      · exact .inl ⟨q1, q2⟩
      · exact .inr q1
    · rintro (⟨q1, q2⟩ | q)
      · exact ⟨.inl q1, q2⟩
      · subst q; exact ⟨.inr rfl, hpi, hX, o, ho, hkd⟩
  have hne : ∀ j o2 d, ops[j]? = some o2 → o2.dst = some d → j ≠ i → o.dst ≠ some d := fun j o2 d h1 h2 h3 h4 => h3 (R.form.one j i o2 o d h1 ho h2 h4)
  have hget := fun d => put_get (a := a) (dst := o.dst) (v := val) I.tsz (R.lt ho) d
  have hlt : ∀ j, Pend P ops X S p j → blk j < w.heap.size := fun j hj => (I.rh.frame (blk j) (.inr ⟨j, hj, rfl⟩)).1
  have hnp : ∀ j, Pend P ops X S p j → j ≠ i := fun j hj q => hS (q ▸ hj.1)
  refine ⟨I.pN, I.ph, I.pe, ?_, ?_, ?_, ?_, I.os, I.tape, I.output, by simp; have := I.size; omega, ?_, ?_, ?_, ?_, by rw [put_size]; exact I.tsz, I.le, by rw [put_defers']; exact I.defers⟩
  · intro i' j h1 h2
    rcases h1 with h1 | h1
    · exact .inl (I.down i' j h1 h2)
    · subst h1; exact .inl (hr j h2)
  · intro i' o' h1 h2 h3
    rw [← I.eff i' o' h1 h2 h3]
    constructor
    · rintro (q | q)
      · exact q
      · subst q; rw [ho] at h1; cases h1; rw [hkd] at h3; cases h3
    · exact .inl
  · refine ((I.rh.push ob).drawn dr).rebase.weaken fun k hk => ?_
    rcases hk with hk | ⟨j, h1, h2⟩
    · exact .inl (.inl hk)
    · rcases (hpe j).1 h1 with q | q
      · rw [if_neg (hnp j q)] at h2
        exact .inl (.inr ⟨j, q, h2⟩)
      · rw [if_pos q] at h2
        exact .inr h2.symm
  · intro k hk
    have := (I.rh.frame k (.inl hk)).1
    simp only
    rw [Array.getElem?_push, if_neg (by omega)]
    exact I.frame k hk
  · intro j hj
    rcases (hpe j).1 hj with q | q
    · obtain ⟨g1, g2, g3⟩ := I.pend j q
      rw [if_neg (hnp j q)]
      refine ⟨g1, g2, fun o2 h1 => ?_⟩
      obtain ⟨ob2, val2, q3, q2, q4⟩ := g3 o2 h1
      refine ⟨ob2, val2, ?_, q2, fun d hd => ?_⟩
      · simp only
        rw [Array.getElem?_push, if_neg (by have := hlt j q; omega)]; exact q3
      · rw [hget, if_neg (hne j o2 d h1 hd (hnp j q))]; exact q4 d hd
    · rw [if_pos q]
      subst q
      refine ⟨I.rh.gsz.2.2, fun hF => ?_, fun o2 h1 => ?_⟩
      · have := (I.rh.frame _ (.inl hF)).1
        omega
      · rw [ho] at h1; cases h1
        refine ⟨ob, val, by simp, hrel, fun d hd => ?_⟩
        rw [hget, if_pos hd]
  · intro x y hx hy hxy
    rcases (hpe x).1 hx with qx | qx <;> rcases (hpe y).1 hy with qy | qy
    · rw [if_neg (hnp x qx), if_neg (hnp y qy)] at hxy; exact I.dist x y qx qy hxy
    · rw [if_neg (hnp x qx), if_pos qy] at hxy
      have := hlt x qx; omega
    · rw [if_pos qx, if_neg (hnp y qy)] at hxy
      have := hlt y qy; omega
    · rw [qx, qy]
  · intro j o2 d h1 h2 h3 h4
    rw [hget]
    rcases h2 with h2 | h2
    · rw [if_neg (hne j o2 d h1 h3 (fun q => hS (q ▸ h2)))]
      exact I.val j o2 d h1 h2 h3 (fun q => h4 ((hpe j).2 (.inl q)))
    · exact absurd ((hpe j).2 (.inr h2)) h4
  · intro d hd
    rw [hget, if_neg (hd i o ho (.inr rfl))]
    exact I.val0 d fun j o2 h1 h2 => hd j o2 h1 (.inl h2)

/-- behind an effect -/
theorem Inv.effect (R : Run P cf n ops B t0 H0 TP TE HB HH V X) (I : Inv P n ops B t0 HB HH V X F W e0 ds S p e a w blk) {i : Nat} {o : Oper} (ho : ops[i]? = some o) (hS : ¬ S i)
    (hr : ∀ j, (B.getD i 0).testBit j = true → S j) (hX : X i = true) (hkd : kd P o = .eff) (hpi : p ≤ i) {e1 e' : Em} {w' : World} {v' : Value}
    (he1 : e.le e1) (hlate : ∀ j o d, p ≤ j → j < i → ops[j]? = some o → X j = true → kd P o = .late → o.dst = some d → VR e1 (V j) (a.tmps.getD d undef))
    (he : e1.le e') (hR : RH P.globals.size (fun k => F k ∨ ∃ j, Pend P ops X S i j ∧ blk j = k) w e' (HH (i + 1)) w') (hv : VR e' (V i) v') :
    Inv P n ops B t0 HB HH V X F W e0 ds (fun j => S j ∨ j = i) (i + 1) e' (a.put o.dst v') w' blk := by
  have hi : i < ops.size := (Array.getElem?_eq_some_iff.1 ho).1
  have hpe : ∀ j, Pend P ops X (fun j => S j ∨ j = i) (i + 1) j → Pend P ops X S i j ∧ Pend P ops X S p j ∧ j ≠ i := by
    rintro j ⟨q1, q2, q3⟩
    rcases q1 with q1 | q1
    · exact ⟨⟨q1, by omega, q3⟩, ⟨q1, by omega, q3⟩, by omega⟩
    · omega
  have hne : ∀ j o2 d, ops[j]? = some o2 → o2.dst = some d → j ≠ i → o.dst ≠ some d := fun j o2 d h1 h2 h3 h4 => h3 (R.form.one j i o2 o d h1 ho h2 h4)
  have hget := fun d => put_get (a := a) (dst := o.dst) (v := v') I.tsz (R.lt ho) d
  have hhb : HB (i + 1) = HH (i + 1) := by
    obtain ⟨_, h⟩ := R.step i o ho
    rw [hX, hkd] at h
    exact h.2.2.2
  refine ⟨by omega, hhb.symm, .inr ⟨i, o, rfl, ho, hX, hkd⟩, ?_, ?_, ?_, ?_, hR.os.trans I.os, hR.tape.trans I.tape, hR.output.trans I.output, Nat.le_trans I.size hR.size, ?_, ?_, ?_, ?_, by rw [put_size]; exact I.tsz, Em.le_trans I.le (Em.le_trans he1 he), by rw [put_defers']; exact I.defers⟩
  · intro i' j h1 h2
    rcases h1 with h1 | h1
    · exact .inl (I.down i' j h1 h2)
    · subst h1; exact .inl (hr j h2)
  · intro i' o' h1 h2 h3
    constructor
    · rintro (q | q)
      · have := (I.eff i' o' h1 h2 h3).1 q; omega
      · omega
    · intro q
      by_cases hii : i' = i
      · exact .inr hii
      · exact .inl (hr i' (R.d1 i o ho hX hkd i' o' h1 h2 (.inl h3) (by omega)))
  · rw [hhb]
    refine (hR.weaken fun k hk => ?_).rebase
    rcases hk with hk | ⟨j, h1, h2⟩
    · exact .inl hk
    · exact .inr ⟨j, (hpe j h1).1, h2⟩
  · intro k hk
    exact (hR.frame k (.inl hk)).2.trans (I.frame k hk)
  · intro j hj
    obtain ⟨hj1, hj2, hj3⟩ := hpe j hj
    obtain ⟨g1, g2, g3⟩ := I.pend j hj2
    refine ⟨by rw [((Em.le_trans he1 he).2 _ I.rh.gsz.2.1).2.2]; exact g1, g2, fun o2 h1 => ?_⟩
    obtain ⟨ob, val, q3, q2, q4⟩ := g3 o2 h1
    refine ⟨ob, val, ?_, q2, fun d hd => ?_⟩
    · rw [(hR.frame (blk j) (.inr ⟨j, hj1, rfl⟩)).2]; exact q3
    · rw [hget, if_neg (hne j o2 d h1 hd hj3)]; exact q4 d hd
  · intro x y hx hy
    exact I.dist x y (hpe x hx).2.1 (hpe y hy).2.1
  · intro j o2 d h1 h2 h3 h4
    rw [hget]
    rcases h2 with h2 | h2
    · have hji : j ≠ i := fun q => hS (q ▸ h2)
      rw [if_neg (hne j o2 d h1 h3 hji)]
      by_cases hp : Pend P ops X S p j
      · obtain ⟨q1, q2, q3, o3, q4, q5⟩ := hp
        rw [h1] at q4; cases q4
        by_cases hlt : j < i
        · exact (hlate j o2 d q2 hlt h1 q3 q5 h3).mono he
        · exact absurd ⟨.inl q1, by omega, q3, o2, h1, q5⟩ h4
      · exact ((I.val j o2 d h1 h2 h3 hp).mono he1).mono he
    · subst h2
      rw [ho] at h1; cases h1
      rw [if_pos h3]; exact hv
  · intro d hd
    rw [hget, if_neg (hd i o ho (.inr rfl))]
    exact ((I.val0 d fun j o2 h1 h2 => hd j o2 h1 (.inl h2)).mono he1).mono he
end
end Go.Proofs.YtehhgkgeldinkaaGreatDoor.Am
namespace Go.Proofs.YtehhgkgeldinkaaGreatDoor.Am
set_option linter.unusedVariables false
set_option linter.unusedSimpArgs false

theorem countP_lt {α : Type} {p q : α → Bool} (h : ∀ x, p x = true → q x = true) {a : α} (hq : q a = true) (hp : p a = false) : ∀ l : List α, a ∈ l → l.countP p < l.countP q
  | b :: l, hm => by
    have hle : ∀ l : List α, l.countP p ≤ l.countP q := fun l => List.countP_mono_left fun x _ => h x
    rcases List.mem_cons.1 hm with rfl | hm
    · rw [List.countP_cons_of_neg (by simp [hp]), List.countP_cons_of_pos hq]
      have := hle l; omega
    · have := countP_lt h hq hp l hm
      rw [List.countP_cons, List.countP_cons]
      by_cases hb : p b = true
      · rw [if_pos hb, if_pos (h b hb)]; omega
      · rw [if_neg hb]; omega

/-- a late operation, when it is taken: one new block, whatever stands around -/
theorem late_run {P : Program} {o : Oper} {a : Act} {w : World} {t : Tm} {H H' : Hp} {v : AV} (hkd : kd P o = .late) (hA : opA P (ev P.globals.size t) o H = some (v, H')) :
    ∃ ob val dr, (execOp a.eval o).run P w = .ok (.value val) { w with drawn := dr, heap := w.heap.push ob } ∧ LateRel P o w.heap.size ob val := by
  rcases kd_late hkd with ⟨ty, hop⟩ | ⟨ty, ca, cb, hop⟩ | ⟨x, y, cv, el, hop, hx, hy⟩
  · unfold opA at hA
    rw [hop] at hA
    simp only at hA
    split at hA
    · rename_i l hl
      obtain ⟨inf, z, hinf, hz, _⟩ := zc_some (e := ⟨id, fun _ => 0, id, 0⟩) hl
      refine ⟨.cells z.cells ty (0, 0), .pointer (some ⟨w.heap.size, 0, none⟩), w.drawn, ?_, ?_⟩
      · unfold execOp
        rw [hop]
        simp [Instr.alloc, run_zero hinf hz, newVar, newRow]
      · intro t2 H2 H2' v2 e hA2 hN
        unfold opA at hA2
        rw [hop] at hA2
        simp only [hl, Option.map_eq_some_iff, Prod.mk.injEq] at hA2
        obtain ⟨⟨id, H3⟩, hnc, rfl, rfl⟩ := hA2
        obtain ⟨hlen, hal⟩ := newCells_some hnc
        obtain ⟨inf2, z2, hinf2, hz2, hlr⟩ := zc_some (e := e) hl
        rw [hinf] at hinf2; cases hinf2
        rw [hz] at hz2; cases hz2
        have hi0 : id = e.N := (alloc_some hal).1.trans hN.symm
        subst hi0
        exact ⟨_, _, hal, row_or hlr hlen, .ptr_at (Em.ext_b ..) (by simp [Em.ext]) (Em.ext_d ..)⟩
    · cases hA
  · have hmk : ∀ (t2 : Tm) (H2 H2' : Hp) (v2 : AV), opA P (ev P.globals.size t2) o H2 = some (v2, H2') → makeSliceA P ty ((ofC ca).getD .junk) ((ofC cb).getD .junk) H2 = some (v2, H2') := by
      intro t2 H2 H2' v2 h
      unfold opA at h
      rw [hop] at h
      exact h
    have hA1 := hmk t H H' v hA
    have hca : ∃ k1 n, (ofC ca).getD .junk = .int k1 n := by
      unfold makeSliceA at hA1
      split at hA1
      · rename_i q _; exact ⟨_, _, q⟩
      · cases hA1
    have hcb : ∃ k2 m, (ofC cb).getD .junk = .int k2 m := by
      unfold makeSliceA at hA1
      split at hA1
      · rename_i _ q; exact ⟨_, _, q⟩
      · cases hA1
    obtain ⟨k1, n, ha⟩ := hca
    obtain ⟨k2, m, hb⟩ := hcb
    have vA : ca = .int k1 n := by
      cases h : ofC ca with
      | none => rw [h] at ha; cases ha
      | some u => rw [h] at ha; have q : u = .int k1 n := ha; subst q; exact (VR.ofC (e := ⟨id, fun _ => 0, id, 0⟩) h).int_inv
    have vB : cb = .int k2 m := by
      cases h : ofC cb with
      | none => rw [h] at hb; cases hb
      | some u => rw [h] at hb; have q : u = .int k2 m := hb; subst q; exact (VR.ofC (e := ⟨id, fun _ => 0, id, 0⟩) h).int_inv
    rw [ha, hb] at hA1
    obtain ⟨el, s, z, row, hu, hs, hz, hrow, hle, hlen, hrun⟩ := run_makeSlice hA1 w
    refine ⟨.cells row.toArray el (0, 0), .slice (some ⟨w.heap.size, 0, none⟩) n.toNat m.toNat, w.drawn, ?_, ?_⟩
    · unfold execOp
      rw [hop, vA, vB]
      have h2 : (do Pure.pure (Next.value (← Instr.makeSlice ty (.int k1 n) (.int k2 m))) : Sem Next).run P w = .ok (.value (.slice (some ⟨w.heap.size, 0, none⟩) n.toNat m.toNat)) { w with heap := w.heap.push (.cells row.toArray el (0, 0)) } := by
        rw [Sem.run_bind, hrun]
        rfl
      exact h2
    · intro t2 H2 H2' v2 e hA2 hN
      have hA3 := hmk t2 H2 H2' v2 hA2
      rw [ha, hb] at hA3
      unfold makeSliceA at hA3
      simp only [hu, hs] at hA3
      split at hA3
      · rw [hz] at hA3
        simp only [Option.map_eq_some_iff, Prod.mk.injEq] at hA3
        obtain ⟨⟨id, H3⟩, hnc, rfl, rfl⟩ := hA3
        obtain ⟨hl2, hal⟩ := newCells_some hnc
        have hi0 : id = e.N := (alloc_some hal).1.trans hN.symm
        subst hi0
        have hor := row_or (cs := row.toArray) (b := w.heap.size) (el := el) (by simpa using hrow e) hl2
        refine ⟨_, _, hal, hor, ?_⟩
        have hb0 : (e.ext w.heap.size 0 row.toArray.size).b e.N = w.heap.size := Em.ext_b ..
        have hv := VR.slice (e := e.ext w.heap.size 0 row.toArray.size) e.N 0 n.toNat m.toNat true s 0 m.toNat (Nat.lt_succ_self e.N) (by rw [Em.ext_d]; rfl) hle (Nat.le_refl _) (fun _ => rfl) (by rw [Em.ext_n]; simp [hlen])
        rw [hb0] at hv
        exact hv
      · cases hA3
  · have hconv : ∀ (t2 : Tm) (H2 H2' : Hp) (v2 : AV), opA P (ev P.globals.size t2) o H2 = some (v2, H2') → convA P x y ((ofC cv).getD .junk) H2 = some (v2, H2') := by
      intro t2 H2 H2' v2 h
      unfold opA at h
      rw [hop] at h
      exact h
    have hA1 := hconv t H H' v hA
    unfold convA at hA1
    rw [hx, hy] at hA1
    cases hc : (ofC cv).getD .junk with
    | str s =>
      rw [hc] at hA1
      simp only at hA1
      have hof : ofC cv = some (.str s) := by
        cases h : ofC cv with
        | none => rw [h] at hc; cases hc
        | some u => rw [h] at hc; exact congrArg some hc
      obtain ⟨s', hs', hcv⟩ := (VR.ofC (e := ⟨id, fun _ => 0, id, 0⟩) hof).str_inv
      split at hA1
      · rename_i hel
        refine ⟨.cells (s2bRow w el s').toArray el (s2bCap w el s', s2bCap w el s' + 1), .slice (some ⟨w.heap.size, 0, none⟩) s'.size (s2bCap w el s'), w.drawn + 1, ?_, ?_⟩
        · unfold execOp
          rw [hop]
          have h1 : (convert x y cv).run P w = (Conv.stringToBytes el s').run P w := by rw [hcv]; simp [convert, run_und hx, run_und hy, run_und hel]
          have h2 : (do Pure.pure (Next.value (← convert x y cv)) : Sem Next).run P w = .ok (.value (.slice (some ⟨w.heap.size, 0, none⟩) s'.size (s2bCap w el s'))) { w with drawn := w.drawn + 1, heap := w.heap.push (.cells (s2bRow w el s').toArray el (s2bCap w el s', s2bCap w el s' + 1)) } := by
            rw [Sem.run_bind, h1, run_s2b]
            rfl
          exact h2
        · intro t2 H2 H2' v2 e hA2 hN
          have hA3 := hconv t2 H2 H2' v2 hA2
          unfold convA at hA3
          rw [hx, hy, hc] at hA3
          simp only [hel] at hA3
          split at hA3
          · rename_i i H3 hnc
            cases hA3
            obtain ⟨hlen, hal⟩ := newCells_some hnc
            have hi0 : i = e.N := (alloc_some hal).1.trans hN.symm
            subst hi0
            have hrl := s2bRow_len w el s'
            have hle := s2bCap_le w el s'
            rw [hs'] at hal hnc hlen ⊢
            refine ⟨_, (s2bRow w el s').length, hal, ?_, ?_⟩
            · refine .cells _ _ _ _ _ _ (s2bCap w el s', s2bCap w el s' + 1) (by rw [Em.ext_n]; simp) ?_ (by simp) ?_ (fun _ => Em.ext_d ..)
              · intro k u _ hk hg
                rw [Tr.get_puts .nil _ _ _ _ (by omega)] at hg
                rw [if_pos ⟨by omega, by omega⟩, Nat.sub_zero] at hg
                obtain ⟨v', hv', hr⟩ := (s2b_vrl e s').get hg
                refine ⟨k, by rw [Em.ext_d]; omega, v', ?_, hr.mono (Em.le_ext ..)⟩
                have hkl : k < (s'.data.toList.map fun b => Value.int .u8 b.toNat).length := (List.getElem?_eq_some_iff.1 hv').1
                simp only [List.getElem?_toArray, s2bRow]
                rw [List.getElem?_append_left hkl]
                exact hv'
              · intro _ k hk
                have hk' : k < (s2bRow w el s').length := by simpa using hk
                rw [hrl] at hk'
                simp; omega
            · have hb0 : (e.ext w.heap.size 0 (s2bRow w el s').length).b e.N = w.heap.size := Em.ext_b ..
              have hv := VR.slice (e := e.ext w.heap.size 0 (s2bRow w el s').length) e.N 0 s'.size s'.size false 1 0 (s2bCap w el s') (Nat.lt_succ_self e.N) (by rw [Em.ext_d]; rfl) hle hle (by simp) (by rw [Em.ext_n, hrl]; omega)
              rw [hb0] at hv
              rw [bytes_len]
              exact hv
          · cases hA3
      · cases hA1
    | _ => rw [hc] at hA1; first | (simp only at hA1; cases hA1; done) | (cases hA1; done) | (simp at hA1; done)

section
variable {P : Program} {cf : CF} {n : Nat} {ops : Array Oper} {B : List Nat} {t0 : Tm} {H0 : Hp} {TP TE : Nat → Tm} {HB HH : Nat → Hp} {V : Nat → AV} {X : Nat → Bool}
  {F : Nat → Prop} {W : World} {e0 : Em} {ds : List Deferred} {S : Nat → Prop} {p : Nat} {e : Em} {a : Act} {w : World} {blk : Nat → Nat}

theorem Inv.congr {S' : Nat → Prop} (I : Inv P n ops B t0 HB HH V X F W e0 ds S p e a w blk) (h : ∀ j, S j ↔ S' j) : Inv P n ops B t0 HB HH V X F W e0 ds S' p e a w blk := by
  have : S = S' := funext fun j => propext (h j)
  rw [← this]; exact I

/-- all is done -/
theorem Inv.final (R : Run P cf n ops B t0 H0 TP TE HB HH V X) (I : Inv P n ops B t0 HB HH V X F W e0 ds S p e a w blk) (hall : ∀ j, j < ops.size → S j) (hS : ∀ j, S j → j < ops.size) :
    ∃ e', e0.le e' ∧ RH P.globals.size F W e' (HH ops.size) w ∧ TR e' n (TE ops.size) a ∧ a.defers = ds := by
  obtain ⟨k, hk⟩ : ∃ k, ops.size = p + k := ⟨ops.size - p, by have := I.pN; omega⟩
  obtain ⟨e', he, hr, hv⟩ := I.adopt R k (by omega) fun j o h1 h2 h3 h4 => ⟨fun h5 => by
    have := (I.eff j o h3 h4 h5).1 (hall j (by omega)); omega, fun _ => hall j (by omega)⟩
  rw [← hk] at hr hv
  refine ⟨e', Em.le_trans I.le he, ?_, ⟨I.tsz, fun d => ?_⟩, I.defers⟩
  · have hw := hr.weaken (F' := F) fun q hq => .inl hq
    exact hw.reframe (fun q hq => ⟨(hw.frame q hq).1, I.frame q hq⟩) (fun i o ho hwr hq => (hw.obj i o ho).2.choose_spec.2.2 hwr hq) I.os I.tape I.output I.size
  · obtain ⟨v1, v2⟩ := R.vals ops.size (Nat.le_refl _) d
    by_cases hex : ∃ j o', j < ops.size ∧ ops[j]? = some o' ∧ o'.dst = some d
    · obtain ⟨j, o', hj, ho', hd'⟩ := hex
      rw [(v1 j o' hj ho' hd').2, Option.getD_some]
      by_cases hp : Pend P ops X S p j
      · obtain ⟨q1, q2, q3, o3, q4, q5⟩ := hp
        rw [ho'] at q4; cases q4
        exact hv j o' d q2 hj ho' q3 q5 hd'
      · exact (I.val j o' d ho' (hall j hj) hd' hp).mono he
    · rw [(v2 fun j o' hj ho' hd' => hex ⟨j, o', hj, ho', hd'⟩).2]
      exact (I.val0 d fun j o' ho' hSj hd' => hex ⟨j, o', hS j hSj, ho', hd'⟩).mono he

theorem draw_any (hcf : CFS P cf) (R : Run P cf n ops B t0 H0 TP TE HB HH V X) {Q : Exit → Act → World → Prop}
    (hQ : ∀ e' a' w', e0.le e' → RH P.globals.size F W e' (HH ops.size) w' → TR e' n (TE ops.size) a' → a'.defers = ds → Q .normal a' w') :
    ∀ (fuel : Nat) (listed : Array Bool) (p : Nat) (e : Em) (a : Act) (w : World) (blk : Nat → Nat), listed.size = ops.size →
      Inv P n ops B t0 HB HH V X F W e0 ds (fun j => listed.getD j false = true) p e a w blk → (List.range ops.size).countP (fun j => !(listed.getD j false)) ≤ fuel →
      wpAny P .any ops Q fuel listed a w := by
  have getT : ∀ (listed : Array Bool) (j : Nat), listed.size = ops.size → (listed.getD j true = false ↔ j < ops.size ∧ ¬ listed.getD j false = true) := by
    intro listed j hs
    simp only [Array.getD_eq_getD_getElem?]
    by_cases hj : j < listed.size
    · rw [Array.getElem?_eq_getElem hj]; simp; omega
    · rw [Array.getElem?_eq_none (by omega)]; simp; omega
  have hbnd : ∀ (listed : Array Bool), listed.size = ops.size → ∀ j, listed.getD j false = true → j < ops.size := by
    intro listed hs j hj
    rcases Nat.lt_or_ge j listed.size with q | q
    · omega
    · rw [Array.getD_eq_getD_getElem?, Array.getElem?_eq_none q] at hj; cases hj
  have finish : ∀ (listed : Array Bool) (p : Nat) (e : Em) (a : Act) (w : World) (blk : Nat → Nat), listed.size = ops.size → Inv P n ops B t0 HB HH V X F W e0 ds (fun j => listed.getD j false = true) p e a w blk →
      Region.ready .any ops listed = [] → Q .normal a w := by
    intro listed p e a w blk hs I hrd
    have hall : ∀ j, j < ops.size → listed.getD j false = true := by
      intro j
      induction j using Nat.strongRecOn with
      | _ j ih =>
        intro hj
        by_cases hl : listed.getD j false = true
        · exact hl
        · exfalso
          have : j ∈ Region.ready .any ops listed := by
            rw [mem_ready]
            refine ⟨(getT listed j hs).2 ⟨hj, hl⟩, _, Array.getElem?_eq_getElem hj, fun e he hb => ?_⟩
            have := R.form.back j _ (Array.getElem?_eq_getElem hj) e he hb
            exact ih e.on this (by omega)
          rw [hrd] at this
          cases this
    obtain ⟨e', h1, h2, h3, h4⟩ := I.final R hall (hbnd listed hs)
    exact hQ e' a w h1 h2 h3 h4
  intro fuel
  induction fuel with
  | zero =>
    intro listed p e a w blk hs I hc
    have hrd : Region.ready .any ops listed = [] := by
      cases hq : Region.ready .any ops listed with
      | nil => rfl
      | cons j l =>
        exfalso
        have hm : j ∈ Region.ready .any ops listed := by rw [hq]; exact List.mem_cons_self ..
        rw [mem_ready] at hm
        obtain ⟨h1, h2⟩ := (getT listed j hs).1 hm.1
        have : 0 < (List.range ops.size).countP (fun j => !(listed.getD j false)) := List.countP_pos_iff.2 ⟨j, by simpa using h1, by simpa using h2⟩
        omega
    exact ⟨hrd, finish listed p e a w blk hs I hrd⟩
  | succ fuel ih =>
    intro listed p e a w blk hs I hc
    refine ⟨finish listed p e a w blk hs I, fun i hi => ?_⟩
    rw [mem_ready] at hi
    obtain ⟨h0, o, ho, hed⟩ := hi
    obtain ⟨hlt, hS⟩ := (getT listed i hs).1 h0
    have hr : ∀ j, (B.getD i 0).testBit j = true → listed.getD j false = true := by
      intro j hj
      obtain ⟨ed, h1, h2, h3⟩ := R.form.bit i o ho j hj
      have h4 := hed ed h1 h2
      rcases h3 with h3 | h3
      · rw [h3]; exact h4
      · exact I.down ed.on j h4 h3
    have hset : ∀ j, (listed.setIfInBounds i true).getD j false = true ↔ (listed.getD j false = true ∨ j = i) := by
      intro j
      by_cases hj : j = i
      · subst hj
        simp [Array.getD_eq_getD_getElem?, Array.getElem?_setIfInBounds_self_of_lt (show j < listed.size by omega)]
      · rw [getD_set_ne false (fun q => hj q.symm)]; simp [hj]
    have hcnt : (List.range ops.size).countP (fun j => !((listed.setIfInBounds i true).getD j false)) ≤ fuel := by
      have := countP_lt (p := fun j => !((listed.setIfInBounds i true).getD j false)) (q := fun j => !(listed.getD j false)) (a := i) (by
        intro x hx
        cases hq : listed.getD x false with
        | false => rfl
        | true => have := (hset x).2 (.inl hq); rw [this] at hx; cases hx) (by
        cases hq : listed.getD i false with
        | false => rfl
        | true => exact absurd hq hS) (by rw [(hset i).2 (.inr rfl)]; rfl) (List.range ops.size) (by simpa using hlt)
      omega
    have next : ∀ p' e' a' w' blk', Inv P n ops B t0 HB HH V X F W e0 ds (fun j => listed.getD j false = true ∨ j = i) p' e' a' w' blk' → wpAny P .any ops Q fuel (listed.setIfInBounds i true) a' w' :=
      fun p' e' a' w' blk' I' => ih _ p' e' a' w' blk' (by simpa using hs) (I'.congr fun j => (hset j).symm) hcnt
    obtain ⟨hw, hst⟩ := R.step i o ho
    have hgd : ∀ d, guardT ops o = some d → VR e (((TP i).get d).getD undefA) (a.tmps.getD d undef) := fun d hd => I.read R ho hS hr (by unfold readsT; rw [hd]; simp)
    have hwant := wanted_of (e := e) (a := a) hw hgd
    have hopn : ∀ x ∈ o.op.operands.toList, VR e (ev P.globals.size (TP i) x) (a.eval x) := fun x hx => evc_rel I.rh fun d hd => I.read R ho hS hr (reads_of (hd ▸ hx))
    unfold wpOp
    simp only [ho]
    cases hX : X i with
    | false =>
      rw [hX] at hst hwant
      rw [hwant]
      simp only [Bool.false_eq_true, if_false]
      refine next p e _ w blk (I.quiet R ho hS hr (by rw [hX]; simp) e.le_refl I.rh ?_)
      rw [hst.1]; exact VR.undef
    | true =>
      rw [hX] at hst hwant
      rw [hwant]
      simp only [if_true]
      left
      -- effects that are not listed yet lie behind i, or it is their turn
      have noeff : ∀ j oj, ops[j]? = some oj → X j = true → kd P oj = .eff → p ≤ j → j < i → kd P o = .eff → False := by
        intro j oj h1 h2 h3 h4 h5 h6
        have := hr j (R.d1 i o ho hX h6 j oj h1 h2 (.inl h3) h5)
        have := (I.eff j oj h1 h2 h3).1 this
        omega
      cases hkd : kd P o <;> rw [hkd] at hst
      · -- pure
        obtain ⟨⟨h', hop⟩, _⟩ := hst
        have hop2 := opA_pure hkd hop (HB p)
        have hop3 : opC P cf (TP i) o (HB p) = some (V i, HB p) := by
          unfold opC
          split
          · rename_i f args argT hq
            unfold kd at hkd; rw [hq] at hkd; cases hkd
          · exact hop2
        refine opC_sound hcf I.rh hop3 hopn ?_
        intro e' v' w' he hR hv
        exact next p e' _ w' blk (I.quiet R ho hS hr (fun _ => by rw [hkd]; simp) he hR hv)
      · -- read
        obtain ⟨⟨h', hop⟩, _⟩ := hst
        have hval : ∃ h'', opA P (ev P.globals.size (TP i)) o (HB p) = some (V i, h'') := by
          by_cases hpi : p ≤ i
          · -- the first effect from p on, ahead of i, if there is one
            by_cases hex : ∃ j oj, p ≤ j ∧ j < i ∧ ops[j]? = some oj ∧ X j = true ∧ kd P oj = .eff
            · -- take the least
              have hleast : ∃ j oj, p ≤ j ∧ j < i ∧ ops[j]? = some oj ∧ X j = true ∧ kd P oj = .eff ∧ ∀ j' oj', p ≤ j' → j' < j → ops[j']? = some oj' → X j' = true → kd P oj' ≠ .eff := by
                obtain ⟨j, hj⟩ := hex
                induction j using Nat.strongRecOn with
                | _ j ihj =>
                  obtain ⟨oj, h1, h2, h3, h4, h5⟩ := hj
                  by_cases hm : ∃ j' oj', p ≤ j' ∧ j' < j ∧ ops[j']? = some oj' ∧ X j' = true ∧ kd P oj' = .eff
                  · obtain ⟨j', oj', g1, g2, g3, g4, g5⟩ := hm
                    exact ihj j' g2 ⟨oj', g1, by omega, g3, g4, g5⟩
                  · exact ⟨j, oj, h1, h2, h3, h4, h5, fun j' oj' g1 g2 g3 g4 g5 => hm ⟨j', oj', g1, g2, g3, g4, g5⟩⟩
              obtain ⟨j, oj, h1, h2, h3, h4, h5, h6⟩ := hleast
              have hHB : HB j = HB p := by
                obtain ⟨k, rfl⟩ : ∃ k, j = p + k := ⟨j - p, by omega⟩
                exact R.hb_const p k (by omega) fun j' oj' g1 g2 g3 g4 => h6 j' oj' g1 g2 g3 g4
              rcases R.d3 j oj h3 h4 h5 i o ho hX hkd h2 with q | q
              · exfalso
                have := (I.eff j oj h3 h4 h5).1 (hr j q)
                omega
              · rw [← hHB]; exact q
            · have hHB : HB i = HB p := by
                obtain ⟨k, rfl⟩ : ∃ k, i = p + k := ⟨i - p, by omega⟩
                exact R.hb_const p k (by omega) fun j' oj' g1 g2 g3 g4 g5 => hex ⟨j', oj', g1, g2, g3, g4, g5⟩
              rw [← hHB]; exact ⟨h', hop⟩
          · -- p lies behind i: some effect behind i is done
            have hex : ∃ j oj, i < j ∧ j < p ∧ ops[j]? = some oj ∧ X j = true ∧ kd P oj = .eff ∧ HB (j + 1) = HB p := by
              rcases I.pe with q | ⟨j, oj, q1, q2, q3, q4⟩
              · omega
              · refine ⟨j, oj, ?_, by omega, q2, q3, q4, by rw [q1]⟩
                rcases Nat.lt_or_ge i j with q | q
                · exact q
                · have : i = j := by omega
                  subst this
                  rw [ho] at q2; cases q2
                  rw [hkd] at q4; cases q4
            obtain ⟨j, oj, h1, h2, h3, h4, h5, h6⟩ := hex
            rcases R.d2 j oj h3 h4 h5 i o ho hX hkd h1 with q | q
            · exfalso
              exact hS (I.down j i ((I.eff j oj h3 h4 h5).2 h2) q)
            · rw [← h6]; exact q
        obtain ⟨h'', hop2⟩ := hval
        have hsm := opA_same (.inr hkd) hop2
        subst hsm
        have hop3 : opC P cf (TP i) o (HB p) = some (V i, HB p) := by
          unfold opC
          split
          · rename_i f args argT hq
            unfold kd at hkd; rw [hq] at hkd; cases hkd
          · exact hop2
        refine opC_sound hcf I.rh hop3 hopn ?_
        intro e' v' w' he hR hv
        exact next p e' _ w' blk (I.quiet R ho hS hr (fun _ => by rw [hkd]; simp) he hR hv)
      · -- a new variable
        obtain ⟨hA, _⟩ := hst
        have hpi : p ≤ i := by
          rcases Nat.lt_or_ge i p with q | q
          · exfalso
            rcases I.pe with r | ⟨j, oj, q1, q2, q3, q4⟩
            · omega
            · have hij : i < j := by
                rcases Nat.lt_or_ge i j with q' | q'
                · exact q'
                · have : i = j := by omega
                  subst this
                  rw [ho] at q2; cases q2
                  rw [hkd] at q4; cases q4
              have hSj := (I.eff j oj q2 q3 q4).2 (by omega)
              exact hS (I.down j i hSj (R.d1 j oj q2 q3 q4 i o ho hX (.inr hkd) hij))
          · exact q
        obtain ⟨ob, val, dr, hrun, hrel⟩ := late_run (a := a) (w := w) hkd hA
        have hI := I.late R ho hS hr hX hkd hpi (dr := dr) hrel
        unfold Oper.wp
        rw [hrun]
        exact next p e _ _ _ hI
      · -- an effect
        obtain ⟨hop, _, _, hhb⟩ := hst
        have hpi : p ≤ i := by
          rcases Nat.lt_or_ge i p with q | q
          · exact absurd ((I.eff i o ho hX hkd).2 q) hS
          · exact q
        obtain ⟨k, hk⟩ : ∃ k, i = p + k := ⟨i - p, by omega⟩
        have hlate : ∀ j oj, p ≤ j → j < i → ops[j]? = some oj → X j = true → kd P oj ≠ .eff ∧ (kd P oj = .late → listed.getD j false = true) :=
          fun j oj h1 h2 h3 h4 => ⟨fun h5 => noeff j oj h3 h4 h5 h1 h2 hkd, fun h5 => hr j (R.d1 i o ho hX hkd j oj h3 h4 (.inr h5) h2)⟩
        obtain ⟨e1, he1, hr1, hv1⟩ := I.adopt R k (by omega) (by rw [← hk]; exact hlate)
        rw [← hk] at hr1 hv1
        have hopn1 : ∀ x ∈ o.op.operands.toList, VR e1 (ev P.globals.size (TE i) x) (a.eval x) := by
          intro x hx
          refine evc_rel hr1 fun d hd => ?_
          subst hd
          have hrd := reads_of (ops := ops) hx
          obtain ⟨v1, v2⟩ := R.vals i (Nat.le_of_lt hlt) d
          by_cases hex : ∃ j o', j < i ∧ ops[j]? = some o' ∧ o'.dst = some d
          · obtain ⟨j, o', hj, ho', hd'⟩ := hex
            rw [(v1 j o' hj ho' hd').2, Option.getD_some]
            have hSj : listed.getD j false = true := by
              have := R.form.rd j i o' o d ho' ho hd' (by omega) hrd
              rw [if_pos hj] at this
              exact hr j this
            by_cases hp : Pend P ops X (fun j => listed.getD j false = true) p j
            · obtain ⟨q1, q2, q3, o3, q4, q5⟩ := hp
              rw [ho'] at q4; cases q4
              exact hv1 j o' d q2 hj ho' q3 q5 hd'
            · exact (I.val j o' d ho' hSj hd' hp).mono he1
          · rw [(v2 fun j o' hj ho' hd' => hex ⟨j, o', hj, ho', hd'⟩).2]
            refine (I.val0 d fun j o' ho' hSj hd' => ?_).mono he1
            by_cases hji : j < i
            · exact hex ⟨j, o', hji, ho', hd'⟩
            · by_cases hje : j = i
              · subst hje; exact hS hSj
              · have := R.form.rd j i o' o d ho' ho hd' hje hrd
                rw [if_neg (by omega)] at this
                exact hS (I.down j i hSj this)
        refine opC_sound hcf hr1 hop hopn1 ?_
        intro e' v' w' he hR hv
        exact next (i + 1) e' _ w' blk (I.effect R ho hS hr hX hkd hpi he1 hv1 he hR hv)
end
end Go.Proofs.YtehhgkgeldinkaaGreatDoor.Am
namespace Go.Proofs.YtehhgkgeldinkaaGreatDoor.Am
set_option linter.unusedVariables false
set_option linter.unusedSimpArgs false
section
variable {P : Program} {cf : CF} {F : Nat → Prop} {W : World}
theorem mapUpd_old {ty : TypeId} {x k v : AV} {i : Nat} {H H' : Hp} (h : mapUpd P ty x k v H = some H') (hx : x = .map i) : H'.next = H.next ∧ ∀ j, j ≠ i → H'.h.get j = H.h.get j := by
  subst hx
  have key : ∀ o, H.h.get i ≠ none → (setObj H i o).next = H.next ∧ ∀ j, j ≠ i → (setObj H i o).h.get j = H.h.get j := by
    intro o ho
    refine ⟨rfl, fun j hj => ?_⟩
    unfold setObj
    simp only
    rw [Tr.get_upd _ _ _ _ (by cases hq : H.h.get i with | none => exact absurd hq ho | some _ => rfl), if_neg hj]
  unfold mapUpd at h
  split at h
  · rename_i kt el i' hu hi
    cases hi
    cases hb : chkK P 20 kt k with
    | false => rw [hb] at h; cases h
    | true =>
      rw [hb] at h
      simp only [cond_true] at h
      split at h
      · rename_i es c hg
        have hne : H.h.get i ≠ none := by rw [hg]; simp
        split at h
        · rename_i j m hf
          cases hs : sameK m.key k with
          | false => rw [hs] at h; cases h
          | true => rw [hs] at h; cases h; exact key _ hne
        · cases h; exact key _ hne
        · cases h
      · cases h
  · cases h
theorem seqOps_tm {cf : CF} {n : Nat} {ops : Array Oper} : ∀ (r : List Oper) (t : Tm) (H : Hp) (tF : Tm) (HF : Hp), seqOps P cf n ops r t H = some (tF, HF) → ∀ d, (∀ o ∈ r, o.dst ≠ some d) → tF.get d = t.get d
  | [], t, H, tF, HF, h, d, _ => by cases h; rfl
  | o :: r, t, H, tF, HF, h, d, hd => by
    have h0 := hd o (.head _)
    have hr := fun o' ho' => hd o' (.tail _ ho')
    unfold seqOps at h
    split at h
    · split at h
      · split at h
        · rename_i t1 hp
          rw [seqOps_tm r _ _ _ _ h d hr, putD_get hp d, if_neg h0]
        · cases h
      · cases h
    · split at h
      · rename_i t1 hp
        rw [seqOps_tm r _ _ _ _ h d hr, putD_get hp d, if_neg h0]
      · cases h
    · cases h
/-- old objects stay -/
theorem exOk_old {N : Nat} {ρ : Operand → AV} {o : Oper} {H H' : Hp} {v : AV} (hk : exOk N ρ o = true) (ho : opA P ρ o H = some (v, H')) (hN : N ≤ H.next) : N ≤ H'.next ∧ ∀ i, i < N → H'.h.get i = H.h.get i := by
  unfold exOk at hk
  split at hk
  · rename_i ty hop
    unfold opA at ho
    rw [hop] at ho
    simp only [Option.map_eq_some_iff, Prod.mk.injEq] at ho
    obtain ⟨⟨j, H2⟩, h1, _, rfl⟩ := ho
    obtain ⟨rfl, _, rfl⟩ := alloc_some h1
    refine ⟨by simp only; omega, fun i hi => ?_⟩
    simp only
    rw [show (H.h.put 34 H.next (.map [] 0)).get i = if i = H.next then some (.map [] 0) else H.h.get i from Tr.get_putP _ _ _ _, if_neg (by omega)]
  · rename_i ty m k x hop
    unfold opA at ho
    rw [hop] at ho
    simp only [Option.map_eq_some_iff, Prod.mk.injEq] at ho
    obtain ⟨H2, h1, _, rfl⟩ := ho
    split at hk
    · rename_i j hj
      obtain ⟨h2, h3⟩ := mapUpd_old h1 hj
      have := Nat.le_of_ble_eq_true hk
      exact ⟨by omega, fun i hi => h3 i (by omega)⟩
    · cases hk
  · rename_i ty m k x hop
    unfold opA at ho
    rw [hop] at ho
    simp only [Option.map_eq_some_iff, Prod.mk.injEq] at ho
    obtain ⟨H2, h1, _, rfl⟩ := ho
    split at hk
    · rename_i j hj
      obtain ⟨h2, h3⟩ := mapUpd_old h1 hj
      have := Nat.le_of_ble_eq_true hk
      exact ⟨by omega, fun i hi => h3 i (by omega)⟩
    · cases hk
  · cases hk
theorem opC_of_opA {cf : CF} {t : Tm} {o : Oper} {H : Hp} {r : AV × Hp} (h : opA P (ev P.globals.size t) o H = some r) : opC P cf t o H = some r := by
  unfold opC
  split
  · rename_i f args argT hq
    unfold opA at h
    rw [hq] at h
    cases h
  · exact h
theorem exQuiet_same {ρ : Operand → AV} {o : Oper} {H H' : Hp} {v : AV} (hk : exQuiet P o = true) (h : opA P ρ o H = some (v, H')) : H' = H := by
  unfold exQuiet at hk
  refine opA_same ?_ h
  cases hkd : kd P o <;> rw [hkd] at hk
  · exact .inl rfl
  · exact .inr rfl
  · cases hk
  · cases hk
theorem exVal_get {tF : Tm} {o : Oper} {v : AV} (h : exVal tF o v = true) {d : Tmp} (hd : o.dst = some d) : tF.get d = some v := by
  unfold exVal at h
  rw [hd] at h
  simp only at h
  split at h
  · rename_i x hx
    rw [hx, same_eq h]
  · cases h
theorem exNeed_of {b hm hs : Nat} (h : ∀ j, b.testBit j = true → hm.testBit j = true → hs.testBit j = true) : exNeed b hm hs = true := by
  unfold exNeed
  rw [Nat.beq_eq]
  apply Nat.eq_of_testBit_eq
  intro j
  rw [Nat.testBit_and, Nat.testBit_and]
  cases h1 : b.testBit j <;> cases h2 : hm.testBit j <;> simp
  exact h j h1 h2
theorem exMask_bit : ∀ (z : Zp) (j : Nat), (exMask z).testBit j = true ↔ ∃ x ∈ z, x.1 = j ∧ exHeap x.2.1 = true
  | [], j => by simp [exMask]
  | x :: r, j => by
    rw [exMask]
    have ih := exMask_bit r j
    cases hx : exHeap x.2.1 with
    | false =>
      simp only [cond_false]
      rw [ih]
      constructor
      · rintro ⟨y, h1, h2, h3⟩; exact ⟨y, .tail _ h1, h2, h3⟩
      · rintro ⟨y, h1, h2, h3⟩
        rcases List.mem_cons.1 h1 with rfl | h1
        · rw [hx] at h3; cases h3
        · exact ⟨y, h1, h2, h3⟩
    | true =>
      simp only [cond_true]
      rw [Nat.testBit_or, Bool.or_eq_true, ih, Nat.testBit_two_pow]
      constructor
      · rintro (h | ⟨y, h1, h2, h3⟩)
        · exact ⟨x, .head _, of_decide_eq_true h, hx⟩
        · exact ⟨y, .tail _ h1, h2, h3⟩
      · rintro ⟨y, h1, h2, h3⟩
        rcases List.mem_cons.1 h1 with rfl | h1
        · exact .inl (decide_eq_true h2)
        · exact .inr ⟨y, h1, h2, h3⟩
/-- the mask of the first ones -/
theorem mask_bit (i j : Nat) : (2 ^ i - 1).testBit j = decide (j < i) := Nat.testBit_two_pow_sub_one ..
section
variable {n : Nat} {ops : Array Oper} {e0 : Em} {ds : List Deferred} {Q : Exit → Act → World → Prop}
theorem z_in {i : Nat} {o : Oper} (ho : ops[i]? = some o) : (i, o) ∈ (List.range ops.size).zip ops.toList := by
  have hi : i < ops.size := (Array.getElem?_eq_some_iff.1 ho).1
  apply List.mem_of_getElem? (i := i)
  rw [List.getElem?_zip_eq_some]
  exact ⟨by simp [hi], by simpa using ho⟩
theorem z_at {k : Nat} {x : Nat × Oper} (hk : ((List.range ops.size).zip ops.toList)[k]? = some x) : x.1 = k ∧ ops[k]? = some x.2 := by
  obtain ⟨i, o⟩ := x
  rw [List.getElem?_zip_eq_some] at hk
  obtain ⟨h1, h2⟩ := hk
  obtain ⟨h4, h5⟩ := List.getElem?_eq_some_iff.1 h1
  simp only [List.getElem_range] at h5
  subst h5
  exact ⟨rfl, by simpa using h2⟩
theorem z_out {i : Nat} {o : Oper} (h : (i, o) ∈ (List.range ops.size).zip ops.toList) : ops[i]? = some o := by
  obtain ⟨k, hk⟩ := List.mem_iff_getElem?.1 h
  obtain ⟨h1, h2⟩ := z_at hk
  simp only at h1
  subst h1
  exact h2
theorem listed_getT {listed : Array Bool} {j : Nat} (hs : listed.size = ops.size) (hj : j < ops.size) : listed.getD j true = false ↔ ¬ listed.getD j false = true := by
  simp only [Array.getD_eq_getD_getElem?]
  rw [Array.getElem?_eq_getElem (by omega)]; simp
theorem rdy_of {listed : Array Bool} {s i : Nat} (hs : listed.size = ops.size) (hb : ∀ j, listed.getD j false = true ↔ s.testBit j = true) (hi : i ∈ Region.ready .any ops listed) : ∃ o, ops[i]? = some o ∧ exRdy s (i, o) = true := by
  rw [mem_ready] at hi
  obtain ⟨h0, o, ho, hed⟩ := hi
  have hlt : i < ops.size := (Array.getElem?_eq_some_iff.1 ho).1
  refine ⟨o, ho, ?_⟩
  unfold exRdy
  simp only [Bool.and_eq_true, Bool.not_eq_true', List.all_eq_true, Bool.or_eq_true]
  constructor
  · cases hq : s.testBit i with
    | false => rfl
    | true => exact absurd ((hb i).2 hq) ((listed_getT hs hlt).1 h0)
  · intro ed hed'
    cases hbn : Region.binds .any ed with
    | false => exact .inl rfl
    | true =>
      right
      exact (hb _).1 (hed ed (by simpa using hed') hbn)
theorem of_rdy {listed : Array Bool} {s i : Nat} {o : Oper} (hs : listed.size = ops.size) (hb : ∀ j, listed.getD j false = true ↔ s.testBit j = true) (ho : ops[i]? = some o) (hr : exRdy s (i, o) = true) : i ∈ Region.ready .any ops listed := by
  have hlt : i < ops.size := (Array.getElem?_eq_some_iff.1 ho).1
  unfold exRdy at hr
  simp only [Bool.and_eq_true, Bool.not_eq_true', List.all_eq_true, Bool.or_eq_true] at hr
  rw [mem_ready]
  refine ⟨(listed_getT hs hlt).2 fun q => ?_, o, ho, fun ed h1 h2 => ?_⟩
  · rw [(hb i).1 q] at hr; cases hr.1
  · rcases hr.2 ed (by simpa using h1) with q | q
    · rw [h2] at q; cases q
    · exact (hb _).2 q
theorem listed_set {listed : Array Bool} {s i : Nat} (hs : listed.size = ops.size) (hb : ∀ j, listed.getD j false = true ↔ s.testBit j = true) (hi : i < ops.size) (j : Nat) : (listed.setIfInBounds i true).getD j false = true ↔ (s ||| 2 ^ i).testBit j = true := by
  rw [Nat.testBit_or, Nat.testBit_two_pow]
  by_cases hji : j = i
  · subst hji
    simp [Array.getD_eq_getD_getElem?, Array.getElem?_setIfInBounds_self_of_lt (show j < listed.size by omega)]
  · rw [getD_set_ne false (fun q => hji q.symm)]
    have : decide (i = j) = false := decide_eq_false fun q => hji q.symm
    rw [this, Bool.or_false]
    exact hb j
/-- operations that come one behind the other -/
theorem suf_any {tF : Tm} {HF : Hp} (hQ : ∀ e' a' w', e0.le e' → RH P.globals.size F W e' HF w' → TR e' n tF a' → a'.defers = ds → Q .normal a' w') :
    ∀ (r : List Oper) (i fuel : Nat) (listed : Array Bool) (t : Tm) (H : Hp) (e : Em) (a : Act) (w : World), ops.toList.drop i = r → r.length ≤ fuel → listed.size = ops.size → (∀ j, listed.getD j false = true ↔ (2 ^ i - 1).testBit j = true) → i ≤ ops.size →
      (∀ j o, i ≤ j → ops[j]? = some o → exAt ((List.range ops.size).zip ops.toList) (j, o) = true) → seqOps P (fun _ _ _ => none) n ops r t H = some (tF, HF) → RH P.globals.size F W e H w → TR e n t a → e0.le e → a.defers = ds → wpAny P .any ops Q fuel listed a w
  | [], i, fuel, listed, t, H, e, a, w, hr, hf, hs, hb, hi, hat, hseq, hR, hT, he, hds => by
    cases hseq
    have hil : ops.size ≤ i := by simpa using hr
    have hnil : Region.ready .any ops listed = [] := by
      cases hq : Region.ready .any ops listed with
      | nil => rfl
      | cons j l =>
        exfalso
        obtain ⟨o, ho, hrd⟩ := rdy_of hs hb (by rw [hq]; exact List.mem_cons_self ..)
        have := (Array.getElem?_eq_some_iff.1 ho).1
        unfold exRdy at hrd
        rw [mask_bit, decide_eq_true (by omega)] at hrd
        cases hrd
    cases fuel with
    | zero => exact ⟨hnil, hQ e a w he hR hT hds⟩
    | succ f => exact ⟨fun _ => hQ e a w he hR hT hds, fun j hj => by rw [hnil] at hj; cases hj⟩
  | o :: r, i, 0, listed, t, H, e, a, w, hr, hf, hs, hb, hi, hat, hseq, hR, hT, he, hds => by simp at hf
  | o :: r, i, fuel + 1, listed, t, H, e, a, w, hr, hf, hs, hb, hi, hat, hseq, hR, hT, he, hds => by
    have ho : ops[i]? = some o := by
      have := congrArg (fun l => l[0]?) hr
      simpa [List.getElem?_drop, Array.getElem?_toList] using this
    have hr' : ops.toList.drop (i + 1) = r := by
      have := congrArg List.tail hr
      simpa [List.tail_drop] using this
    have hlt : i < ops.size := (Array.getElem?_eq_some_iff.1 ho).1
    have hati := hat i o (Nat.le_refl _) ho
    unfold exAt at hati
    rw [Bool.and_eq_true, List.all_eq_true] at hati
    obtain ⟨h1, h2⟩ := hati
    have hin := of_rdy hs hb ho h1
    refine ⟨(fun q => by rw [q] at hin; cases hin), fun j hj => ?_⟩
    obtain ⟨oj, hoj, hrj⟩ := rdy_of hs hb hj
    have hji : j = i := by
      rcases Nat.lt_trichotomy j i with q | q | q
      · exfalso
        unfold exRdy at hrj
        rw [mask_bit, decide_eq_true q] at hrj
        cases hrj
      · exact q
      · exfalso
        have := h2 (j, oj) (z_in hoj)
        simp only [hrj] at this
        rw [show Nat.blt i j = true by rw [Nat.blt_eq]; exact q] at this
        cases this
    subst hji
    have hset : ∀ k, (listed.setIfInBounds j true).getD k false = true ↔ (2 ^ (j + 1) - 1).testBit k = true := fun k => by
      rw [listed_set hs hb hlt k, mask_bit, Nat.testBit_or, mask_bit, Nat.testBit_two_pow]
      simp
      omega
    have hwp : ∀ b, wantedA ops o t = some b → Region.wanted o (yielded ops a.tmps) = b := fun b hw => wanted_of (e := e) (a := a) hw fun d _ => hT.val d
    have hcf0 : CFS P (fun _ _ _ => none) := fun g args H v H' h => by cases h
    have next : ∀ t' H' e' v v' w', e.le e' → putD n o.dst v t = some t' → seqOps P (fun _ _ _ => none) n ops r t' H' = some (tF, HF) → RH P.globals.size F W e' H' w' → VR e' v v' → wpAny P .any ops Q fuel (listed.setIfInBounds j true) (a.put o.dst v') w' := by
      intro t' H' e' v v' w' hle hp hxx hR' hv
      exact suf_any hQ r (j + 1) fuel _ t' H' e' _ w' hr' (by simp only [List.length_cons] at hf; omega) (by simpa using hs) hset (by omega) (fun k ok hk hok => hat k ok (by omega) hok) hxx hR' ((hT.mono hle).put hp hv) (Em.le_trans he hle) (by rw [put_defers']; exact hds)
    unfold seqOps at hseq
    unfold wpOp
    simp only [ho]
    split at hseq
    · rename_i hw
      rw [hwp true hw]
      simp only [if_true]
      left
      split at hseq
      · rename_i v H' hop
        split at hseq
        · rename_i t' hp
          exact opC_sound hcf0 hR hop (fun x _ => VR.ev hR hT x) fun e' v' w' hle hR' hv => next t' H' e' v v' w' hle hp hseq hR' hv
        · cases hseq
      · cases hseq
    · rename_i hw
      rw [hwp false hw]
      simp only [Bool.false_eq_true, if_false]
      split at hseq
      · rename_i t' hp
        exact next t' H e undefA undef w e.le_refl hp hseq hR VR.undef
      · cases hseq
    · cases hseq
end
section
variable {n : Nat} {ops : Array Oper} {p N M : Nat} {tF tE : Tm} {H0 HE : Hp} {e0 : Em} {ds : List Deferred} {Q : Exit → Act → World → Prop}
abbrev zz (ops : Array Oper) : Zp := (List.range ops.size).zip (ops.toList.zip (before ops.toList []))
theorem zz_at {i : Nat} {o : Oper} (hf : Form ops (before ops.toList [])) (ho : ops[i]? = some o) : (zz ops)[i]? = some (i, o, (before ops.toList []).getD i 0) := by
  have hi : i < ops.size := (Array.getElem?_eq_some_iff.1 ho).1
  unfold zz
  rw [List.getElem?_zip_eq_some]
  refine ⟨by simp [hi], ?_⟩
  rw [List.getElem?_zip_eq_some]
  refine ⟨by simpa using ho, ?_⟩
  simp only
  rw [List.getD_eq_getElem?_getD, List.getElem?_eq_getElem (by rw [hf.len]; exact hi)]
  rfl
theorem zz_take {i : Nat} {o : Oper} (hf : Form ops (before ops.toList [])) (ho : ops[i]? = some o) (hp : i < p) : (i, o, (before ops.toList []).getD i 0) ∈ (zz ops).take p := by
  apply List.mem_of_getElem? (i := i)
  rw [List.getElem?_take, if_pos hp]
  exact zz_at hf ho
theorem zz_drop {i : Nat} {o : Oper} (hf : Form ops (before ops.toList [])) (ho : ops[i]? = some o) (hp : p ≤ i) : (i, o, (before ops.toList []).getD i 0) ∈ (zz ops).drop p := by
  apply List.mem_of_getElem? (i := i - p)
  rw [List.getElem?_drop, show p + (i - p) = i by omega]
  exact zz_at hf ho
theorem zz_out {x : Nat × Oper × Nat} (h : x ∈ (zz ops).take p) : ops[x.1]? = some x.2.1 ∧ x.1 < p := by
  obtain ⟨k, hk⟩ := List.mem_iff_getElem?.1 h
  rw [List.getElem?_take] at hk
  split at hk
  · rename_i hkp
    obtain ⟨i, o, b⟩ := x
    unfold zz at hk
    rw [List.getElem?_zip_eq_some] at hk
    obtain ⟨h1, h2⟩ := hk
    rw [List.getElem?_zip_eq_some] at h2
    obtain ⟨h4, h5⟩ := List.getElem?_eq_some_iff.1 h1
    simp only [List.getElem_range] at h5
    subst h5
    exact ⟨by simpa using h2.1, hkp⟩
  · cases hk
theorem ex_any (hf : Form ops (before ops.toList [])) (hQ : ∀ e' a' w', e0.le e' → RH P.globals.size F W e' HE w' → TR e' n tE a' → a'.defers = ds → Q .normal a' w') (hlt : ∀ i o, H0.h.get i = some o → i < N) (hp : p ≤ ops.size)
    (hdep : ∀ j o, p ≤ j → ops[j]? = some o → (before ops.toList []).getD j 0 = 2 ^ j - 1)
    (hat : ∀ j o, p ≤ j → ops[j]? = some o → exAt ((List.range ops.size).zip ops.toList) (j, o) = true) (hend : seqOps P (fun _ _ _ => none) n ops (ops.toList.drop p) tF ⟨H0.h, M⟩ = some (tE, HE))
    (hform : exForm ops ((zz ops).take p) = true) (hdst : ∀ i o, i < p → ops[i]? = some o → ∀ d, o.dst = some d → d < n) :
    ∀ (k : Nat) (listed : Array Bool) (f hs : Nat) (H : Hp) (e : Em) (a : Act) (w : World), listed.size = ops.size → (∀ j, listed.getD j false = true → j < p) → (∀ i j, listed.getD i false = true → ((before ops.toList []).getD i 0).testBit j = true → listed.getD j false = true) →
      (List.range p).countP (fun j => !(listed.getD j false)) ≤ k → (∀ j, hs.testBit j = true ↔ (listed.getD j false = true ∧ (exMask ((zz ops).take p)).testBit j = true)) →
      exAll P ops ((zz ops).take p) (exMask ((zz ops).take p)) N M tF f hs H = true → RH P.globals.size F W e H w → n ≤ a.tmps.size →
      (∀ d, (∀ j o, j < p → ops[j]? = some o → o.dst = some d → listed.getD j false = true) → VR e ((tF.get d).getD undefA) (a.tmps.getD d undef)) → e0.le e → a.defers = ds → (∀ i o, H0.h.get i = some o → H.h.get i = some o) → N ≤ H.next → wpAny P .any ops Q (k + (ops.size - p)) listed a w := by
  have hz := fun i o (hi : i < p) (ho : ops[i]? = some o) => zz_take (p := p) hf ho hi
  have hmb : ∀ i o, i < p → ops[i]? = some o → ((exMask ((zz ops).take p)).testBit i = true ↔ exHeap o = true) := by
    intro i o hi ho
    rw [exMask_bit]
    constructor
    · rintro ⟨x, h1, h2, h3⟩
      have := (zz_out h1).1
      rw [h2, ho] at this
      cases this
      exact h3
    · intro h
      exact ⟨_, hz i o hi ho, rfl, h⟩
  have hml : ∀ j, (exMask ((zz ops).take p)).testBit j = true → j < p := by
    intro j h
    rw [exMask_bit] at h
    obtain ⟨x, h1, h2, h3⟩ := h
    have := (zz_out h1).2
    omega
  generalize hmm : exMask ((zz ops).take p) = hm at *
  intro k
  induction k with
  | zero =>
    intro listed f hs H e a w hs' hle hdn hcnt hhs hx hR hsz hT he hds hold hN
    have hall : ∀ j, j < p → listed.getD j false = true := by
      intro j hj
      cases hq : listed.getD j false with
      | true => rfl
      | false =>
        exfalso
        have : 0 < (List.range p).countP (fun j => !(listed.getD j false)) := List.countP_pos_iff.2 ⟨j, by simpa using hj, by rw [hq]; rfl⟩
        omega
    have hbeq : Nat.beq (hm &&& hs) hm = true := by
      rw [Nat.beq_eq]
      apply Nat.eq_of_testBit_eq
      intro j
      rw [Nat.testBit_and]
      cases h1 : hm.testBit j with
      | false => rfl
      | true => rw [(hhs j).2 ⟨hall j (hml j h1), h1⟩]; rfl
    have hM : H.next = M := by
      unfold exAll at hx
      rw [Bool.and_eq_true] at hx
      have := hx.2
      rw [hbeq] at this
      exact Nat.eq_of_beq_eq_true this
    have hRE : RH P.globals.size F W e ⟨H0.h, M⟩ w := ⟨by rw [hR.N]; exact hM, fun i o hi => hR.obj i o (hold i o hi), fun i j oi oj hi hj => hR.inj i j oi oj (hold i oi hi) (hold j oj hj), hR.glob, hR.frame, hR.os, hR.tape, hR.output, hR.size, hR.gsz⟩
    exact suf_any hQ (ops.toList.drop p) p (0 + (ops.size - p)) listed tF _ e a w rfl (by simp) hs' (fun j => by
      rw [mask_bit]
      constructor
      · intro h; exact decide_eq_true (hle j h)
      · intro h; exact hall j (of_decide_eq_true h)) hp hat hend hRE ⟨hsz, fun d => hT d fun j o hj _ _ => hall j hj⟩ he hds
  | succ k ih =>
    intro listed f hs H e a w hs' hle hdn hcnt hhs hx hR hsz hT he hds hold hN
    by_cases hall : ∀ j, j < p → listed.getD j false = true
    · have hbeq : Nat.beq (hm &&& hs) hm = true := by
        rw [Nat.beq_eq]
        apply Nat.eq_of_testBit_eq
        intro j
        rw [Nat.testBit_and]
        cases h1 : hm.testBit j with
        | false => rfl
        | true => rw [(hhs j).2 ⟨hall j (hml j h1), h1⟩]; rfl
      have hM : H.next = M := by
        unfold exAll at hx
        rw [Bool.and_eq_true] at hx
        have := hx.2
        rw [hbeq] at this
        exact Nat.eq_of_beq_eq_true this
      have hRE : RH P.globals.size F W e ⟨H0.h, M⟩ w := ⟨by rw [hR.N]; exact hM, fun i o hi => hR.obj i o (hold i o hi), fun i j oi oj hi hj => hR.inj i j oi oj (hold i oi hi) (hold j oj hj), hR.glob, hR.frame, hR.os, hR.tape, hR.output, hR.size, hR.gsz⟩
      exact suf_any hQ (ops.toList.drop p) p (k + 1 + (ops.size - p)) listed tF _ e a w rfl (by simp) hs' (fun j => by
        rw [mask_bit]
        constructor
        · intro h; exact decide_eq_true (hle j h)
        · intro h; exact hall j (of_decide_eq_true h)) hp hat hend hRE ⟨hsz, fun d => hT d fun j o hj _ _ => hall j hj⟩ he hds
    · rw [show k + 1 + (ops.size - p) = k + (ops.size - p) + 1 by omega]
      constructor
      · intro hrd
        exfalso
        refine hall fun j => ?_
        induction j using Nat.strongRecOn with
        | _ j ihj =>
          intro hj
          by_cases hl : listed.getD j false = true
          · exact hl
          · exfalso
            have hjs : j < ops.size := by omega
            have : j ∈ Region.ready .any ops listed := by
              rw [mem_ready]
              refine ⟨(listed_getT hs' hjs).2 hl, _, Array.getElem?_eq_getElem hjs, fun ed h1 h2 => ?_⟩
              have := hf.back j _ (Array.getElem?_eq_getElem hjs) ed h1 h2
              exact ihj ed.on this (by omega)
            rw [hrd] at this
            cases this
      · intro i hi
        rw [mem_ready] at hi
        obtain ⟨h0, o, ho, hed⟩ := hi
        have hlti : i < ops.size := (Array.getElem?_eq_some_iff.1 ho).1
        have hnd : ¬ listed.getD i false = true := (listed_getT hs' hlti).1 h0
        have hr : ∀ j, ((before ops.toList []).getD i 0).testBit j = true → listed.getD j false = true := by
          intro j hj
          obtain ⟨ed, h1, h2, h3⟩ := hf.bit i o ho j hj
          have h4 := hed ed h1 h2
          rcases h3 with h3 | h3
          · rw [h3]; exact h4
          · exact hdn ed.on j h4 h3
        have hip : i < p := by
          rcases Nat.lt_or_ge i p with q | q
          · exact q
          · exfalso
            refine hall fun j hj => hr j ?_
            rw [hdep i o q ho, mask_bit]
            exact decide_eq_true (by omega)
        have hmem := hz i o hip ho
        have hneed : exNeed ((before ops.toList []).getD i 0) hm hs = true := exNeed_of fun j h1 h2 => (hhs j).2 ⟨hr j h1, h2⟩
        have hset : ∀ j, (listed.setIfInBounds i true).getD j false = true ↔ (listed.getD j false = true ∨ j = i) := by
          intro j
          by_cases hj : j = i
          · subst hj
            simp [Array.getD_eq_getD_getElem?, Array.getElem?_setIfInBounds_self_of_lt (show j < listed.size by omega)]
          · rw [getD_set_ne false (fun q => hj q.symm)]; simp [hj]
        have hcnt' : (List.range p).countP (fun j => !((listed.setIfInBounds i true).getD j false)) ≤ k := by
          have := countP_lt (p := fun j => !((listed.setIfInBounds i true).getD j false)) (q := fun j => !(listed.getD j false)) (a := i) (by
            intro x hx
            cases hq : listed.getD x false with
            | false => rfl
            | true => have := (hset x).2 (.inl hq); rw [this] at hx; cases hx) (by
            cases hq : listed.getD i false with
            | false => rfl
            | true => exact absurd hq hnd) (by rw [(hset i).2 (.inr rfl)]; rfl) (List.range p) (by simpa using hip)
          omega
        have hrd : ∀ d, readsT ops o d = true → VR e ((tF.get d).getD undefA) (a.tmps.getD d undef) := by
          intro d hd
          refine hT d fun j oj hj hoj hdj => hr j ?_
          unfold exForm at hform
          rw [List.all_eq_true] at hform
          have h1 := hform _ hmem
          rw [List.all_eq_true] at h1
          have h2 := h1 _ (hz j oj hj hoj)
          simp only [hdj, hd] at h2
          simpa using h2
        have hopn : ∀ x ∈ o.op.operands.toList, VR e (ev P.globals.size tF x) (a.eval x) := fun x hx => evc_rel hR fun d hd => hrd d (reads_of (hd ▸ hx))
        have hwp : ∀ b, wantedA ops o tF = some b → Region.wanted o (yielded ops a.tmps) = b := fun b hw => wanted_of (e := e) (a := a) hw fun d hd => hrd d (by unfold readsT; rw [hd]; simp)
        have next : ∀ (f' hs2 : Nat) (H' : Hp) (e' : Em) (v : AV) (v' : Value) (w' : World), e.le e' → exVal tF o v = true → (∀ j, hs2.testBit j = true ↔ ((listed.getD j false = true ∨ j = i) ∧ hm.testBit j = true)) → exAll P ops ((zz ops).take p) hm N M tF f' hs2 H' = true → RH P.globals.size F W e' H' w' → VR e' v v' →
            (∀ i o, H0.h.get i = some o → H'.h.get i = some o) → N ≤ H'.next → wpAny P .any ops Q (k + (ops.size - p)) (listed.setIfInBounds i true) (a.put o.dst v') w' := by
          intro f' hs2 H' e' v v' w' hle' hval hhs' hxx hR' hv hold' hN'
          have hget := fun d => put_get (a := a) (dst := o.dst) (v := v') hsz (fun d hd => hdst i o hip ho d hd) d
          refine ih _ f' hs2 H' e' _ w' (by simpa using hs') (fun j hj => ((hset j).1 hj).elim (hle j) fun q => by omega) (fun i' j h1 h2 => ?_) hcnt' (fun j => by rw [hhs' j, hset j]) hxx hR' (by rw [put_size]; exact hsz) (fun d hd => ?_) (Em.le_trans he hle') (by rw [put_defers']; exact hds) hold' hN'
          · rcases (hset i').1 h1 with q | q
            · exact (hset j).2 (.inl (hdn i' j q h2))
            · subst q; exact (hset j).2 (.inl (hr j h2))
          · rw [hget d]
            by_cases hod : o.dst = some d
            · rw [if_pos hod, exVal_get hval hod]; exact hv
            · rw [if_neg hod]
              refine (hT d fun j oj hj hoj hdj => ?_).mono hle'
              rcases (hset j).1 (hd j oj hj hoj hdj) with q | q
              · exact q
              · subst q
                rw [ho] at hoj
                cases hoj
                exact absurd hdj hod
        have hcf0 : CFS P (fun _ _ _ => none) := fun g args H v H' h => by cases h
        have hx0 := hx
        unfold exAll at hx
        rw [Bool.and_eq_true, List.all_eq_true] at hx
        obtain ⟨hq1, hq2⟩ := hx
        unfold wpOp
        simp only [ho]
        cases hex : exHeap o with
        | false =>
          have hmi : ¬ hm.testBit i = true := fun q => by rw [(hmb i o hip ho).1 q] at hex; cases hex
          have hsame : ∀ j, hs.testBit j = true ↔ ((listed.getD j false = true ∨ j = i) ∧ hm.testBit j = true) := fun j => by
            rw [hhs j]
            constructor
            · rintro ⟨h1, h2⟩; exact ⟨.inl h1, h2⟩
            · rintro ⟨h1, h2⟩
              rcases h1 with h1 | h1
              · exact ⟨h1, h2⟩
              · subst h1; exact absurd h2 hmi
          have h1 := hq1 _ hmem
          simp only [hex, hneed, Bool.false_or, Bool.not_true] at h1
          cases hw : wantedA ops o tF with
          | none => rw [hw] at h1; cases h1
          | some b =>
            rw [hw] at h1
            rw [hwp b hw]
            cases b with
            | false =>
              simp only [Bool.false_eq_true, if_false]
              exact next f hs H e undefA undef w e.le_refl h1 hsame hx0 hR VR.undef hold hN
            | true =>
              simp only [if_true]
              left
              simp only [Bool.and_eq_true] at h1
              obtain ⟨hk, h1⟩ := h1
              split at h1
              · rename_i v H' hop
                have hHH := exQuiet_same hk hop
                subst hHH
                exact opC_sound hcf0 hR (opC_of_opA hop) hopn fun e' v' w' hle' hR' hv => next f hs _ e' v v' w' hle' h1 hsame hx0 hR' hv hold hN
              · cases h1
        | true =>
          have hmi : hm.testBit i = true := (hmb i o hip ho).2 hex
          have hsi : hs.testBit i = false := by
            cases hq : hs.testBit i with
            | false => rfl
            | true => exact absurd ((hhs i).1 hq).1 hnd
          have hne : Nat.beq (hm &&& hs) hm = false := by
            cases hq : Nat.beq (hm &&& hs) hm with
            | false => rfl
            | true =>
              have := congrArg (fun z => z.testBit i) (Nat.eq_of_beq_eq_true hq)
              simp only [Nat.testBit_and, hmi, hsi, Bool.and_false] at this
              cases this
          rw [hne] at hq2
          simp only [cond_false] at hq2
          cases f with
          | zero => cases hq2
          | succ f =>
            simp only [List.all_eq_true] at hq2
            have h1 := hq2 _ hmem
            simp only [hex, hsi, hneed, Bool.false_or, Bool.not_true] at h1
            have hsame : ∀ j, (hs ||| 2 ^ i).testBit j = true ↔ ((listed.getD j false = true ∨ j = i) ∧ hm.testBit j = true) := fun j => by
              rw [Nat.testBit_or, Bool.or_eq_true, hhs j, Nat.testBit_two_pow]
              constructor
              · rintro (⟨h1, h2⟩ | h1)
                · exact ⟨.inl h1, h2⟩
                · have := of_decide_eq_true h1
                  subst this
                  exact ⟨.inr rfl, hmi⟩
              · rintro ⟨h1 | h1, h2⟩
                · exact .inl ⟨h1, h2⟩
                · exact .inr (decide_eq_true h1.symm)
            cases hw : wantedA ops o tF with
            | none => rw [hw] at h1; cases h1
            | some b =>
              rw [hw] at h1
              rw [hwp b hw]
              cases b with
              | false =>
                simp only [Bool.false_eq_true, if_false]
                simp only [Bool.and_eq_true] at h1
                exact next f _ H e undefA undef w e.le_refl h1.1 hsame h1.2 hR VR.undef hold hN
              | true =>
                simp only [if_true]
                left
                simp only [Bool.and_eq_true] at h1
                obtain ⟨hk, h1⟩ := h1
                split at h1
                · rename_i v H' hop
                  simp only [Bool.and_eq_true] at h1
                  obtain ⟨g1, g2⟩ := exOk_old hk hop hN
                  refine opC_sound hcf0 hR (opC_of_opA hop) hopn fun e' v' w' hle' hR' hv => next f _ H' e' v v' w' hle' h1.1 hsame h1.2 hR' hv (fun i o hi => ?_) g1
                  rw [g2 i (hlt i o hi)]
                  exact hold i o hi
                · cases h1
end
theorem exP_le : ∀ (z : Zp) (m : Nat), (∀ x ∈ z, x.1 ≤ m) → exP z m ≤ m
  | [], m, _ => Nat.le_refl _
  | x :: r, m, h => by
    rw [exP]
    cases (x :: r).all exDep with
    | true => exact h x (.head _)
    | false => exact exP_le r m fun y hy => h y (.tail _ hy)
theorem exOps_sound (hm : P.follows .mixedOrders = true) {ops : Array Oper} {n id : Nat} {t t' : Tm} {H H' : Hp} {e : Em} {w : World} {a : Act} {Q : Exit → Act → World → Prop} (hd : exOps P n ops t H = some (t', H')) (hR : RH P.globals.size F W e H w) (hT : TR e n t a)
    (hQ : ∀ e' a' w', e.le e' → RH P.globals.size F W e' H' w' → TR e' n t' a' → a'.defers = a.defers → Q .normal a' w') : (Code.region id ops true).wp P Q a w := by
  unfold exOps at hd
  simp only at hd
  generalize hp : exP ((List.range ops.size).zip (ops.toList.zip (before ops.toList []))) ops.size = p at hd
  split at hd
  · rename_i tF HF hseq
    rw [Bool.cond_eq_ite] at hd
    split at hd
    · rename_i hc
      simp only [Bool.and_eq_true] at hc
      obtain ⟨⟨⟨⟨⟨⟨c1, c2⟩, c3⟩, c4⟩, c5⟩, c6⟩, c7⟩ := hc
      have hf := form_of c1
      have hple : p ≤ ops.size := Nat.le_of_ble_eq_true c2
      have hlf : ∀ j, (Array.replicate ops.size false).getD j false = true → False := by
        intro j hj
        rw [Array.getD_eq_getD_getElem?, Array.getElem?_replicate] at hj
        split at hj <;> simp at hj
      refine wp_region_any hm ?_
      have := ex_any (H0 := H) (e0 := e) (ds := a.defers) hf hQ (fun i o hi => by have := (hR.obj i o hi).1; rw [hR.N] at this; exact this) hple (fun j o hj ho => by
          have := List.all_eq_true.1 c3 _ (zz_drop hf ho hj)
          exact Nat.eq_of_beq_eq_true this) (fun j o hj ho => List.all_eq_true.1 c4 (j, o) (by
          apply List.mem_of_getElem? (i := j - p)
          rw [List.getElem?_drop, show p + (j - p) = j by omega, List.getElem?_zip_eq_some]
          have hi : j < ops.size := (Array.getElem?_eq_some_iff.1 ho).1
          exact ⟨by simp [hi], by simpa using ho⟩)) hd c5 (fun i o hi ho d hod => by
          have := List.all_eq_true.1 c6 _ (zz_take hf ho hi)
          simp only [hod, Bool.and_eq_true, Nat.blt_eq] at this
          exact this.1) p (Array.replicate ops.size false) p 0 H e a { w with drawn := w.drawn + 1 } (by simp) (fun j hj => (hlf j hj).elim) (fun i j hi => (hlf i hi).elim) (by
          have := List.countP_le_length (p := fun j => !((Array.replicate ops.size false).getD j false)) (l := List.range p)
          simpa using this) (fun j => ⟨fun h => by simp at h, fun h => (hlf j h.1).elim⟩) c7 (hR.drawn _) hT.size (fun d hdd => by
          rw [seqOps_tm _ _ _ _ _ hseq d fun o ho hod => ?_]
          · exact hT.val d
          · obtain ⟨j, hj⟩ := List.mem_iff_getElem?.1 ho
            rw [List.getElem?_take] at hj
            split at hj
            · rename_i hjp
              exact hlf j (hdd j o hjp (by simpa using hj) hod)
            · cases hj) e.le_refl rfl (fun i o h => h) (Nat.le_refl _)
      rwa [show p + (ops.size - p) = ops.size by omega] at this
    · cases hd
  · cases hd
end
end Go.Proofs.YtehhgkgeldinkaaGreatDoor.Am
namespace Go.Proofs.YtehhgkgeldinkaaGreatDoor.Am
set_option linter.unusedVariables false
set_option linter.unusedSimpArgs false

section
variable {P : Program} {cf : CF} {F : Nat → Prop} {W : World} {e : Em} {H : Hp} {w : World}

theorem readAt_some {s : Stp} {H : Hp} (h : readAt P s H = true) : ∃ h', opA P (ev P.globals.size s.t) s.o H = some (s.v, h') := by
  unfold readAt at h
  split at h
  · rename_i v' h' hv
    rw [same_eq h]
    exact ⟨h', hv⟩
  · cases h

theorem drawOps_sound (hm : P.follows .mixedOrders = true) (hcf : CFS P cf) {ops : Array Oper} {n id : Nat} {t t' : Tm} {H' : Hp} {a : Act} {Q : Exit → Act → World → Prop} (hd : drawOps P cf n ops t H = some (t', H')) (hR : RH P.globals.size F W e H w) (hT : TR e n t a)
    (hQ : ∀ e' a' w', e.le e' → RH P.globals.size F W e' H' w' → TR e' n t' a' → a'.defers = a.defers → Q .normal a' w') : (Code.region id ops true).wp P Q a w := by
  unfold drawOps at hd
  cases hrg : regOk ops with
  | false => rw [hrg] at hd; cases hd
  | true =>
  rw [hrg] at hd
  simp only [cond_true] at hd
  split at hd
  · rename_i l tF HF hrun
    cases hdyn : dynOk P l with
    | false => rw [hdyn] at hd; cases hd
    | true =>
    rw [hdyn] at hd
    cases hd
    have hform := form_of hrg
    obtain ⟨TP, TE, HB, HH, V, X, q1, q2, q3, q4, q5, q6, q7⟩ := drawRun_trace (B := before ops.toList []) ops.toList (before ops.toList []) 0 t t H H l (by simp) (by simp) hrun
    rw [Nat.zero_add, Array.length_toList] at q5 q6
    unfold dynOk at hdyn
    rw [List.all_eq_true] at hdyn
    have pair : ∀ i oi, ops[i]? = some oi → X i = true → kd P oi = .eff → ∀ j oj, ops[j]? = some oj → X j = true →
        ((kd P oj = .eff ∨ kd P oj = .late) → (!(Nat.blt j i) || ((before ops.toList []).getD i 0).testBit j) = true) ∧
        (kd P oj = .read → (bif Nat.blt j i then ((before ops.toList []).getD i 0).testBit j || readAt P ⟨j, oj, (before ops.toList []).getD j 0, X j, kk P (X j) oj, V j, TP j, HB j, HB (j + 1)⟩ (HB (i + 1)) else
          ((before ops.toList []).getD j 0).testBit i || readAt P ⟨j, oj, (before ops.toList []).getD j 0, X j, kk P (X j) oj, V j, TP j, HB j, HB (j + 1)⟩ (HB i)) = true) := by
      intro i oi hi hx hk j oj hj hxj
      have h1 := hdyn _ (q7 i oi (Nat.zero_le _) hi).2
      simp only [kk, hx, if_true, hk, List.all_eq_true] at h1
      have h2 := h1 _ (q7 j oj (Nat.zero_le _) hj).2
      simp only [kk, hxj, if_true] at h2 ⊢
      constructor
      · intro hkj
        rcases hkj with hkj | hkj <;> (rw [hkj] at h2; exact h2)
      · intro hkj
        rw [hkj] at h2 ⊢
        exact h2
    have hRun : Run P cf n ops (before ops.toList []) t H TP TE HB HH V X := by
      refine ⟨hform, q1, q2, q3, q4, fun j o ho => (q7 j o (Nat.zero_le _) ho).1, ?_, ?_, ?_⟩
      · intro i oi hi hx hk j oj hj hxj hkj hlt
        have := (pair i oi hi hx hk j oj hj hxj).1 hkj
        have hb : Nat.blt j i = true := by rw [Nat.blt_eq]; exact hlt
        rw [hb] at this
        simpa using this
      · intro i oi hi hx hk j oj hj hxj hkj hlt
        have := (pair i oi hi hx hk j oj hj hxj).2 hkj
        have hb : Nat.blt j i = true := by rw [Nat.blt_eq]; exact hlt
        rw [hb] at this
        simp only [cond_true, Bool.or_eq_true] at this
        exact this.imp (fun q => q) readAt_some
      · intro i oi hi hx hk j oj hj hxj hkj hlt
        have := (pair i oi hi hx hk j oj hj hxj).2 hkj
        have hb : Nat.blt j i = false := by
          cases hb : Nat.blt j i
          · rfl
          · rw [Nat.blt_eq] at hb; omega
        rw [hb] at this
        simp only [cond_false, Bool.or_eq_true] at this
        exact this.imp (fun q => q) readAt_some
    refine wp_region_any hm ?_
    have hlf : ∀ j, (Array.replicate ops.size false).getD j false = true → False := by
      intro j hj
      rw [Array.getD_eq_getD_getElem?, Array.getElem?_replicate] at hj
      split at hj <;> simp at hj
    have hR1 := (hR.drawn (w.drawn + 1))
    refine draw_any (F := F) (W := W) (e0 := e) (ds := a.defers) hcf hRun (by rw [q5, q6]; exact hQ) ops.size (Array.replicate ops.size false) 0 e a { w with drawn := w.drawn + 1 } (fun _ => 0) (by simp) ?_ (by
      have := List.countP_le_length (p := fun j => !((Array.replicate ops.size false).getD j false)) (l := List.range ops.size)
      simpa using this)
    refine ⟨Nat.zero_le _, by rw [q3, q4], .inl rfl, fun i j h => (hlf i h).elim, fun i o _ _ _ => ⟨fun h => (hlf i h).elim, fun h => by omega⟩, ?_, fun k hk => (hR1.frame k hk).2, hR.os, hR.tape, hR.output, hR.size,
      fun j hj => (hlf j hj.1).elim, fun i j hi => (hlf i hi.1).elim, fun j o d _ h => (hlf j h).elim, fun d _ => hT.val d, hT.size, e.le_refl, rfl⟩
    rw [q3]
    refine (hR1.weaken fun k hk => ?_).rebase
    rcases hk with hk | ⟨j, hj, _⟩
    · exact hk
    · exact (hlf j hj.1).elim
  · cases hd

theorem drawX_sound (hm : P.follows .mixedOrders = true) (hcf : CFS P cf) {ops : Array Oper} {n id : Nat} {t t' : Tm} {H' : Hp} {a : Act} {Q : Exit → Act → World → Prop} (hd : drawX P cf n ops t H = some (t', H')) (hR : RH P.globals.size F W e H w) (hT : TR e n t a)
    (hQ : ∀ e' a' w', e.le e' → RH P.globals.size F W e' H' w' → TR e' n t' a' → a'.defers = a.defers → Q .normal a' w') : (Code.region id ops true).wp P Q a w := by
  unfold drawX at hd
  split at hd
  · rename_i r hr
    cases hd
    exact drawOps_sound hm hcf hr hR hT hQ
  · exact exOps_sound hm hd hR hT hQ

/-- a loop, from its body on -/
def WpL (P : Program) (c : Code) (Q : Exit → Act → World → Prop) (a : Act) (w : World) : Prop :=
  ∀ (b : Frame) (k : List Item) (cs : List Frame), ∃ e a' w', Q e a' w' ∧ Arrives P (lone (b.at a (.code c :: .inLoop c :: k)) cs w) b k cs e a' w'

theorem wp_loop_of {c : Code} {Q : Exit → Act → World → Prop} {a : Act} {w : World} (h : WpL P c Q a w) : (Code.loop c).wp P Q a w :=
  fun b k cs => let ⟨e, a', w', q, r⟩ := h b k cs; ⟨e, a', w', q, .of_steps (.one step_loop) r⟩

theorem wpL_of {c : Code} {Q : Exit → Act → World → Prop} {a : Act} {w : World} (h : c.wp P (Exit.then (WpL P c Q) Q) a w) : WpL P c Q a w := by
  intro b k cs
  obtain ⟨e, a₁, w₁, hq, harr⟩ := h b (.inLoop c :: k) cs
  cases e with
  | normal =>
    obtain ⟨e₂, a₂, w₂, hq₂, harr₂⟩ := hq b k cs
    exact ⟨e₂, a₂, w₂, hq₂, .of_steps (Steps.trans harr (.one step_inLoop)) harr₂⟩
  | exit id => exact ⟨_, a₁, w₁, hq, .pass (x := .inLoop c) rfl (fun _ _ => .inl (by simp)) harr⟩
  | goto l => exact ⟨_, a₁, w₁, hq, .pass (x := .inLoop c) rfl (fun _ _ => .inl (by simp)) harr⟩
  | ret => exact ⟨_, a₁, w₁, hq, .pass (x := .inLoop c) rfl (fun _ _ => .inl (by simp)) harr⟩
  | panic ch => exact ⟨_, a₁, w₁, hq, .pass (x := .inLoop c) rfl (fun _ _ => .inl (by simp)) harr⟩
  | outgrown => exact ⟨_, a₁, w₁, hq, .pass (x := .inLoop c) rfl (fun _ _ => .inl (by simp)) harr⟩

def xit : X → Exit
  | .normal => .normal
  | .exit i => .exit i
  | .ret => .ret

def COK (P : Program) (run : Nat → Code → Tm → Hp → Option (X × Tm × Hp)) : Prop :=
  ∀ (n : Nat) (c : Code) (t : Tm) (H : Hp) (x : X) (t' : Tm) (H' : Hp), run n c t H = some (x, t', H') →
    ∀ (F : Nat → Prop) (W : World) (e : Em) (a : Act) (w : World) (Q : Exit → Act → World → Prop), RH P.globals.size F W e H w → TR e n t a →
      (∀ e' a' w', e.le e' → RH P.globals.size F W e' H' w' → TR e' n t' a' → a'.defers = a.defers → Q (xit x) a' w') →
      c.wp P Q a w ∧ ∀ b, c = .loop b → WpL P b Q a w

theorem sound_loadVar (h : RH P.globals.size F W e H w) {t : TypeId} {a v : AV} {a' : Value} (ha : VR e a a') (hl : loadV P H t a = some v) :
    ∃ ad v', a' = .pointer (some ad) ∧ (loadVar t ad).run P w = .ok v' w ∧ VR e v v' := by
  obtain ⟨v', h1, h2⟩ := sound_load h ha hl
  unfold loadV at hl
  split at hl
  · obtain ⟨o, hi, ho, rfl⟩ := ha.ptr_inv
    refine ⟨_, v', rfl, ?_, h2⟩
    simpa [Instr.loadAt, Instr.sureAddr] using h1
  · cases hl

theorem sound_res (h : RH P.globals.size F W e H w) {n : Nat} {t : Tm} {a : Act} (ht : TR e n t a) : ∀ (l : List ResultVar) (vs : List AV), resA P t H l = some vs →
    ∃ ws, (l.mapM (fun (r : ResultVar) => match r with | .tmp t => (Pure.pure (a.tmps.getD t undef) : Sem Value) | .cell ad ty => do loadVar ty (← asAddr (a.tmps.getD ad undef)))).run P w = .ok ws w ∧ VRL e vs ws
  | [], vs, hr => by cases hr; exact ⟨[], by simp, .nil e⟩
  | .tmp x :: l, vs, hr => by
    unfold resA at hr
    split at hr
    · rename_i l' hl'
      cases hr
      obtain ⟨ws, h1, h2⟩ := sound_res h ht l l' hl'
      exact ⟨a.tmps.getD x undef :: ws, by rw [List.mapM_cons, Sem.run_bind, Sem.run_pure, Result.andThen_ok, Sem.run_bind, h1]; rfl, .cons (ht.val x) h2⟩
    · cases hr
  | .cell ad ty :: l, vs, hr => by
    unfold resA at hr
    split at hr
    · rename_i v l' hv hl'
      cases hr
      obtain ⟨ws, h1, h2⟩ := sound_res h ht l l' hl'
      obtain ⟨p, v', h3, h4, h5⟩ := sound_loadVar h (ht.val ad) hv
      refine ⟨v' :: ws, ?_, .cons h5 h2⟩
      rw [List.mapM_cons, Sem.run_bind]
      have : (do loadVar ty (← asAddr (a.tmps.getD ad undef)) : Sem Value).run P w = .ok v' w := by
        rw [h3]; simp [asAddr, h4]
      rw [this, Result.andThen_ok, Sem.run_bind, h1]
      rfl
    · cases hr

theorem sound_results (h : RH P.globals.size F W e H w) {n : Nat} {t : Tm} {a : Act} (ht : TR e n t a) {fn : Func} {vs : List AV} (hr : resA P t H fn.results.toList = some vs) :
    ∃ v, (results fn a.tmps).run P w = .ok v w ∧ VR e (tup vs) v := by
  obtain ⟨ws, h1, h2⟩ := sound_res h ht _ _ hr
  have hm : (fn.results.mapM (fun (r : ResultVar) => match r with | .tmp t => (Pure.pure (a.tmps.getD t undef) : Sem Value) | .cell ad ty => do loadVar ty (← asAddr (a.tmps.getD ad undef)))).run P w = .ok ws.toArray w := by
    rw [← Array.toArray_toList (xs := fn.results), List.mapM_toArray, Sem.run_map, h1]; rfl
  unfold results
  have hm' : (fn.results.mapM fun
    | .tmp t => Pure.pure (a.tmps.getD t undef)
    | .cell ad t => do loadVar t (← asAddr (a.tmps.getD ad undef)) : Sem (Array Value)).run P w = .ok ws.toArray w := hm
  refine ⟨(if h : ws.toArray.size = 1 then ws.toArray[0] else .tuple ws.toArray), ?_, ?_⟩
  · rw [Sem.run_bind]
    exact Eq.trans (congrArg (fun r : Result (Array Value) => r.andThen (fun vs w' => (Pure.pure (if h : vs.size = 1 then vs[0] else .tuple vs) : Sem Value).run P w')) hm') rfl
  · cases vs with
    | nil => rw [h2.nil_inv]; exact .tuple' (.nil e)
    | cons v r =>
      obtain ⟨v', ws', rfl, hv, hr'⟩ := h2.cons_inv
      cases r with
      | nil => rw [hr'.nil_inv]; exact hv
      | cons v2 r2 =>
        obtain ⟨v2', ws2, rfl, hv2, hr2⟩ := hr'.cons_inv
        have : ¬ (v' :: v2' :: ws2).toArray.size = 1 := by simp
        rw [dif_neg this]
        exact .tuple' h2

def extRow : Ext → Array Value → Sem Value
  | .same => Extern.AbiNoEscape.same
  | .noZero t => Extern.BytealgMakeNoZero.makeNoZero #[] #[t]
  | .idxByte => Extern.BytealgIndexByte.indexByte
  | .count => Extern.BytealgCount.count

/-- the functions without a body are what the table says -/
def ExtOK (P : Program) (ext : Nat → Option Ext) : Prop :=
  ∀ fid k, ext fid = some k → ∀ (as' : Array Value) (w : World), (callFunc fid as').run P w = (do Pure.pure (Next.value (← extRow k as')) : Sem Next).run P w

/-- the functions that are taken by a contract -/
def PrimOK (P : Program) (prim : Nat → Option Prim) : Prop :=
  ∀ fid p, prim fid = some p → ∀ (args : List AV) (H : Hp) (v : AV) (H' : Hp), p args H = some (v, H') →
    ∀ (F : Nat → Prop) (W : World) (e : Em) (w : World) (as' : Array Value), RH P.globals.size F W e H w → VRL e args as'.toList →
      (callFunc fid as').run P w = .ok (.enter fid as') w ∧ Calls P fid as' w (CallPost P.globals.size F W e v H')

/-- no function with a body bears the name that the model answers by itself -/
def NamesOK (P : Program) : Prop := (P.funcs.toList.all fun fn => fn.body.isNone || fn.name != "runtime.NumGoroutine") = true

theorem run_enter (hN : NamesOK P) {fid : Nat} {fn : Func} {b : Code} (hf : P.funcs[fid]? = some fn) (hb : fn.body = some b) (as' : Array Value) (w : World) : (callFunc fid as').run P w = .ok (.enter fid as') w := by
  have hn : (fn.name == "runtime.NumGoroutine") = false := by
    unfold NamesOK at hN
    rw [List.all_eq_true] at hN
    have := hN fn (by have := Array.mem_of_getElem? hf; simpa using this)
    rw [hb] at this
    simp at this
    simp [this]
  unfold callFunc
  rw [Sem.run_bind, run_program, Result.andThen_ok]
  simp only [hf, hn, Bool.false_eq_true, if_false, hb, Option.isNone_some]
  rfl

theorem digits_size : ∀ (n t : Nat) (acc : Array Value), (Extern.BytealgMakeNoZero.digits n t acc).size = acc.size + n
  | 0, t, acc => rfl
  | n + 1, t, acc => by rw [Extern.BytealgMakeNoZero.digits, digits_size n]; simp; omega

theorem idxB_find (c : UInt8) : ∀ (l : List UInt8) (k : Nat) (q : Nat → Bool), (∀ (j : Nat) (h : j < l.length), q (k + j) = (l[j] == c)) → (List.range' k l.length).find? q = idxB c.toNat (l.map (·.toNat)) k
  | [], k, q, _ => rfl
  | b :: l, k, q, h => by
    have h0 := h 0 (by simp)
    simp only [Nat.add_zero, List.getElem_cons_zero] at h0
    have e : (b == c) = Nat.beq b.toNat c.toNat := by
      rw [Bool.eq_iff_iff, Nat.beq_eq]
      simp [UInt8.toNat_inj]
    rw [List.length_cons, List.range'_succ, List.find?_cons, h0, List.map_cons, idxB, e]
    cases Nat.beq b.toNat c.toNat with
    | true => rfl
    | false =>
      simp only [cond_false]
      refine idxB_find c l (k + 1) q (fun j hj => ?_)
      have := h (j + 1) (by simp; omega)
      rw [show k + 1 + j = k + (j + 1) by omega, this, List.getElem_cons_succ]

theorem cntB_eq (c : UInt8) : ∀ l : List UInt8, Lib.countByte l c = cntB c.toNat (l.map (·.toNat))
  | [] => rfl
  | b :: l => by
    have e : (b == c) = Nat.beq b.toNat c.toNat := by
      rw [Bool.eq_iff_iff, Nat.beq_eq]
      simp [UInt8.toNat_inj]
    have ih := cntB_eq c l
    unfold Lib.countByte at ih ⊢
    rw [List.count_cons, List.map_cons, cntB, e, ih]
    cases Nat.beq b.toNat c.toNat <;> rfl

theorem firstIdx_eq (s : ByteArray) (c : UInt8) : firstIdx s c = (match idxB c.toNat (bytes s) 0 with | some i => (i : Int) | none => -1) := by
  have hs : s.size = s.data.toList.length := (Array.length_toList).symm
  have h := idxB_find c s.data.toList 0 (fun i => s[i]! == c) (fun j hj => by
    have hj' : j < s.size := by rw [hs]; exact hj
    simp only [Nat.zero_add]
    rw [getElem!_pos s j hj']
    have e : s[j] = s.data.toList[j] := by rw [Array.getElem_toList]; rfl
    rw [e])
  unfold firstIdx
  rw [List.range_eq_range', hs, h]
  rfl

theorem sound_ext (h : RH P.globals.size F W e H w) {k : Ext} {args : List AV} {as' : Array Value} {v : AV} {H' : Hp} (ha : VRL e args as'.toList) (hx : extA P k args H = some (v, H')) :
    ∃ v' w' e', (extRow k as').run P w = .ok v' w' ∧ e.le e' ∧ RH P.globals.size F W e' H' w' ∧ VR e' v v' := by
  unfold extA at hx
  split at hx
  · cases hx
    obtain ⟨x', r, h1, h2, h3⟩ := ha.cons_inv
    rw [h3.nil_inv] at h1
    obtain rfl : as' = #[x'] := Array.toList_inj.1 h1
    exact ⟨x', w, e, rfl, e.le_refl, h, h2⟩
  · rename_i t n
    obtain ⟨x', r, h1, h2, h3⟩ := ha.cons_inv
    rw [h3.nil_inv] at h1
    obtain rfl : as' = #[x'] := Array.toList_inj.1 h1
    cases h2.int_inv
    split at hx
    · rename_i el hu
      split at hx
      · rename_i hn
        simp only [Option.map_eq_some_iff, Prod.mk.injEq] at hx
        obtain ⟨⟨i, H2⟩, hnc, rfl, rfl⟩ := hx
        let w1 : World := { w with drawn := w.drawn + 1 }
        let cap := (Question.appendCap n.toNat 0 el).cut (w.tape w.drawn (.appendCap n.toNat 0 el))
        have hcap : n.toNat ≤ cap := Nat.le_add_right _ _
        let bs := (Question.extern "internal/bytealg.MakeNoZero.bytes" 0).cut (w1.tape w1.drawn (.extern "internal/bytealg.MakeNoZero.bytes" 0))
        let row := (Extern.BytealgMakeNoZero.digits cap bs #[])
        have hrow : row.size = cap := by rw [digits_size]; simp
        have hl : VRL e (List.replicate n.toNat AV.junk) (row.toList.take n.toNat) := by
          refine ⟨by simp [hrow]; omega, fun j a b hj hb => ?_⟩
          rw [List.getElem?_replicate] at hj
          split at hj
          · cases hj; exact .junk _
          · cases hj
        obtain ⟨e', he, g1, g2, g3, g4, hrh⟩ := ((h.drawn (w.drawn + 1)).drawn (w.drawn + 1 + 1)).newRow (rest := row.toList.drop n.toNat) (fz := (0, 0)) hnc hl (fun _ => rfl) (by simp)
        have hback : (row.toList.take n.toNat ++ row.toList.drop n.toNat).toArray = row := by rw [List.take_append_drop]
        have hlen : (row.toList.take n.toNat ++ row.toList.drop n.toNat).length = cap := by rw [List.take_append_drop]; simp [hrow]
        refine ⟨.slice (some ⟨w.heap.size, 0, none⟩) n.toNat cap, _, e', ?_, he, hrh, VR.slice_at g2 g1 (by rw [g3]; simp) hcap hcap (by simp) (by rw [g4, hlen]; omega)⟩
        rw [hback]
        have hneg : ¬ (n < 0 ∨ n > 2 ^ 48) := by omega
        have hneg2 : (decide (n < 0) || decide (n > 2 ^ 48)) = false := by simp; omega
        have f1 : (Question.appendCap n.toNat 0 el).forced = false := rfl
        have f2 : (Question.extern "internal/bytealg.MakeNoZero.bytes" 0).forced = false := rfl
        have hdef : extRow (.noZero t) #[.int .i64 n] = (do
            let some t := (#[t] : Array TypeId)[0]? | stuck "bytealg.MakeNoZero: no result type"
            let .slice elem ← underlying t | stuck "bytealg.MakeNoZero: slice type expected"
            if n < 0 || n > 2 ^ 48 then runtimePanic (.error "makeslice: len out of range")
            let cap ← choose (.appendCap n.toNat 0 elem)
            askRoom cap
            let bytes ← choose (.extern "internal/bytealg.MakeNoZero.bytes" 0)
            let a ← newRow elem (Extern.BytealgMakeNoZero.digits cap bytes #[])
            Pure.pure (.slice (some a) n.toNat cap) : Sem Value) := rfl
        rw [hdef]
        simp only [List.getElem?_toArray, List.getElem?_cons_zero, Sem.run_bind, run_und hu, Result.andThen_ok, hneg2, Bool.false_eq_true, if_false, run_choose, f1, f2, run_askRoom, newRow, run_newObj, Sem.run_pure]
        rfl
      · cases hx
    · cases hx
  · rename_i s n
    cases hx
    obtain ⟨x', r, h1, h2, h3⟩ := ha.cons_inv
    obtain ⟨y', r2, h4, h5, h6⟩ := h3.cons_inv
    rw [h4, h6.nil_inv] at h1
    obtain rfl : as' = #[x', y'] := Array.toList_inj.1 h1
    cases h5.int_inv
    obtain ⟨s', rfl, rfl⟩ := h2.str_inv
    refine ⟨_, w, e, run_indexByte_string s' n w, e.le_refl, h, ?_⟩
    rw [firstIdx_eq]
    have : (n.toNat.toUInt8).toNat = n.toNat % 256 := by simp
    rw [this]
    exact .int .i64 _
  · rename_i s n
    cases hx
    obtain ⟨x', r, h1, h2, h3⟩ := ha.cons_inv
    obtain ⟨y', r2, h4, h5, h6⟩ := h3.cons_inv
    rw [h4, h6.nil_inv] at h1
    obtain rfl : as' = #[x', y'] := Array.toList_inj.1 h1
    cases h5.int_inv
    obtain ⟨s', rfl, rfl⟩ := h2.str_inv
    refine ⟨_, w, e, Lib.run_countString s' n w, e.le_refl, h, ?_⟩
    have : (n.toNat.toUInt8).toNat = n.toNat % 256 := by simp
    rw [cntB_eq, this]
    exact .int .i64 _
  · cases hx

theorem call_sound {ext : Nat → Option Ext} {prim : Nat → Option Prim} (hN : NamesOK P) (hE : ExtOK P ext) (hP : PrimOK P prim) {run : Nat → Code → Tm → Hp → Option (X × Tm × Hp)} (hrun : COK P run) :
    CFS P (callWith P ext prim run) := by
  intro g args H v H' hc
  unfold callWith at hc
  split at hc
  · rename_i fid first cap
    refine ⟨fid, first, cap, rfl, ?_⟩
    intro F W e w as' hR hargs
    split at hc
    · rename_i p hp
      exact .inr (hP fid p hp _ H v H' hc F W e w as' hR hargs)
    · split at hc
      · rename_i fn hf
        split at hc
        · rename_i b hb
          cases hle : (Nat.ble (first ++ args ++ cap).length fn.ntmps && Nat.blt fn.ntmps 4294967296) with
          | false => rw [hle] at hc; cases hc
          | true =>
          rw [hle] at hc
          simp only [cond_true] at hc
          rw [Bool.and_eq_true, Nat.ble_eq, Nat.blt_eq] at hle
          refine .inr ⟨run_enter hN hf hb as' w, ?_⟩
          have hlen : as'.size = (first ++ args ++ cap).length := by have := hargs.1; simpa using this
          have hT : TR e fn.ntmps (Tr.puts .nil 0 (first ++ args ++ cap)) { tmps := as' ++ Array.replicate (fn.ntmps - as'.size) undef, defers := [] } := by
            refine ⟨by simp; omega, fun x => ?_⟩
            rw [Tr.get_puts .nil _ _ _ _ (by omega)]
            simp only [Nat.zero_add, Nat.zero_le, true_and, Nat.sub_zero]
            by_cases hx : x < (first ++ args ++ cap).length
            · rw [if_pos hx]
              have h1 : (first ++ args ++ cap)[x]? = some (first ++ args ++ cap)[x] := List.getElem?_eq_getElem hx
              obtain ⟨v', h2, h3⟩ := hargs.get h1
              rw [h1, Option.getD_some, Array.getD_eq_getD_getElem?, Array.getElem?_append_left (by omega), ← Array.getElem?_toList, h2]
              exact h3
            · rw [if_neg hx]
              have : (as' ++ Array.replicate (fn.ntmps - as'.size) undef).getD x undef = undef := by
                rw [Array.getD_eq_getD_getElem?, Array.getElem?_append_right (by omega), Array.getElem?_replicate]
                split <;> rfl
              simp only [this, Tr.get_nil]
              exact VR.undef
          have fin : ∀ (x : X) (t2 : Tm) (H2 : Hp), run fn.ntmps b (Tr.puts .nil 0 (first ++ args ++ cap)) H = some (x, t2, H2) → (x = .normal ∨ x = .ret) → (resA P t2 H2 fn.results.toList).map (fun l => (tup l, H2)) = some (v, H') →
              Calls P fid as' w (CallPost P.globals.size F W e v H') := by
            intro x t2 H2 hr hxx hres
            simp only [Option.map_eq_some_iff, Prod.mk.injEq] at hres
            obtain ⟨vs, hvs, rfl, rfl⟩ := hres
            refine calls_of_wp hf hb (hrun _ _ _ _ _ _ _ hr F W e _ w _ hR hT ?_).1
            intro e' a' w' he hR' hT' hd
            obtain ⟨u, hu, hvr⟩ := sound_results hR' hT' hvs
            rcases hxx with rfl | rfl
            · exact ⟨hd, u, hu, e', u, rfl, he, hR', hvr⟩
            · exact ⟨hd, u, hu, e', u, rfl, he, hR', hvr⟩
          split at hc
          · cases hc
          · rename_i x t2 H2 hne hr
            cases x with
            | normal => exact fin _ t2 H2 hr (.inl rfl) hc
            | ret => exact fin _ t2 H2 hr (.inr rfl) hc
            | exit i => exact (hne i rfl).elim
          · cases hc
        · rename_i hb
          split at hc
          · rename_i k hk
            obtain ⟨v', w', e', h1, h2, h3, h4⟩ := sound_ext hR hargs hc
            refine .inl ⟨v', w', e', ?_, h2, h3, h4⟩
            rw [hE fid k hk, Sem.run_bind, h1]
            rfl
          · cases hc
      · cases hc
  · cases hc

theorem code_sound {ext : Nat → Option Ext} {prim : Nat → Option Prim} (hm : P.follows .mixedOrders = true) (hN : NamesOK P) (hE : ExtOK P ext) (hP : PrimOK P prim) : ∀ f, COK P (code P ext prim f) := by
  intro f
  induction f with
  | zero => intro n c t H x t' H' h; cases h
  | succ f ih =>
    have hcf : CFS P (callWith P ext prim (code P ext prim f)) := call_sound hN hE hP ih
    intro n c t H x t' H' hc F W e a w Q hR hT hQ
    unfold code at hc
    split at hc
    · cases hc
      exact ⟨wp_skip (hQ e a w e.le_refl hR hT rfl), by intro b q; cases q⟩
    · cases hc
      exact ⟨wp_label (hQ e a w e.le_refl hR hT rfl), by intro b q; cases q⟩
    · rename_i c1 c2
      refine ⟨wp_seq ?_, by intro b q; cases q⟩
      split at hc
      · rename_i t1 H1 h1
        refine (ih _ _ _ _ _ _ _ h1 F W e a w _ hR hT ?_).1
        intro e' a' w' he hR' hT' hd
        refine (ih _ _ _ _ _ _ _ hc F W e' a' w' _ hR' hT' ?_).1
        intro e2 a2 w2 he2 hR2 hT2 hd2
        exact hQ e2 a2 w2 (Em.le_trans he he2) hR2 hT2 (hd2.trans hd)
      · rename_i hne
        refine (ih _ _ _ _ _ _ _ hc F W e a w _ hR hT ?_).1
        intro e' a' w' he hR' hT' hd
        have := hQ e' a' w' he hR' hT' hd
        cases x with
        | normal => exact absurd hc (hne t' H')
        | exit i => exact this
        | ret => exact this
    · rename_i cc c1 c2
      split at hc
      · rename_i b hb
        have hv := VR.ev hR hT cc
        rw [hb] at hv
        have hv' := hv.bool_inv
        refine ⟨wp_cond hv' ?_, by intro b q; cases q⟩
        cases b with
        | true => exact (ih _ _ _ _ _ _ _ hc F W e a w Q hR hT hQ).1
        | false => exact (ih _ _ _ _ _ _ _ hc F W e a w Q hR hT hQ).1
      · cases hc
    · rename_i i b
      refine ⟨wp_block ?_, by intro b q; cases q⟩
      split at hc
      · rename_i j t1 H1 h1
        refine (ih _ _ _ _ _ _ _ h1 F W e a w _ hR hT ?_).1
        intro e' a' w' he hR' hT' hd
        show Exit.inBlock i Q (.exit j) a' w'
        cases hj : Nat.beq j i with
        | true =>
          rw [hj] at hc
          cases hc
          simp only [Exit.inBlock, Nat.eq_of_beq_eq_true hj, if_true]
          exact hQ e' a' w' he hR' hT' hd
        | false =>
          rw [hj] at hc
          cases hc
          have hne : ¬ j = i := fun q => by rw [q, Nat.beq_refl] at hj; cases hj
          simp only [Exit.inBlock, if_neg hne]
          exact hQ e' a' w' he hR' hT' hd
      · rename_i hne
        refine (ih _ _ _ _ _ _ _ hc F W e a w _ hR hT ?_).1
        intro e' a' w' he hR' hT' hd
        have := hQ e' a' w' he hR' hT' hd
        cases x with
        | normal => exact this
        | exit j => exact absurd hc (hne j t' H')
        | ret => exact this
    · rename_i b
      have hl : WpL P b Q a w := by
        refine wpL_of ?_
        split at hc
        · rename_i t1 H1 h1
          refine (ih _ _ _ _ _ _ _ h1 F W e a w _ hR hT ?_).1
          intro e' a' w' he hR' hT' hd
          show Exit.then (WpL P b Q) Q .normal a' w'
          refine (ih _ _ _ _ _ _ _ hc F W e' a' w' Q hR' hT' ?_).2 b rfl
          intro e2 a2 w2 he2 hR2 hT2 hd2
          exact hQ e2 a2 w2 (Em.le_trans he he2) hR2 hT2 (hd2.trans hd)
        · rename_i hne
          refine (ih _ _ _ _ _ _ _ hc F W e a w _ hR hT ?_).1
          intro e' a' w' he hR' hT' hd
          have := hQ e' a' w' he hR' hT' hd
          cases x with
          | normal => exact absurd hc (hne t' H')
          | exit i => exact this
          | ret => exact this
      exact ⟨wp_loop_of hl, by intro b' q; cases q; exact hl⟩
    · cases hc
      exact ⟨wp_exit (hQ e a w e.le_refl hR hT rfl), by intro b q; cases q⟩
    · cases hc
      exact ⟨wp_ret (hQ e a w e.le_refl hR hT rfl), by intro b q; cases q⟩
    · rename_i id ops d
      refine ⟨?_, by intro b q; cases q⟩
      split at hc
      · rename_i t1 H1 h1
        cases hc
        cases d with
        | true => exact drawX_sound hm hcf h1 hR hT hQ
        | false =>
          refine wp_region ?_
          have := seqOps_sound (Q := Q) hcf ops.toList 0 t H e a w (by simp) h1 hR hT hQ
          rw [List.range_eq_range']
          simpa using this
      · cases hc
    · cases hc

/-- a call of the abstract machine is a call of the model's -/
theorem callA_sound {ext : Nat → Option Ext} {prim : Nat → Option Prim} (hm : P.follows .mixedOrders = true) (hN : NamesOK P) (hE : ExtOK P ext) (hP : PrimOK P prim) {fuel g : Nat} {args : List AV} {v : AV} {H' : Hp}
    (h : callA P ext prim fuel g args H = some (v, H')) {fn : Func} {b : Code} (hf : P.funcs[g]? = some fn) (hb : fn.body = some b) {as' : Array Value} (hR : RH P.globals.size F W e H w) (ha : VRL e args as'.toList) :
    Calls P g as' w (CallPost P.globals.size F W e v H') := by
  obtain ⟨fid, first, cap, hg, hs⟩ := call_sound hN hE hP (code_sound hm hN hE hP fuel) _ _ _ _ _ h
  cases hg
  rcases hs F W e w as' hR (by simpa using ha) with ⟨v', w', e', h1, _⟩ | ⟨_, h2⟩
  · rw [run_enter hN hf hb] at h1
    cases h1
  · exact h2
end
end Go.Proofs.YtehhgkgeldinkaaGreatDoor.Am
