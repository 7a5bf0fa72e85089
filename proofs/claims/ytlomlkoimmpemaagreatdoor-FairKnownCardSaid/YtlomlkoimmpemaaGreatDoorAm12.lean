/- Regions with continuations, and loops (of no program). -/
import Derived.Test.YtlomlkoimmpemaaGreatDoorAm11
set_option linter.unusedVariables false
set_option linter.unusedSimpArgs false
namespace Go.Proofs.YtlomlkoimmpemaaGreatDoor.Am
set_option linter.unusedVariables false
set_option linter.unusedSimpArgs false
namespace K
section
variable (P : Program)

def okD (n : Nat) (dst : Option Tmp) : Bool := match dst with | none => true | some d => Nat.blt d n && Nat.blt d 4294967296
def putK (dst : Option Tmp) (v : AV) (t : Tm) : Tm := match dst with | none => t | some d => t.put 34 d v
/-- the value that a guarded operation looks at -/
def gv (ops : Array Oper) (j : Nat) (t : Tm) : AV := match (ops[j]?).bind (·.dst) with | none => undefA | some d => (t.get d).getD undefA
def wv (want : Bool) (g : AV) : Option Bool := match g with | .bool b => some (b == want) | .junk => none | _ => some false
def GO (g : AV) (want : Bool) (f : (AV → Hp → R) → R) (k : AV → Hp → R) (H : Hp) : R := match wv want g with | some true => f k | some false => k undefA H | none => none
/-- a guarded step of a drawn region -/
def GD (g : AV) (want : Bool) (x y : R) : R := match wv want g with | some true => x | some false => y | none => none
def SM (a b : AV) (x : R) : R := bif same a b then x else none

def seqK (cf : CF) (n : Nat) (ops : Array Oper) : List Oper → Tm → Hp → KN → R
  | [], t, H, k => k t H
  | o :: r, t, H, k => bif okD n o.dst then (match o.guard with
      | none => opK P cf o t H fun v H => seqK cf n ops r (putK o.dst v t) H k
      | some (j, want) => GO (gv ops j t) want (fun k' => opK P cf o t H k') (fun v H => seqK cf n ops r (putK o.dst v t) H k) H) else none

def noC : CF := fun _ _ _ => none
def dyn2 (s : Stp) (x : R) : List Stp → R
  | [] => x
  | r :: l => match r.k with
    | .pure => dyn2 s x l
    | .read => bif Nat.blt r.i s.i then (bif s.b.testBit r.i then dyn2 s x l else opK P noC r.o r.t s.ha fun v _ => SM r.v v (dyn2 s x l))
        else (bif r.b.testBit s.i then dyn2 s x l else opK P noC r.o r.t s.hb fun v _ => SM r.v v (dyn2 s x l))
    | _ => bif !(Nat.blt r.i s.i) || s.b.testBit r.i then dyn2 s x l else none
def dyn1 (all : List Stp) (x : R) : List Stp → R
  | [] => x
  | s :: l => match s.k with
    | .eff => dyn2 P s (dyn1 all x l) all
    | _ => dyn1 all x l

/-- what is known of temporaries that guards look at -/
def lkn : List (Nat × AV) → Nat → Option AV
  | [], _ => none
  | (e, v) :: r, d => bif Nat.beq e d then some v else lkn r d
def delK : List (Nat × AV) → Option Tmp → List (Nat × AV)
  | kn, none => kn
  | [], some _ => []
  | (e, v) :: r, some d => bif Nat.beq e d then delK r (some d) else (e, v) :: delK r (some d)
def addU (kn : List (Nat × AV)) : Option Tmp → List (Nat × AV)
  | none => kn
  | some d => (d, undefA) :: delK kn (some d)
def GD2 (g : AV) (want : Bool) (x y : R) : R := match g with | .bool b => bif b == want then x else y | _ => none

def drawK (cf : CF) (n : Nat) (ops : Array Oper) : Nat → List Oper → List Nat → List (Nat × AV) → Tm → Tm → Hp → Hp → List Stp → KN → R
  | _, [], _, _, _, te, _, h, acc, k => dyn1 P acc (k te h) acc
  | _, _ :: _, [], _, _, _, _, _, _, _ => none
  | i, o :: r, b :: bs, kn, tp, te, hb, h, acc, k => bif okD n o.dst then
      let go : List (Nat × AV) → Tm → R := fun kn tp => match kd P o with
        | .late => opK P noC o te h fun v h' => drawK cf n ops (i + 1) r bs (delK kn o.dst) (putK o.dst .junk tp) (putK o.dst v te) hb h' (acc ++ [⟨i, o, b, true, .late, v, tp, hb, hb⟩]) k
        | .eff => opK P cf o te h fun v h' => drawK cf n ops (i + 1) r bs (delK kn o.dst) (putK o.dst v tp) (putK o.dst v te) h' h' (acc ++ [⟨i, o, b, true, .eff, v, tp, hb, h'⟩]) k
        | .pure => opK P noC o tp hb fun v _ => drawK cf n ops (i + 1) r bs (delK kn o.dst) (putK o.dst v tp) (putK o.dst v te) hb h (acc ++ [⟨i, o, b, true, .pure, v, tp, hb, hb⟩]) k
        | .read => opK P noC o tp hb fun v _ => drawK cf n ops (i + 1) r bs (delK kn o.dst) (putK o.dst v tp) (putK o.dst v te) hb h (acc ++ [⟨i, o, b, true, .read, v, tp, hb, hb⟩]) k
      let skip : List (Nat × AV) → Tm → R := fun kn tp => drawK cf n ops (i + 1) r bs (addU kn o.dst) (putK o.dst undefA tp) (putK o.dst undefA te) hb h (acc ++ [⟨i, o, b, false, .pure, undefA, tp, hb, hb⟩]) k
      match o.guard with
      | none => go kn tp
      | some (j, want) => match (ops[j]?).bind (·.dst) with
        | none => skip kn tp
        | some d => match lkn kn d with
          | some c => (match wv want c with | some true => go kn tp | some false => skip kn tp | none => none)
          | none => GD2 ((tp.get d).getD undefA) want (go ((d, .bool want) :: kn) (putK (some d) (.bool want) tp)) (skip ((d, .bool !want) :: kn) (putK (some d) (.bool !want) tp))
    else none

def regK : RegK := fun cf n ops d t H k => bif d then (bif regOk ops then drawK P cf n ops 0 ops.toList (before ops.toList []) [] t t H H [] k else none) else seqK P cf n ops ops.toList t H k
end

section
variable {P : Program}
theorem putD_of {n : Nat} {dst : Option Tmp} {v : AV} {t : Tm} (h : okD n dst = true) : putD n dst v t = some (putK dst v t) := by
  unfold putD putK
  cases dst with
  | none => rfl
  | some d =>
    have h' : (Nat.blt d n && Nat.blt d 4294967296) = true := h
    simp only [h', cond_true]
theorem wanted_gv {ops : Array Oper} {o : Oper} {t : Tm} {j : Nat} {want : Bool} (h : o.guard = some (j, want)) : wantedA ops o t = wv want (gv ops j t) := by
  unfold wantedA gv
  rw [h]
  simp only
  cases (ops[j]?).bind (·.dst) with
  | none => rfl
  | some d =>
    simp only
    cases t.get d with
    | none => rfl
    | some a => cases a <;> rfl

theorem seqK_sound {cf : CF} {n : Nat} {ops : Array Oper} : ∀ (l : List Oper) (t : Tm) (H : Hp) (k : KN) (r : AV × Hp), seqK P cf n ops l t H k = some r → ∃ t' H', seqOps P cf n ops l t H = some (t', H') ∧ k t' H' = some r
  | [], t, H, k, r, h => ⟨t, H, rfl, h⟩
  | o :: l, t, H, k, r, h => by
    unfold seqK at h
    cases hd : okD n o.dst with
    | false => rw [hd] at h; cases h
    | true =>
      rw [hd] at h
      simp only [cond_true] at h
      have run : ∀ (v : AV) (H' : Hp), opC P cf t o H = some (v, H') → wantedA ops o t = some true → seqK P cf n ops l (putK o.dst v t) H' k = some r → ∃ t' H', seqOps P cf n ops (o :: l) t H = some (t', H') ∧ k t' H' = some r := by
        intro v H' h1 h2 h3
        obtain ⟨t2, H2, q1, q2⟩ := seqK_sound l _ _ k r h3
        refine ⟨t2, H2, ?_, q2⟩
        unfold seqOps
        rw [h2]
        simp only [h1, putD_of hd]
        exact q1
      cases hg : o.guard with
      | none =>
        rw [hg] at h
        obtain ⟨v, H', h1, h2⟩ := opK_sound h
        exact run v H' h1 (by unfold wantedA; rw [hg]) h2
      | some p =>
        obtain ⟨j, want⟩ := p
        rw [hg] at h
        simp only at h
        unfold GO at h
        rw [← wanted_gv (o := o) hg] at h
        cases hw : wantedA ops o t with
        | none => rw [hw] at h; cases h
        | some b =>
          rw [hw] at h
          cases b with
          | true =>
            simp only at h
            obtain ⟨v, H', h1, h2⟩ := opK_sound h
            exact run v H' h1 hw h2
          | false =>
            simp only at h
            obtain ⟨t2, H2, q1, q2⟩ := seqK_sound l _ _ k r h
            refine ⟨t2, H2, ?_, q2⟩
            unfold seqOps
            rw [hw]
            simp only [putD_of hd]
            exact q1

theorem opK_read {o : Oper} {t : Tm} {H : Hp} {k : AV → Hp → R} {r : AV × Hp} (h : opK P noC o t H k = some r) : ∃ v H', opA P (ev P.globals.size t) o H = some (v, H') ∧ k v H' = some r := by
  obtain ⟨v, H', h1, h2⟩ := opK_sound h
  refine ⟨v, H', ?_, h2⟩
  unfold opC at h1
  split at h1
  · cases h1
  · exact h1

theorem dyn2_sound {s : Stp} {x : R} {r : AV × Hp} : ∀ (l : List Stp), dyn2 P s x l = some r → (l.all fun q => match q.k with
      | .eff | .late => !(Nat.blt q.i s.i) || s.b.testBit q.i
      | .read => bif Nat.blt q.i s.i then s.b.testBit q.i || readAt P q s.ha else q.b.testBit s.i || readAt P q s.hb
      | .pure => true) = true ∧ x = some r
  | [], h => ⟨rfl, h⟩
  | q :: l, h => by
    unfold dyn2 at h
    rw [List.all_cons, Bool.and_eq_true]
    have rd : ∀ (Hx : Hp), (opK P noC q.o q.t Hx fun v _ => SM q.v v (dyn2 P s x l)) = some r → readAt P q Hx = true ∧ dyn2 P s x l = some r := by
      intro Hx hx
      obtain ⟨v, H', h1, h2⟩ := opK_read hx
      unfold SM at h2
      cases hs : same q.v v with
      | false => rw [hs] at h2; cases h2
      | true =>
        rw [hs] at h2
        refine ⟨?_, h2⟩
        unfold readAt
        rw [h1]
        exact hs
    cases hk : q.k with
    | pure =>
      rw [hk] at h
      obtain ⟨a, b⟩ := dyn2_sound l h
      exact ⟨⟨rfl, a⟩, b⟩
    | read =>
      rw [hk] at h
      simp only at h ⊢
      cases hb : Nat.blt q.i s.i with
      | true =>
        rw [hb] at h
        simp only [cond_true] at h ⊢
        cases ht : s.b.testBit q.i with
        | true =>
          rw [ht] at h
          obtain ⟨a, b⟩ := dyn2_sound l h
          exact ⟨⟨rfl, a⟩, b⟩
        | false =>
          rw [ht] at h
          obtain ⟨c, d⟩ := rd _ h
          obtain ⟨a, b⟩ := dyn2_sound l d
          exact ⟨⟨by rw [c]; rfl, a⟩, b⟩
      | false =>
        rw [hb] at h
        simp only [cond_false] at h ⊢
        cases ht : q.b.testBit s.i with
        | true =>
          rw [ht] at h
          obtain ⟨a, b⟩ := dyn2_sound l h
          exact ⟨⟨rfl, a⟩, b⟩
        | false =>
          rw [ht] at h
          obtain ⟨c, d⟩ := rd _ h
          obtain ⟨a, b⟩ := dyn2_sound l d
          exact ⟨⟨by rw [c]; rfl, a⟩, b⟩
    | late =>
      rw [hk] at h
      simp only at h ⊢
      cases hb : (!(Nat.blt q.i s.i) || s.b.testBit q.i) with
      | false => rw [hb] at h; cases h
      | true =>
        rw [hb] at h
        obtain ⟨a, b⟩ := dyn2_sound l h
        exact ⟨⟨rfl, a⟩, b⟩
    | eff =>
      rw [hk] at h
      simp only at h ⊢
      cases hb : (!(Nat.blt q.i s.i) || s.b.testBit q.i) with
      | false => rw [hb] at h; cases h
      | true =>
        rw [hb] at h
        obtain ⟨a, b⟩ := dyn2_sound l h
        exact ⟨⟨rfl, a⟩, b⟩
theorem dyn1_sound {all : List Stp} {x : R} {r : AV × Hp} : ∀ (l : List Stp), dyn1 P all x l = some r → (l.all fun s => match s.k with
    | .eff => all.all fun q => match q.k with
      | .eff | .late => !(Nat.blt q.i s.i) || s.b.testBit q.i
      | .read => bif Nat.blt q.i s.i then s.b.testBit q.i || readAt P q s.ha else q.b.testBit s.i || readAt P q s.hb
      | .pure => true
    | _ => true) = true ∧ x = some r
  | [], h => ⟨rfl, h⟩
  | s :: l, h => by
    unfold dyn1 at h
    rw [List.all_cons, Bool.and_eq_true]
    cases hk : s.k with
    | eff =>
      rw [hk] at h
      obtain ⟨a, b⟩ := dyn2_sound all h
      obtain ⟨c, d⟩ := dyn1_sound l b
      exact ⟨⟨a, c⟩, d⟩
    | pure => rw [hk] at h; obtain ⟨c, d⟩ := dyn1_sound l h; exact ⟨⟨rfl, c⟩, d⟩
    | read => rw [hk] at h; obtain ⟨c, d⟩ := dyn1_sound l h; exact ⟨⟨rfl, c⟩, d⟩
    | late => rw [hk] at h; obtain ⟨c, d⟩ := dyn1_sound l h; exact ⟨⟨rfl, c⟩, d⟩

def KNok (kn : List (Nat × AV)) (t : Tm) : Prop := ∀ d v, lkn kn d = some v → t.get d = some v
theorem lkn_delK : ∀ (kn : List (Nat × AV)) (x d : Nat) (v : AV), lkn (delK kn (some x)) d = some v → d ≠ x ∧ lkn kn d = some v
  | [], x, d, v, h => by cases h
  | (e, u) :: r, x, d, v, h => by
    unfold delK at h
    by_cases he : e = x
    · subst he
      rw [beq_t, cond_true] at h
      obtain ⟨a, b⟩ := lkn_delK r e d v h
      refine ⟨a, ?_⟩
      unfold lkn
      rw [beq_f (Ne.symm a)]; exact b
    · rw [beq_f he, cond_false] at h
      unfold lkn at h ⊢
      by_cases hd : e = d
      · subst hd
        rw [beq_t] at h ⊢
        exact ⟨he, h⟩
      · rw [beq_f hd] at h ⊢
        exact lkn_delK r x d v h
theorem KNok.put {kn : List (Nat × AV)} {t : Tm} (h : KNok kn t) (dst : Option Tmp) (v : AV) : KNok (delK kn dst) (putK dst v t) := by
  cases dst with
  | none => intro d u hd; cases kn <;> exact h d u hd
  | some x =>
    intro d u hd
    obtain ⟨a, b⟩ := lkn_delK kn x d u hd
    show (t.put 34 x v).get d = some u
    rw [Tr.put, Tr.get_putP, if_neg a]
    exact h d u b
theorem KNok.putU {kn : List (Nat × AV)} {t : Tm} (h : KNok kn t) (dst : Option Tmp) : KNok (addU kn dst) (putK dst undefA t) := by
  cases dst with
  | none => exact h
  | some x =>
    intro d u hd
    unfold addU lkn at hd
    by_cases hx : x = d
    · subst hx
      rw [beq_t] at hd
      cases hd
      show (t.put 34 x undefA).get x = some undefA
      rw [Tr.put, Tr.get_putP, if_pos rfl]
    · rw [beq_f hx] at hd
      exact (h.put (some x) undefA) d u hd
theorem KNok.cons {kn : List (Nat × AV)} {t : Tm} (h : KNok kn t) {d : Nat} {v : AV} (hv : t.get d = some v) : KNok ((d, v) :: kn) t := by
  intro e u he
  unfold lkn at he
  by_cases hx : d = e
  · subst hx
    rw [beq_t] at he
    cases he; exact hv
  · rw [beq_f hx] at he
    exact h e u he

theorem putP_same {α : Type} {x : α} : ∀ (p : Pa) (t : Tr α), Tr.getP p t = some x → Tr.putP p (some x) t = t
  | .e, .nil, h => by cases h
  | .e, .node v k0 k1 k2 k3, h => by cases h; rfl
  | .a p, .nil, h => by rw [Tr.getP_nil] at h; cases h
  | .b p, .nil, h => by rw [Tr.getP_nil] at h; cases h
  | .c p, .nil, h => by rw [Tr.getP_nil] at h; cases h
  | .d p, .nil, h => by rw [Tr.getP_nil] at h; cases h
  | .a p, .node v k0 k1 k2 k3, h => congrArg (fun k => Tr.node v k k1 k2 k3) (putP_same p k0 h)
  | .b p, .node v k0 k1 k2 k3, h => congrArg (fun k => Tr.node v k0 k k2 k3) (putP_same p k1 h)
  | .c p, .node v k0 k1 k2 k3, h => congrArg (fun k => Tr.node v k0 k1 k k3) (putP_same p k2 h)
  | .d p, .node v k0 k1 k2 k3, h => congrArg (fun k => Tr.node v k0 k1 k2 k) (putP_same p k3 h)
theorem putK_same {t : Tm} {d : Nat} {v : AV} (h : t.get d = some v) : putK (some d) v t = t := putP_same (pathOf d) t h
theorem drawK_sound {cf : CF} {n : Nat} {ops : Array Oper} : ∀ (l : List Oper) (i : Nat) (bs : List Nat) (kn : List (Nat × AV)) (tp te : Tm) (hb h : Hp) (acc : List Stp) (k : KN) (r : AV × Hp), KNok kn tp → drawK P cf n ops i l bs kn tp te hb h acc k = some r →
    ∃ s t' H', drawRun P cf n ops i l bs tp te hb h = some (s, t', H') ∧ dynOk P (acc ++ s) = true ∧ k t' H' = some r
  | [], i, bs, kn, tp, te, hb, h, acc, k, r, hkn, hr => by
    unfold drawK at hr
    obtain ⟨a, b⟩ := dyn1_sound acc hr
    refine ⟨[], te, h, by unfold drawRun; rfl, ?_, b⟩
    rw [List.append_nil]
    exact a
  | o :: l, i, [], kn, tp, te, hb, h, acc, k, r, hkn, hr => by unfold drawK at hr; cases hr
  | o :: l, i, b :: bs, kn, tp, te, hb, h, acc, k, r, hkn, hr => by
    unfold drawK at hr
    cases hd : okD n o.dst with
    | false => rw [hd] at hr; cases hr
    | true =>
      rw [hd] at hr
      simp only [cond_true] at hr
      have go : ∀ kn, KNok kn tp → wantedA ops o tp = some true → (match kd P o with
        | .late => opK P noC o te h fun v h' => drawK P cf n ops (i + 1) l bs (delK kn o.dst) (putK o.dst .junk tp) (putK o.dst v te) hb h' (acc ++ [⟨i, o, b, true, .late, v, tp, hb, hb⟩]) k
        | .eff => opK P cf o te h fun v h' => drawK P cf n ops (i + 1) l bs (delK kn o.dst) (putK o.dst v tp) (putK o.dst v te) h' h' (acc ++ [⟨i, o, b, true, .eff, v, tp, hb, h'⟩]) k
        | .pure => opK P noC o tp hb fun v _ => drawK P cf n ops (i + 1) l bs (delK kn o.dst) (putK o.dst v tp) (putK o.dst v te) hb h (acc ++ [⟨i, o, b, true, .pure, v, tp, hb, hb⟩]) k
        | .read => opK P noC o tp hb fun v _ => drawK P cf n ops (i + 1) l bs (delK kn o.dst) (putK o.dst v tp) (putK o.dst v te) hb h (acc ++ [⟨i, o, b, true, .read, v, tp, hb, hb⟩]) k) = some r →
          ∃ s t' H', drawRun P cf n ops i (o :: l) (b :: bs) tp te hb h = some (s, t', H') ∧ dynOk P (acc ++ s) = true ∧ k t' H' = some r := by
        intro kn hkn hw hr
        cases hk : kd P o with
        | late =>
          rw [hk] at hr
          obtain ⟨v, h', h1, h2⟩ := opK_read hr
          obtain ⟨s, t', H', q1, q2, q3⟩ := drawK_sound l _ _ _ _ _ _ _ _ k r (hkn.put _ _) h2
          refine ⟨_, t', H', ?_, by rw [List.append_assoc] at q2; exact q2, q3⟩
          unfold drawRun
          simp only [hw, hk, h1, putD_of hd, q1]
          rfl
        | eff =>
          rw [hk] at hr
          obtain ⟨v, h', h1, h2⟩ := opK_sound hr
          obtain ⟨s, t', H', q1, q2, q3⟩ := drawK_sound l _ _ _ _ _ _ _ _ k r (hkn.put _ _) h2
          refine ⟨_, t', H', ?_, by rw [List.append_assoc] at q2; exact q2, q3⟩
          unfold drawRun
          simp only [hw, hk, h1, putD_of hd, q1]
          rfl
        | pure =>
          rw [hk] at hr
          obtain ⟨v, h', h1, h2⟩ := opK_read hr
          obtain ⟨s, t', H', q1, q2, q3⟩ := drawK_sound l _ _ _ _ _ _ _ _ k r (hkn.put _ _) h2
          refine ⟨_, t', H', ?_, by rw [List.append_assoc] at q2; exact q2, q3⟩
          unfold drawRun
          simp only [hw, hk, h1, putD_of hd, q1]
          rfl
        | read =>
          rw [hk] at hr
          obtain ⟨v, h', h1, h2⟩ := opK_read hr
          obtain ⟨s, t', H', q1, q2, q3⟩ := drawK_sound l _ _ _ _ _ _ _ _ k r (hkn.put _ _) h2
          refine ⟨_, t', H', ?_, by rw [List.append_assoc] at q2; exact q2, q3⟩
          unfold drawRun
          simp only [hw, hk, h1, putD_of hd, q1]
          rfl
      have skip : ∀ kn, KNok kn tp → wantedA ops o tp = some false → drawK P cf n ops (i + 1) l bs (addU kn o.dst) (putK o.dst undefA tp) (putK o.dst undefA te) hb h (acc ++ [⟨i, o, b, false, .pure, undefA, tp, hb, hb⟩]) k = some r →
          ∃ s t' H', drawRun P cf n ops i (o :: l) (b :: bs) tp te hb h = some (s, t', H') ∧ dynOk P (acc ++ s) = true ∧ k t' H' = some r := by
        intro kn hkn hw hr
        obtain ⟨s, t', H', q1, q2, q3⟩ := drawK_sound l _ _ _ _ _ _ _ _ k r (hkn.putU _) hr
        refine ⟨_, t', H', ?_, by rw [List.append_assoc] at q2; exact q2, q3⟩
        unfold drawRun
        simp only [hw, putD_of hd, q1]
        rfl
      cases hg : o.guard with
      | none =>
        rw [hg] at hr
        exact go kn hkn (by unfold wantedA; rw [hg]) hr
      | some p =>
        obtain ⟨j, want⟩ := p
        rw [hg] at hr
        simp only at hr
        have hwv := wanted_gv (ops := ops) (o := o) (t := tp) hg
        unfold gv at hwv
        cases hj : (ops[j]?).bind (·.dst) with
        | none =>
          rw [hj] at hr hwv
          exact skip kn hkn hwv hr
        | some d =>
          rw [hj] at hr hwv
          simp only at hr hwv
          cases hl : lkn kn d with
          | some c =>
            rw [hl] at hr
            simp only at hr
            rw [hkn d c hl, Option.getD_some] at hwv
            cases hw : wv want c with
            | none => rw [hw] at hr; cases hr
            | some q =>
              rw [hw] at hr hwv
              cases q with
              | true => exact go kn hkn hwv hr
              | false => exact skip kn hkn hwv hr
          | none =>
            rw [hl] at hr
            simp only at hr
            unfold GD2 at hr
            cases ht : tp.get d with
            | none => rw [ht] at hr; cases hr
            | some v =>
              rw [ht, Option.getD_some] at hr hwv
              cases v <;> first | (cases hr; done) | skip
              rename_i q
              simp only at hr
              have hwv' : wantedA ops o tp = some (q == want) := hwv
              cases hq : (q == want) with
              | true =>
                rw [hq] at hr hwv'
                have : q = want := by simpa using hq
                subst this
                rw [putK_same ht] at hr
                exact go _ (hkn.cons ht) hwv' hr
              | false =>
                rw [hq] at hr hwv'
                have : q = !want := by cases q <;> cases want <;> simp_all
                subst this
                rw [putK_same ht] at hr
                exact skip _ (hkn.cons ht) hwv' hr

theorem regK_sound : RegSound P (regK P) := by
  intro cf n ops d t H k r h
  unfold regK at h
  cases d with
  | false =>
    simp only [cond_false] at h ⊢
    exact seqK_sound _ _ _ _ _ h
  | true =>
    simp only [cond_true] at h ⊢
    cases hr : regOk ops with
    | false => rw [hr] at h; cases h
    | true =>
      rw [hr] at h
      simp only [cond_true] at h
      obtain ⟨s, t', H', q1, q2, q3⟩ := drawK_sound _ _ _ _ _ _ _ _ _ _ _ (fun d v hd => by cases hd) h
      refine ⟨t', H', ?_, q3⟩
      unfold drawOps
      rw [hr]
      simp only [cond_true, q1]
      rw [List.nil_append] at q2
      rw [q2]; rfl

/-! continuity -/
def idK : AV → Hp → R := fun v H => some (v, H)
theorem B1_bind {α : Type} (o : Option α) (f : α → R) (g : AV × Hp → R) : (B1 o f).bind g = B1 o fun v => (f v).bind g := by cases o <;> rfl
theorem B2_bind (o : Option (AV × Hp)) (f : AV → Hp → R) (g : AV × Hp → R) : (B2 o f).bind g = B2 o fun v H => (f v H).bind g := by cases o <;> rfl
theorem BN_bind (o : Option (Nat × Hp)) (f : Nat → Hp → R) (g : AV × Hp → R) : (BN o f).bind g = BN o fun i H => (f i H).bind g := by cases o <;> rfl
theorem idK_bind (v : AV) (H : Hp) (k : AV → Hp → R) : (idK v H).bind (fun p => k p.1 p.2) = k v H := rfl
theorem binK_bind {op : BinOp} {t : TypeId} {X Y : Operand} {x y : AV} {H : Hp} (f : AV → R) (g : AV × Hp → R) : (binK P op t X Y x y H f).bind g = binK P op t X Y x y H fun v => (f v).bind g := by
  unfold binK
  split <;> first | exact B1_bind _ _ _ | skip
  cases gA P op t (isC X || isC Y) x y with
  | false => rfl
  | true => exact B1_bind _ _ _
theorem convK_bind {a b : TypeId} {x : AV} {H : Hp} (f : AV → Hp → R) (g : AV × Hp → R) : (convK P a b x H f).bind g = convK P a b x H fun v H => (f v H).bind g := by
  unfold convK
  split <;> first | exact B1_bind _ _ _ | exact B2_bind _ _ _ | (split <;> first | exact B1_bind _ _ _ | exact B2_bind _ _ _ | rfl)
theorem sliceK_bind {t : TypeId} {x : AV} {lo hi mx : Option AV} {H : Hp} (f : AV → R) (g : AV × Hp → R) : (sliceK P t x lo hi mx H f).bind g = sliceK P t x lo hi mx H fun v => (f v).bind g := by
  unfold sliceK
  split <;> first | exact B1_bind _ _ _ | (split <;> first | exact B1_bind _ _ _ | rfl)
theorem callB_bind {b : Builtin} {ty : Array TypeId} {args : List AV} {H : Hp} (f : AV → Hp → R) (g : AV × Hp → R) : (callB P b ty args H f).bind g = callB P b ty args H fun v H => (f v H).bind g := by
  unfold callB
  split
  · split <;> first | exact B1_bind _ _ _ | exact B2_bind _ _ _
  · split <;> first | rfl | skip
    split <;> first | rfl | skip
    rename_i z _ _
    cases (Nat.ble (P.bytesOf _) 4096 && Nat.beq _ _) with
    | false => rfl
    | true => exact B2_bind _ _ _
  · split <;> first | rfl | skip
    split <;> first | exact B2_bind _ _ _ | rfl
  · split <;> first | rfl | skip
    split <;> first | exact B1_bind _ _ _ | exact B2_bind _ _ _
  · exact B2_bind _ _ _
theorem opK_bind {cf : CF} {o : Oper} {t : Tm} {H : Hp} (f : AV → Hp → R) (g : AV × Hp → R) : (opK P cf o t H f).bind g = opK P cf o t H fun v H => (f v H).bind g := by
  obtain ⟨dst, op, ty0, pos, after, guard⟩ := o
  cases op <;> unfold opK <;> simp only
  case pick => exact B1_bind _ _ _
  case alloc => split <;> first | exact BN_bind _ _ _ | rfl
  case box => exact BN_bind _ _ _
  case build =>
    split
    · split <;> first | rfl | skip
      split <;> first | exact B1_bind _ _ _ | rfl
    · split <;> first | exact B1_bind _ _ _ | rfl
    · rfl
  case buildSlice =>
    split <;> first | rfl | skip
    split <;> first | rfl | skip
    cases Nat.ble _ 65536 with
    | false => rfl
    | true =>
      simp only [cond_true]
      split <;> first | rfl | skip
      rw [B1_bind]
      congr 1
      funext l
      exact BN_bind _ _ _
  case insert => split <;> first | rfl | (split <;> exact B1_bind _ _ _)
  case mapUpdate => split <;> first | rfl | (split <;> exact B1_bind _ _ _)
  case load => split <;> first | exact B1_bind _ _ _ | rfl
  case store => split <;> first | exact B1_bind _ _ _ | rfl
  case nilCheck => exact B1_bind _ _ _
  case binOp => exact binK_bind _ _
  case unOp => exact B1_bind _ _ _
  case convert => exact convK_bind _ _
  case makeInterface => split <;> rfl
  case makeFunc => split <;> rfl
  case makeMap ty x => cases x <;> first | exact BN_bind _ _ _ | rfl
  case makeSlice =>
    split <;> first | rfl | skip
    split <;> first | rfl | skip
    cases (Nat.ble (P.bytesOf _) 4096 && Nat.beq _ _) with
    | false => rfl
    | true => exact B2_bind _ _ _
  case slice => exact sliceK_bind _ _
  case fieldAddr => split <;> first | exact B1_bind _ _ _ | rfl
  case field =>
    split <;> first | rfl | skip
    split <;> first | rfl | skip
    split <;> first | exact B1_bind _ _ _ | rfl
  case indexAddr =>
    split <;> first | rfl | skip
    · split <;> first | exact B1_bind _ _ _ | rfl
    · split <;> first | exact B1_bind _ _ _ | rfl
  case index => split <;> exact B1_bind _ _ _
  case lookup =>
    split <;> first | rfl | skip
    split <;> exact B1_bind _ _ _
  case range => exact B2_bind _ _ _
  case next => exact B2_bind _ _ _
  case entry => exact B1_bind _ _ _
  case extract => exact B1_bind _ _ _
  case typeAssert => split <;> first | exact B1_bind _ _ _ | rfl
  case call c =>
    obtain ⟨callee, args, tys⟩ := c
    cases callee with
    | value f => exact B2_bind _ _ _
    | invoke r m => rfl
    | builtin b => exact callB_bind _ _
  all_goals rfl
theorem opK_id {cf : CF} {o : Oper} {t : Tm} {H : Hp} (k : AV → Hp → R) : opK P cf o t H k = (opK P cf o t H idK).bind fun p => k p.1 p.2 := by
  rw [opK_bind]; rfl
/-- an operation hands its continuation one value, whatever the continuation -/
theorem opK_nat {cf : CF} {o : Oper} {t : Tm} {H : Hp} {k : AV → Hp → R} {r : AV × Hp} (h : opK P cf o t H k = some r) :
    ∃ v H', k v H' = some r ∧ ∀ cfs : Nat → CF, CfTo cfs cf → Ev fun j => ∀ k', opK P (cfs j) o t H k' = k' v H' := by
  rw [opK_id, Option.bind_eq_some_iff] at h
  obtain ⟨⟨v, H'⟩, h1, h2⟩ := h
  refine ⟨v, H', h2, fun cfs hcf => ?_⟩
  have key : Ev fun j => opK P (cfs j) o t H idK = some (v, H') := by
    obtain ⟨dst, op, ty0, pos, after, guard⟩ := o
    cases op
    case makeMap ty x => cases x <;> exact Ev.of fun _ => h1
    case call c =>
     obtain ⟨callee, args, tys⟩ := c
     cases callee with
     | invoke r m => exact Ev.of fun _ => h1
     | builtin b => exact Ev.of fun _ => h1
     | value f =>
      obtain ⟨v2, H2, q1, q2⟩ := B2_some h1
      obtain ⟨k0, hk⟩ := hcf _ _ _ _ q1
      refine ⟨k0, fun j hj => ?_⟩
      show B2 (cfs j _ _ H) idK = _
      rw [hk j hj]
      exact q2
    all_goals exact Ev.of fun _ => h1
  obtain ⟨k0, hk⟩ := key
  refine ⟨k0, fun j hj k' => ?_⟩
  rw [opK_id, hk j hj]; rfl
theorem noC_to : CfTo (fun _ => noC) noC := fun x l H r h => by cases h
theorem opK_cont {cfs : Nat → CF} {cf : CF} (hcf : CfTo cfs cf) {o : Oper} {t : Tm} {H : Hp} {ks : Nat → AV → Hp → R} {k : AV → Hp → R} {r : AV × Hp} (hk : ∀ v H, k v H = some r → Ev fun j => ks j v H = some r) (h : opK P cf o t H k = some r) : Ev fun j => opK P (cfs j) o t H (ks j) = some r := by
  obtain ⟨v, H', h1, h2⟩ := opK_nat h
  obtain ⟨a, ha⟩ := h2 cfs hcf
  obtain ⟨b, hb⟩ := hk v H' h1
  refine ⟨max a b, fun j hj => ?_⟩
  exact (ha j (Nat.le_trans (Nat.le_max_left a b) hj) (ks j)).trans (hb j (Nat.le_trans (Nat.le_max_right a b) hj))
theorem seqK_cont {cfs : Nat → CF} {cf : CF} (hcf : CfTo cfs cf) {ks : Nat → KN} {k : KN} (hk : KnTo ks k) {n : Nat} {ops : Array Oper} : ∀ (l : List Oper) (t : Tm) (H : Hp) (r : AV × Hp), seqK P cf n ops l t H k = some r → Ev fun j => seqK P (cfs j) n ops l t H (ks j) = some r
  | [], t, H, r, h => hk t H r h
  | o :: l, t, H, r, h => by
    unfold seqK at h ⊢
    cases hd : okD n o.dst with
    | false => rw [hd] at h; cases h
    | true =>
      rw [hd] at h
      simp only [cond_true] at h ⊢
      cases hg : o.guard with
      | none =>
        rw [hg] at h
        exact opK_cont hcf (fun v H h => seqK_cont hcf hk l _ _ r h) h
      | some p =>
        obtain ⟨q, want⟩ := p
        rw [hg] at h
        simp only at h ⊢
        unfold GO at h ⊢
        cases hw : wv want (gv ops q t) with
        | none => rw [hw] at h; cases h
        | some b =>
          rw [hw] at h
          cases b with
          | true => exact opK_cont hcf (fun v H h => seqK_cont hcf hk l _ _ r h) h
          | false => exact seqK_cont hcf hk l _ _ r h
theorem dyn2_cont {s : Stp} {xs : Nat → R} {x : R} {r : AV × Hp} (hx : x = some r → Ev fun j => xs j = some r) : ∀ (l : List Stp), dyn2 P s x l = some r → Ev fun j => dyn2 P s (xs j) l = some r
  | [], h => hx h
  | q :: l, h => by
    unfold dyn2 at h ⊢
    have rd : ∀ Hx : Hp, (opK P noC q.o q.t Hx fun v _ => SM q.v v (dyn2 P s x l)) = some r → Ev fun j => (opK P noC q.o q.t Hx fun v _ => SM q.v v (dyn2 P s (xs j) l)) = some r := by
      intro Hx h
      refine opK_cont (cfs := fun _ => noC) noC_to (ks := fun j v _ => SM q.v v (dyn2 P s (xs j) l)) (fun v H h => ?_) h
      unfold SM at h ⊢
      cases hs : same q.v v with
      | false => rw [hs] at h; cases h
      | true => rw [hs] at h; exact dyn2_cont hx l h
    cases hk : q.k with
    | pure => rw [hk] at h; exact dyn2_cont hx l h
    | read =>
      rw [hk] at h
      simp only at h ⊢
      cases hb : Nat.blt q.i s.i with
      | true =>
        rw [hb] at h
        simp only [cond_true] at h ⊢
        cases ht : s.b.testBit q.i with
        | true => rw [ht] at h; exact dyn2_cont hx l h
        | false => rw [ht] at h; exact rd _ h
      | false =>
        rw [hb] at h
        simp only [cond_false] at h ⊢
        cases ht : q.b.testBit s.i with
        | true => rw [ht] at h; exact dyn2_cont hx l h
        | false => rw [ht] at h; exact rd _ h
    | late =>
      rw [hk] at h
      simp only at h ⊢
      cases hb : (!(Nat.blt q.i s.i) || s.b.testBit q.i) with
      | false => rw [hb] at h; cases h
      | true => rw [hb] at h; exact dyn2_cont hx l h
    | eff =>
      rw [hk] at h
      simp only at h ⊢
      cases hb : (!(Nat.blt q.i s.i) || s.b.testBit q.i) with
      | false => rw [hb] at h; cases h
      | true => rw [hb] at h; exact dyn2_cont hx l h
theorem dyn1_cont {all : List Stp} {xs : Nat → R} {x : R} {r : AV × Hp} (hx : x = some r → Ev fun j => xs j = some r) : ∀ (l : List Stp), dyn1 P all x l = some r → Ev fun j => dyn1 P all (xs j) l = some r
  | [], h => hx h
  | s :: l, h => by
    unfold dyn1 at h ⊢
    cases hk : s.k with
    | eff => rw [hk] at h; exact dyn2_cont (xs := fun j => dyn1 P all (xs j) l) (fun h => dyn1_cont hx l h) all h
    | pure => rw [hk] at h; exact dyn1_cont hx l h
    | read => rw [hk] at h; exact dyn1_cont hx l h
    | late => rw [hk] at h; exact dyn1_cont hx l h
theorem drawK_cont {cfs : Nat → CF} {cf : CF} (hcf : CfTo cfs cf) {ks : Nat → KN} {k : KN} (hk : KnTo ks k) {n : Nat} {ops : Array Oper} : ∀ (l : List Oper) (i : Nat) (bs : List Nat) (kn : List (Nat × AV)) (tp te : Tm) (hb h : Hp) (acc : List Stp) (r : AV × Hp), drawK P cf n ops i l bs kn tp te hb h acc k = some r →
    Ev fun j => drawK P (cfs j) n ops i l bs kn tp te hb h acc (ks j) = some r
  | [], i, bs, kn, tp, te, hb, h, acc, r, hr => by
    unfold drawK at hr ⊢
    exact dyn1_cont (xs := fun j => ks j te h) (fun q => hk te h r q) acc hr
  | o :: l, i, [], kn, tp, te, hb, h, acc, r, hr => by unfold drawK at hr; cases hr
  | o :: l, i, b :: bs, kn, tp, te, hb, h, acc, r, hr => by
    unfold drawK at hr ⊢
    cases hd : okD n o.dst with
    | false => rw [hd] at hr; cases hr
    | true =>
      rw [hd] at hr
      simp only [cond_true] at hr ⊢
      have rec1 := fun i bs kn tp te hb h acc hr => drawK_cont (n := n) (ops := ops) hcf hk l i bs kn tp te hb h acc r hr
      cases hg : o.guard with
      | none =>
        rw [hg] at hr
        simp only at hr ⊢
        cases hkd : kd P o <;> rw [hkd] at hr <;> simp only at hr ⊢
        · exact opK_cont (cfs := fun _ => noC) noC_to (fun v H h => rec1 _ _ _ _ _ _ _ _ h) hr
        · exact opK_cont (cfs := fun _ => noC) noC_to (fun v H h => rec1 _ _ _ _ _ _ _ _ h) hr
        · exact opK_cont (cfs := fun _ => noC) noC_to (fun v H h => rec1 _ _ _ _ _ _ _ _ h) hr
        · exact opK_cont hcf (fun v H h => rec1 _ _ _ _ _ _ _ _ h) hr
      | some p =>
        obtain ⟨q, want⟩ := p
        rw [hg] at hr
        simp only at hr ⊢
        cases hj : (ops[q]?).bind (·.dst) with
        | none =>
          rw [hj] at hr
          exact rec1 _ _ _ _ _ _ _ _ hr
        | some d =>
          rw [hj] at hr
          simp only at hr ⊢
          cases hl : lkn kn d with
          | some c =>
            rw [hl] at hr
            simp only at hr ⊢
            cases hw : wv want c with
            | none => rw [hw] at hr; cases hr
            | some w =>
              rw [hw] at hr
              cases w with
              | true =>
                simp only at hr ⊢
                cases hkd : kd P o <;> rw [hkd] at hr <;> simp only at hr ⊢
                · exact opK_cont (cfs := fun _ => noC) noC_to (fun v H h => rec1 _ _ _ _ _ _ _ _ h) hr
                · exact opK_cont (cfs := fun _ => noC) noC_to (fun v H h => rec1 _ _ _ _ _ _ _ _ h) hr
                · exact opK_cont (cfs := fun _ => noC) noC_to (fun v H h => rec1 _ _ _ _ _ _ _ _ h) hr
                · exact opK_cont hcf (fun v H h => rec1 _ _ _ _ _ _ _ _ h) hr
              | false => exact rec1 _ _ _ _ _ _ _ _ hr
          | none =>
            rw [hl] at hr
            simp only at hr ⊢
            unfold GD2 at hr ⊢
            split at hr
            · rename_i w hv
              cases hw : (w == want) with
              | true =>
                rw [hw] at hr
                simp only [cond_true] at hr ⊢
                cases hkd : kd P o <;> rw [hkd] at hr <;> simp only at hr ⊢
                · exact opK_cont (cfs := fun _ => noC) noC_to (fun v H h => rec1 _ _ _ _ _ _ _ _ h) hr
                · exact opK_cont (cfs := fun _ => noC) noC_to (fun v H h => rec1 _ _ _ _ _ _ _ _ h) hr
                · exact opK_cont (cfs := fun _ => noC) noC_to (fun v H h => rec1 _ _ _ _ _ _ _ _ h) hr
                · exact opK_cont hcf (fun v H h => rec1 _ _ _ _ _ _ _ _ h) hr
              | false =>
                rw [hw] at hr
                exact rec1 _ _ _ _ _ _ _ _ hr
            · cases hr
theorem regK_cont : RegCont (regK P) := by
  intro cfs cf kns kn n ops d t H r h1 h2 h
  unfold regK at h ⊢
  cases d with
  | false =>
    simp only [cond_false] at h ⊢
    exact seqK_cont h1 h2 _ _ _ _ h
  | true =>
    simp only [cond_true] at h ⊢
    cases hr : regOk ops with
    | false => rw [hr] at h; cases h
    | true =>
      rw [hr] at h
      simp only [cond_true] at h ⊢
      exact drawK_cont h1 h2 _ _ _ _ _ _ _ _ _ _ h
end
end K
end Go.Proofs.YtlomlkoimmpemaaGreatDoor.Am
namespace Go.Proofs.YtlomlkoimmpemaaGreatDoor.Am
set_option linter.unusedVariables false
namespace K
/-! what the printed texts of functions lean on -/
def sub : Code → List Nat → Code
  | c, [] => c
  | .seq a b, i :: r => match i with | 0 => sub a r | _ => sub b r
  | .cond _ a b, i :: r => match i with | 0 => sub a r | _ => sub b r
  | .block _ b, _ :: r => sub b r
  | .loop b, _ :: r => sub b r
  | c, _ :: _ => c
def atC (P : Program) (f : Nat) (path : List Nat) : Code := match P.funcs[f]? with
  | some fn => (match fn.body with | some b => sub b path | none => .skip)
  | none => .skip
def nT (P : Program) (f : Nat) : Nat := match P.funcs[f]? with | some fn => fn.ntmps | none => 0
def retK (P : Program) (f : Nat) : KN := fun t H => match P.funcs[f]? with | some fn => resK P t H fn.results.toList | none => none
noncomputable section
def loopK (P : Program) (reg : RegK) (cf : CF) (n : Nat) (b : Code) (x : An) (lv : List Nat) (ke : Nat → KN) (kr : KN) : Fn lv.length :=
  LP lv.length (fun k => abs lv.length fun l H => codeK P reg cf n b x (fun t H => app lv.length k (vals lv t) H) ke kr (mkT n lv l) H)
theorem loopK_eq {P : Program} {reg : RegK} (hreg : RegCont reg) (cf : CF) (n : Nat) (b : Code) (x : An) (lv : List Nat) (ke : Nat → KN) (kr : KN) (l : List AV) (hl : l.length = lv.length) (H : Hp) :
    app lv.length (loopK P reg cf n b x lv ke kr) l H = codeK P reg cf n b x (fun t H => app lv.length (loopK P reg cf n b x lv ke kr) (vals lv t) H) ke kr (mkT n lv l) H :=
  LP_eq hreg cf n b x lv ke kr l hl H
end
end K
end Go.Proofs.YtlomlkoimmpemaaGreatDoor.Am
namespace Go.Proofs.YtlomlkoimmpemaaGreatDoor.Am
set_option linter.unusedVariables false
set_option linter.unusedSimpArgs false
namespace K
/-! the same, written so that the kernel keeps the temporaries as a tree that is written out -/
section
def putCP : Pa → AV → Tm → (Tm → R) → R
  | .e, x, t, k => match t with | .nil => k (.node (some x) .nil .nil .nil .nil) | .node _ a b c d => k (.node (some x) a b c d)
  | .a p, x, t, k => match t with | .nil => putCP p x .nil fun q => k (.node none q .nil .nil .nil) | .node v a b c d => putCP p x a fun q => k (.node v q b c d)
  | .b p, x, t, k => match t with | .nil => putCP p x .nil fun q => k (.node none .nil q .nil .nil) | .node v a b c d => putCP p x b fun q => k (.node v a q c d)
  | .c p, x, t, k => match t with | .nil => putCP p x .nil fun q => k (.node none .nil .nil q .nil) | .node v a b c d => putCP p x c fun q => k (.node v a b q d)
  | .d p, x, t, k => match t with | .nil => putCP p x .nil fun q => k (.node none .nil .nil .nil q) | .node v a b c d => putCP p x d fun q => k (.node v a b c q)
theorem putCP_eq : ∀ (p : Pa) (x : AV) (t : Tm) (k : Tm → R), putCP p x t k = k (Tr.putP p (some x) t)
  | .e, x, t, k => by cases t <;> rfl
  | .a p, x, t, k => by cases t <;> (unfold putCP; simp only [putCP_eq p]; rfl)
  | .b p, x, t, k => by cases t <;> (unfold putCP; simp only [putCP_eq p]; rfl)
  | .c p, x, t, k => by cases t <;> (unfold putCP; simp only [putCP_eq p]; rfl)
  | .d p, x, t, k => by cases t <;> (unfold putCP; simp only [putCP_eq p]; rfl)
def putC (dst : Option Tmp) (v : AV) (t : Tm) (k : Tm → R) : R := match dst with | none => k t | some d => putCP (pathOf d) v t k
theorem putC_eq (dst : Option Tmp) (v : AV) (t : Tm) (k : Tm → R) : putC dst v t k = k (putK dst v t) := by
  cases dst with
  | none => rfl
  | some d => exact putCP_eq _ _ _ _
def FO (o : Option AV) (k : Option AV → R) : R := match o with | none => k none | some v => k (some v)
theorem FO_eq (o : Option AV) (k : Option AV → R) : FO o k = k o := by cases o <;> rfl
def FT : Tm → (Tm → R) → R
  | .nil, k => k .nil
  | .node v a b c d, k => FO v fun v => FT a fun a => FT b fun b => FT c fun c => FT d fun d => k (.node v a b c d)
theorem FT_eq : ∀ (t : Tm) (k : Tm → R), FT t k = k t
  | .nil, k => rfl
  | .node v a b c d, k => by unfold FT; rw [FO_eq, FT_eq a, FT_eq b, FT_eq c, FT_eq d]
def OE (o : Option AV) (k : AV → R) : R := match o with | some v => k v | none => k undefA
theorem OE_eq (o : Option AV) (k : AV → R) : OE o k = k (o.getD undefA) := by cases o <;> rfl

noncomputable section
variable (P : Program)
def evC (t : Tm) (x : Operand) (k : AV → R) : R := match x with
  | .tmp d => OE (t.get d) k
  | x => k (ev P.globals.size t x)
theorem evC_eq (t : Tm) (x : Operand) (k : AV → R) : evC P t x k = k (ev P.globals.size t x) := by
  cases x <;> first | rfl | exact OE_eq _ _
def opF (cf : CF) (o : Oper) (t : Tm) (H : Hp) (k : AV → Hp → R) : R := match o.op with
  | .move x => evC P t x fun v => k v H
  | .assign x => evC P t x fun v => k v H
  | _ => opK P cf o t H k
theorem opF_eq (cf : CF) (o : Oper) (t : Tm) (H : Hp) (k : AV → Hp → R) : opF P cf o t H k = opK P cf o t H k := by
  unfold opF
  split
  · rename_i x h
    rw [evC_eq]; unfold opK; rw [h]
  · rename_i x h
    rw [evC_eq]; unfold opK; rw [h]
  · rfl

abbrev JT := (m : Nat) → (Fn m → R) → Fn m → R
abbrev GT := AV → Bool → ((AV → Hp → R) → R) → (AV → Hp → R) → Hp → R
def seqF (G : GT) (cf : CF) (n : Nat) (ops : Array Oper) : List Oper → Tm → Hp → KN → R
  | [], t, H, k => k t H
  | o :: r, t, H, k => match okD n o.dst with
    | true => (match o.guard with
      | none => opF P cf o t H fun v H => putC o.dst v t fun t => seqF G cf n ops r t H k
      | some (j, want) => G (gv ops j t) want (fun k' => opF P cf o t H k') (fun v H => putC o.dst v t fun t => seqF G cf n ops r t H k) H)
    | false => none
theorem seqF_eq (cf : CF) (n : Nat) (ops : Array Oper) : ∀ (l : List Oper) (t : Tm) (H : Hp) (k : KN), seqF P GO cf n ops l t H k = seqK P cf n ops l t H k
  | [], t, H, k => rfl
  | o :: r, t, H, k => by
    unfold seqF seqK
    simp only [opF_eq, putC_eq, seqF_eq cf n ops r]
    cases okD n o.dst <;> rfl

def drawF (cf : CF) (n : Nat) (ops : Array Oper) : Nat → List Oper → List Nat → List (Nat × AV) → Tm → Tm → Hp → Hp → List Stp → KN → R
  | _, [], _, _, _, te, _, h, acc, k => dyn1 P acc (k te h) acc
  | _, _ :: _, [], _, _, _, _, _, _, _ => none
  | i, o :: r, b :: bs, kn, tp, te, hb, h, acc, k => match okD n o.dst with
    | true =>
      let go : List (Nat × AV) → Tm → R := fun kn tp => match kd P o with
        | .late => opF P noC o te h fun v h' => putC o.dst .junk tp fun tq => putC o.dst v te fun te => drawF cf n ops (i + 1) r bs (delK kn o.dst) tq te hb h' (acc ++ [⟨i, o, b, true, .late, v, tp, hb, hb⟩]) k
        | .eff => opF P cf o te h fun v h' => putC o.dst v tp fun tq => putC o.dst v te fun te => drawF cf n ops (i + 1) r bs (delK kn o.dst) tq te h' h' (acc ++ [⟨i, o, b, true, .eff, v, tp, hb, h'⟩]) k
        | .pure => opF P noC o tp hb fun v _ => putC o.dst v tp fun tq => putC o.dst v te fun te => drawF cf n ops (i + 1) r bs (delK kn o.dst) tq te hb h (acc ++ [⟨i, o, b, true, .pure, v, tp, hb, hb⟩]) k
        | .read => opF P noC o tp hb fun v _ => putC o.dst v tp fun tq => putC o.dst v te fun te => drawF cf n ops (i + 1) r bs (delK kn o.dst) tq te hb h (acc ++ [⟨i, o, b, true, .read, v, tp, hb, hb⟩]) k
      let skip : List (Nat × AV) → Tm → R := fun kn tp => putC o.dst undefA tp fun tq => putC o.dst undefA te fun te => drawF cf n ops (i + 1) r bs (addU kn o.dst) tq te hb h (acc ++ [⟨i, o, b, false, .pure, undefA, tp, hb, hb⟩]) k
      match o.guard with
      | none => go kn tp
      | some (j, want) => match (ops[j]?).bind (·.dst) with
        | none => skip kn tp
        | some d => match lkn kn d with
          | some c => (match wv want c with | some true => go kn tp | some false => skip kn tp | none => none)
          | none => GD2 ((tp.get d).getD undefA) want (putC (some d) (.bool want) tp fun tp => go ((d, .bool want) :: kn) tp) (putC (some d) (.bool !want) tp fun tp => skip ((d, .bool !want) :: kn) tp)
    | false => none
theorem drawF_eq (cf : CF) (n : Nat) (ops : Array Oper) : ∀ (l : List Oper) (i : Nat) (bs : List Nat) (kn : List (Nat × AV)) (tp te : Tm) (hb h : Hp) (acc : List Stp) (k : KN),
    drawF P cf n ops i l bs kn tp te hb h acc k = drawK P cf n ops i l bs kn tp te hb h acc k
  | [], i, bs, kn, tp, te, hb, h, acc, k => by unfold drawF drawK; rfl
  | o :: l, i, [], kn, tp, te, hb, h, acc, k => by unfold drawF drawK; rfl
  | o :: l, i, b :: bs, kn, tp, te, hb, h, acc, k => by
    unfold drawF drawK
    simp only [opF_eq, putC_eq, drawF_eq cf n ops l]
    cases okD n o.dst <;> rfl

def regF (G : GT) : RegK := fun cf n ops d t H k => match d with
  | true => (match regOk ops with | true => FT t fun t => drawF P cf n ops 0 ops.toList (before ops.toList []) [] t t H H [] k | false => none)
  | false => FT t fun t => seqF P G cf n ops ops.toList t H k
theorem regF_eq : regF P GO = regK P := by
  funext cf n ops d t H k
  unfold regF regK
  cases d with
  | false => simp only [cond_false, FT_eq, seqF_eq]
  | true =>
    simp only [cond_true]
    cases regOk ops <;> simp only [cond_true, cond_false, FT_eq, drawF_eq]

/-- a text of a function -/
def codeF (J : JT) (G : GT) (cf : CF) (n : Nat) : Code → An → KN → (Nat → KN) → KN → KN
  | .skip, _, kn, _, _ => kn
  | .label _, _, kn, _, _ => kn
  | .seq a b, an, kn, ke, kr => match an with
    | .sq none x y => codeF J G cf n a x (codeF J G cf n b y kn ke kr) ke kr
    | .sq (some lv) x y => fun t H => J lv.length (fun k => codeF J G cf n a x (fun t H => app lv.length k (vals lv t) H) ke kr t H) (abs lv.length fun l H => codeF J G cf n b y kn ke kr (mkT n lv l) H)
    | _ => fun _ _ => none
  | .cond c a b, an, kn, ke, kr => match an with
    | .cd x y => fun t H => CD (ev P.globals.size t c) (codeF J G cf n a x kn ke kr t H) (codeF J G cf n b y kn ke kr t H)
    | _ => fun _ _ => none
  | .block i b, an, kn, ke, kr => match an with
    | .bl none x => codeF J G cf n b x kn (fun j t H => match Nat.beq j i with | true => kn t H | false => ke j t H) kr
    | .bl (some lv) x => fun t H => J lv.length (fun k => codeF J G cf n b x (fun t H => app lv.length k (vals lv t) H) (fun j t H => match Nat.beq j i with | true => app lv.length k (vals lv t) H | false => ke j t H) kr t H) (abs lv.length fun l H => kn (mkT n lv l) H)
    | _ => fun _ _ => none
  | .loop b, an, kn, ke, kr => match an with
    | .lp lv x => fun t H => app lv.length (LP lv.length (fun k => abs lv.length fun l H => codeF J G cf n b x (fun t H => app lv.length k (vals lv t) H) ke kr (mkT n lv l) H)) (vals lv t) H
    | _ => fun _ _ => none
  | .exit i, _, _, ke, _ => ke i
  | .ret, _, _, _, kr => kr
  | .region _ ops d, _, kn, _, _ => fun t H => regF P G cf n ops d t H kn
  | _, _, _, _, _ => fun _ _ => none
theorem bif_match {α : Type} (b : Bool) (x y : α) : (match b with | true => x | false => y) = bif b then x else y := by cases b <;> rfl
theorem codeF_eq (cf : CF) (n : Nat) : ∀ (c : Code) (an : An) (kn : KN) (ke : Nat → KN) (kr : KN), codeF P JN GO cf n c an kn ke kr = codeK P (regK P) cf n c an kn ke kr := by
  intro c
  induction c with
  | seq a b ia ib =>
    intro an kn ke kr
    unfold codeF codeK
    cases an with
    | sq j x y => cases j <;> simp only [ia, ib]
    | _ => rfl
  | cond q a b ia ib =>
    intro an kn ke kr
    unfold codeF codeK
    cases an with
    | cd x y => simp only [ia, ib]
    | _ => rfl
  | block i b ib =>
    intro an kn ke kr
    unfold codeF codeK
    cases an with
    | bl j x => cases j <;> simp only [ib, bif_match]
    | _ => rfl
  | loop b ib =>
    intro an kn ke kr
    unfold codeF codeK
    cases an with
    | lp lv x => simp only [ib]
    | _ => rfl
  | region id ops d =>
    intro an kn ke kr
    unfold codeF codeK
    rw [regF_eq]
  | _ => intro an kn ke kr; unfold codeF codeK; rfl
def bodyF (J : JT) (G : GT) (cf : CF) (fn : Func) (an : An) (b : Code) (args : List AV) (H : Hp) : R :=
  codeF P J G cf fn.ntmps b an (fun t H => resK P t H fn.results.toList) (fun _ _ _ => none) (fun t H => resK P t H fn.results.toList) (begT fn.ntmps args) H
/-- the call of a function that has a text -/
def callF (J : JT) (G : GT) (prim : Nat → Option Prim) (an : Nat → An) (cf : CF) (fid : Nat) (args : List AV) (H : Hp) : R :=
  match prim fid with
  | some _ => none
  | none => match P.funcs[fid]? with
    | some fn => match fn.body with
      | some b => match Nat.ble args.length fn.ntmps && Nat.blt fn.ntmps 4294967296 && (an fid).ok fn.ntmps with
        | true => bodyF P J G cf fn (an fid) b args H
        | false => none
      | none => none
    | none => none
def loopF (J : JT) (G : GT) (cf : CF) (n : Nat) (b : Code) (x : An) (lv : List Nat) (ke : Nat → KN) (kr : KN) : Fn lv.length :=
  LP lv.length (fun k => abs lv.length fun l H => codeF P J G cf n b x (fun t H => app lv.length k (vals lv t) H) ke kr (mkT n lv l) H)
end
variable {P : Program} {ext : Nat → Option Ext} {prim : Nat → Option Prim} {an : Nat → An}
theorem callF_fix {fid : Nat} {first args cap : List AV} {H : Hp} {r : AV × Hp} (h : callF P JN GO prim an (CK P (regK P) ext prim an) fid (first ++ args ++ cap) H = some r) : CK P (regK P) ext prim an (.func (.func fid) first cap) args H = some r := by
  refine CK_fix regK_cont ?_
  unfold callF at h
  unfold callK
  simp only
  split at h
  · cases h
  · rename_i hp
    rw [hp]
    simp only
    split at h
    · rename_i fn hf
      rw [hf]
      simp only
      split at h
      · rename_i b hb
        rw [hb]
        simp only
        split at h
        · rename_i hc
          rw [hc]
          unfold bodyF at h
          rw [codeF_eq] at h
          exact h
        · cases h
      · cases h
    · cases h
theorem loopF_eq (cf : CF) (n : Nat) (b : Code) (x : An) (lv : List Nat) (ke : Nat → KN) (kr : KN) (l : List AV) (hl : l.length = lv.length) (H : Hp) :
    app lv.length (loopF P JN GO cf n b x lv ke kr) l H = codeF P JN GO cf n b x (fun t H => app lv.length (loopF P JN GO cf n b x lv ke kr) (vals lv t) H) ke kr (mkT n lv l) H := by
  have h : loopF P JN GO cf n b x lv ke kr = loopK P (regK P) cf n b x lv ke kr := by unfold loopF loopK; simp only [codeF_eq]
  rw [h, codeF_eq]
  exact loopK_eq regK_cont cf n b x lv ke kr l hl H
end
end K
end Go.Proofs.YtlomlkoimmpemaaGreatDoor.Am
