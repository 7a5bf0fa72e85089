/- A closed call run once; the evaluator with continuations, its soundness and its limits (of no program). -/
import Derived.Test.YtlomlkoimmpemaaGreatDoorAm9
set_option linter.unusedVariables false
set_option linter.unusedSimpArgs false
namespace Go.Proofs.YtlomlkoimmpemaaGreatDoor.Am
open Go.RowKit
set_option linter.unusedVariables false
set_option linter.unusedSimpArgs false

/-! A closed call, run once and for all: it answers true wherever the listed variables stand, and changes nothing that is there. -/
def smallV (N : Nat) : AV → Bool
  | .bool _ | .int _ _ | .str _ | .ptr0 | .slice0 | .map0 | .nilFunc | .nilIface => true
  | .ptr i _ => Nat.blt i N
  | .iface _ v => smallV N v
  | _ => false
def cutE (e : Em) (n : Nat → Nat) (N : Nat) : Em := { b := e.b, d := e.d, n := n, N := N }
theorem VR.cut {e : Em} {n : Nat → Nat} {N : Nat} {v : AV} {v' : Value} (h : VR e v v') (hs : smallV N v = true) : VR (cutE e n N) v v' := by
  induction h with
  | bool b => exact .bool b
  | int k z => exact .int k z
  | str s => exact .str s
  | ptr0 => exact .ptr0
  | slice0 => exact .slice0
  | map0 => exact .map0
  | nilFunc => exact .nilFunc
  | nilIface => exact .nilIface
  | ptr i off o hi ho =>
    have : i < N := by simpa [smallV, Nat.blt_eq] using hs
    exact .ptr (e := cutE e n N) i off o this ho
  | iface t v v' _ ih => exact .iface t v v' (ih hs)
  | _ => cases hs

def hasT (H : Hp) (L : List (Nat × List AV)) : Prop := ∃ el : Nat → TypeId, ∀ g l, (g, l) ∈ L → H.h.get g = some (.cells (Tr.puts .nil 0 l) 0 l.length (el g) 2)
noncomputable section
open Classical in
def oneP (L : List (Nat × List AV)) (N : Nat) : Prim := fun args H => if args = [] ∧ hasT H L ∧ N ≤ H.next then some (.bool true, H) else none
end

theorem cut_RH {G N : Nat} {F : Nat → Prop} {W : World} {e : Em} {H : Hp} {w : World} (hR : RH G F W e H w) {L : List (Nat × List AV)} {el : Nat → TypeId} (hG : G < N) (hle : N ≤ H.next)
    (hL : ∀ g l, (g, l) ∈ L → g < G ∧ g < 4294967296 ∧ l.length < 4294967296 ∧ ∀ v ∈ l, smallV N v = true) (hT : ∀ g l, (g, l) ∈ L → H.h.get g = some (.cells (Tr.puts .nil 0 l) 0 l.length (el g) 2)) :
    RH G (fun k => k < w.heap.size) w (cutE e (fun i => if i = G then w.heap.size else e.n i) N) ⟨layO el L, N⟩ w := by
  have key : ∀ i o, (layO el L).get i = some o → i < G ∧ H.h.get i = some o ∧ ∃ l, (i, l) ∈ L ∧ o = .cells (Tr.puts .nil 0 l) 0 l.length (el i) 2 := by
    intro i o h
    obtain ⟨l, hm, rfl⟩ := layO_get _ L (fun x hx => (hL x.1 x.2 hx).2.1) i o h
    exact ⟨(hL i l hm).1, hT i l hm, l, hm, rfl⟩
  refine ⟨rfl, ?_, ?_, ?_, fun k hk => ⟨hk, rfl⟩, rfl, rfl, rfl, Nat.le_refl _, hR.gsz.1, hG, by simp [cutE]⟩
  · intro i o h
    obtain ⟨hi, hg, l, hm, rfl⟩ := key i o h
    obtain ⟨_, ob, hob, hor, _⟩ := hR.obj i _ hg
    refine ⟨Nat.lt_trans hi hG, ob, hob, ?_, ?_⟩
    · obtain ⟨_, _, hl, hs⟩ := hL i l hm
      cases hor with
      | cells _ _ _ _ _ C fz hn hcc h0 h1 hd =>
        refine .cells _ 0 l.length _ 2 C fz ?_ ?_ (by simp) (by simp) hd
        · simp only [cutE]; rw [if_neg (by omega)]; exact hn
        · intro k v a b hk
          obtain ⟨k', h2, v', h3, h4⟩ := hcc k v a b hk
          refine ⟨k', h2, v', h3, ?_⟩
          have hv : v ∈ l := by
            rw [Tr.get_puts (α := AV) .nil _ _ _ _ (by omega), if_pos (by omega), Nat.sub_zero] at hk
            exact List.mem_of_getElem? hk
          exact h4.cut (hs v hv)
    · intro q hF
      rcases q with q | q
      · cases q
      · simp [cutE] at q
        have := (Array.getElem?_eq_some_iff.1 hob).1
        omega
  · intro i j oi oj h1 h2 hq e
    obtain ⟨hi, hg, l, hm, rfl⟩ := key i oi h1
    obtain ⟨_, ob, hob, hor, _⟩ := hR.obj i _ hg
    rcases hq with q | q
    · cases q
    · simp [cutE] at q
      have := (Array.getElem?_eq_some_iff.1 hob).1
      omega
  · intro g hg
    obtain ⟨a, b, c⟩ := hR.glob g hg
    exact ⟨Nat.lt_trans hg hG, b, c⟩

theorem one_ok {P : Program} {ext : Nat → Option Ext} {prim : Nat → Option Prim} (hm : P.follows .mixedOrders = true) (hN : NamesOK P) (hE : ExtOK P ext) (hP : PrimOK P prim) {fuel g N : Nat} {fn : Func} {b : Code}
    (hf : P.funcs[g]? = some fn) (hb : fn.body = some b) {L : List (Nat × List AV)} (hG : P.globals.size < N) (hL : ∀ g l, (g, l) ∈ L → g < P.globals.size ∧ g < 4294967296 ∧ l.length < 4294967296 ∧ ∀ v ∈ l, smallV N v = true)
    (h : ∀ el, retTrue (callA P ext prim fuel g [] ⟨layO el L, N⟩) = true) : PrimOne P g (oneP L N) := by
  intro args H v H' hp F W e w as' hR hargs
  unfold oneP at hp
  split at hp
  · rename_i hc
    obtain ⟨rfl, ⟨el, hT⟩, hle⟩ := hc
    cases hp
    have has : as' = #[] := by
      have := hargs.nil_inv
      cases as'; simp_all
    subst has
    refine ⟨run_enter hN hf hb #[] w, ?_⟩
    refine (closed_true hm hN hE hP hf hb (h el) (cut_RH hR hG hle hL hT)).mono fun en w' ⟨h1, h2⟩ => ?_
    exact ⟨e, _, h1, e.le_refl, hR.below h2, .bool true⟩
  · cases hp
end Go.Proofs.YtlomlkoimmpemaaGreatDoor.Am
namespace Go.Proofs.YtlomlkoimmpemaaGreatDoor.Am
set_option linter.unusedVariables false
set_option linter.unusedSimpArgs false

/-! The evaluator once more, with continuations: what a function does as a plain function of its values and of the heap. -/
namespace K
abbrev R := Option (AV × Hp)

def B1 {α : Type} (o : Option α) (k : α → R) : R := match o with | some v => k v | none => none
def B2 (o : Option (AV × Hp)) (k : AV → Hp → R) : R := match o with | some p => k p.1 p.2 | none => none
theorem B1_some {α : Type} {o : Option α} {k : α → R} {r : AV × Hp} (h : B1 o k = some r) : ∃ v, o = some v ∧ k v = some r := by
  cases o with
  | none => cases h
  | some v => exact ⟨v, rfl, h⟩
theorem B2_some {o : Option (AV × Hp)} {k : AV → Hp → R} {r : AV × Hp} (h : B2 o k = some r) : ∃ v H, o = some (v, H) ∧ k v H = some r := by
  cases o with
  | none => cases h
  | some p => exact ⟨p.1, p.2, rfl, h⟩

def ld (x : AV) (H : Hp) : Option AV := match x with | .ptr i o => cellAt H i o | _ => none
def lda (n : Nat) (x : AV) (H : Hp) : Option AV := match x with | .ptr i o => (cellsAt H i o n).map .agg | _ => none
def BN (o : Option (Nat × Hp)) (k : Nat → Hp → R) : R := match o with | some p => k p.1 p.2 | none => none
theorem BN_some {o : Option (Nat × Hp)} {k : Nat → Hp → R} {r : AV × Hp} (h : BN o k = some r) : ∃ i H, o = some (i, H) ∧ k i H = some r := by
  cases o with
  | none => cases h
  | some p => exact ⟨p.1, p.2, rfl, h⟩
/-- go on if it is so -/
def IFT (b : Bool) (x : R) : R := bif b then x else none

/-- functions of several values and of the heap -/
@[reducible] def Fn : Nat → Type
  | 0 => Hp → R
  | m + 1 => AV → Fn m
def app : (m : Nat) → Fn m → List AV → Hp → R
  | 0, f, l, H => match l with | [] => f H | _ :: _ => none
  | m + 1, f, l, H => match l with | [] => none | x :: l => app m (f x) l H
def abs : (m : Nat) → (List AV → Hp → R) → Fn m
  | 0, g => fun H => g [] H
  | m + 1, g => fun x => abs m (fun l => g (x :: l))
theorem app_abs : ∀ (m : Nat) (g : List AV → Hp → R) (l : List AV) (H : Hp), l.length = m → app m (abs m g) l H = g l H
  | 0, g, [], H, _ => rfl
  | 0, g, _ :: _, H, h => by simp at h
  | m + 1, g, [], H, h => by simp at h
  | m + 1, g, x :: l, H, h => app_abs m (fun l => g (x :: l)) l H (by simpa using h)

/-- a join of roads -/
def JN (m : Nat) (f : Fn m → R) (k : Fn m) : R := f k

noncomputable section
open Classical in
/-- the answer that comes from some place on -/
def lim (f : Nat → R) : R := if h : ∃ r L, f L = some r then some h.choose else none
theorem lim_some {f : Nat → R} {r : AV × Hp} (h : lim f = some r) : ∃ L, f L = some r := by
  unfold lim at h
  split at h
  · rename_i q
    rw [← Option.some.inj h]
    exact q.choose_spec
  · cases h
theorem lim_of {f : Nat → R} {r : AV × Hp} {L : Nat} (h : f L = some r) (hu : ∀ L L' r r', f L = some r → f L' = some r' → r = r') : lim f = some r := by
  have q : ∃ r L, f L = some r := ⟨r, L, h⟩
  unfold lim
  rw [dif_pos q]
  obtain ⟨L', hL'⟩ := q.choose_spec
  rw [hu L' L _ _ hL' h]

def iterL (m : Nat) (B : Fn m → Fn m) : Nat → Fn m
  | 0 => abs m (fun _ _ => none)
  | L + 1 => B (iterL m B L)
/-- a loop -/
def LP (m : Nat) (B : Fn m → Fn m) : Fn m := abs m (fun l H => lim (fun L => app m (iterL m B L) l H))
end

/-- a test -/
def CD (c : AV) (x y : R) : R := match c with | .bool q => bif q then x else y | _ => none

/-! temporaries -/
def vals (lv : List Nat) (t : Tm) : List AV := lv.map fun d => (t.get d).getD undefA
theorem vals_length (lv : List Nat) (t : Tm) : (vals lv t).length = lv.length := by simp [vals]
def setT : List Nat → List AV → Tm → Tm
  | d :: lv, v :: l, t => setT lv l (t.put 34 d v)
  | _, _, t => t
def mkT (n : Nat) (lv : List Nat) (l : List AV) : Tm := setT lv l (Tr.puts .nil 0 (List.replicate n .junk))

/-- what is told beside a text: which temporaries are alive at its joins and loops -/
inductive An where
  | nl
  | sq (j : Option (List Nat)) (a b : An)
  | cd (a b : An)
  | bl (j : Option (List Nat)) (a : An)
  | lp (lv : List Nat) (a : An)

abbrev KN := Tm → Hp → R
abbrev RegK := CF → Nat → Array Oper → Bool → Tm → Hp → KN → R

noncomputable section
variable (P : Program) (reg : RegK)
def codeK (cf : CF) (n : Nat) : Code → An → KN → (Nat → KN) → KN → KN
  | .skip, _, kn, _, _ => kn
  | .label _, _, kn, _, _ => kn
  | .seq a b, an, kn, ke, kr => match an with
    | .sq none x y => codeK cf n a x (codeK cf n b y kn ke kr) ke kr
    | .sq (some lv) x y => fun t H => JN lv.length (fun k => codeK cf n a x (fun t H => app lv.length k (vals lv t) H) ke kr t H) (abs lv.length fun l H => codeK cf n b y kn ke kr (mkT n lv l) H)
    | _ => fun _ _ => none
  | .cond c a b, an, kn, ke, kr => match an with
    | .cd x y => fun t H => CD (ev P.globals.size t c) (codeK cf n a x kn ke kr t H) (codeK cf n b y kn ke kr t H)
    | _ => fun _ _ => none
  | .block i b, an, kn, ke, kr => match an with
    | .bl none x => codeK cf n b x kn (fun j t H => bif Nat.beq j i then kn t H else ke j t H) kr
    | .bl (some lv) x => fun t H => JN lv.length (fun k => codeK cf n b x (fun t H => app lv.length k (vals lv t) H) (fun j t H => bif Nat.beq j i then app lv.length k (vals lv t) H else ke j t H) kr t H) (abs lv.length fun l H => kn (mkT n lv l) H)
    | _ => fun _ _ => none
  | .loop b, an, kn, ke, kr => match an with
    | .lp lv x => fun t H => app lv.length (LP lv.length (fun k => abs lv.length fun l H => codeK cf n b x (fun t H => app lv.length k (vals lv t) H) ke kr (mkT n lv l) H)) (vals lv t) H
    | _ => fun _ _ => none
  | .exit i, _, _, ke, _ => ke i
  | .ret, _, _, _, kr => kr
  | .region _ ops d, _, kn, _, _ => fun t H => reg cf n ops d t H kn
  | _, _, _, _, _ => fun _ _ => none
end

/-! sound -/
/-- regions answer as the evaluator's regions do -/
def RegSound (P : Program) (reg : RegK) : Prop :=
  ∀ (cf : CF) (n : Nat) (ops : Array Oper) (d : Bool) (t : Tm) (H : Hp) (k : KN) (r : AV × Hp), reg cf n ops d t H k = some r →
    ∃ t' H', (bif d then drawOps P cf n ops t H else seqOps P cf n ops ops.toList t H) = some (t', H') ∧ k t' H' = some r

def TRK (e : Em) (n : Nat) (t : Tm) (a : Act) : Prop := TR e n t a ∧ ∀ d, n ≤ d → t.get d = none

theorem get_puts_k {α : Type} : ∀ (l : List α) (t : Tr α) (n m : Nat), (t.puts n l).get m = if n ≤ m ∧ m < n + l.length then l[m - n]? else t.get m
  | [], t, n, m => by
    rw [if_neg (by simp only [List.length_nil]; omega)]; rfl
  | x :: l, t, n, m => by
    rw [Tr.puts, get_puts_k l, Tr.put, Tr.get_putP]
    by_cases h1 : m = n
    · subst h1
      rw [if_neg (by omega), if_pos rfl, if_pos (by simp)]; simp
    · by_cases h2 : n + 1 ≤ m ∧ m < n + 1 + l.length
      · rw [if_pos h2, if_pos (by simp; omega)]
        have : m - n = (m - (n + 1)) + 1 := by omega
        rw [this, List.getElem?_cons_succ]
      · rw [if_neg h2, if_neg h1, if_neg (by simp; omega)]

theorem setT_get : ∀ (lv : List Nat) (l : List AV) (t : Tm) (d : Nat) (p : Option AV → Prop), (∀ (x : Nat) (v : AV), x ∈ lv → (∃ i : Nat, lv[i]? = some x ∧ l[i]? = some v) → x = d → p (some v)) → p (t.get d) → p ((setT lv l t).get d)
  | [], l, t, d, p, _, h => by cases l <;> exact h
  | x :: lv, [], t, d, p, _, h => h
  | x :: lv, v :: l, t, d, p, hp, h => by
    refine setT_get lv l (t.put 34 x v) d p (fun y u hy ⟨i, h1, h2⟩ he => hp y u (.tail _ hy) ⟨i + 1, by simpa using h1, by simpa using h2⟩ he) ?_
    rw [Tr.put, Tr.get_putP]
    by_cases hd : d = x
    · rw [if_pos hd]
      exact hp x v (.head _) ⟨0, rfl, rfl⟩ hd.symm
    · rw [if_neg hd]; exact h

theorem TRK.keep {e : Em} {n : Nat} {t : Tm} {a : Act} (h : TRK e n t a) {lv : List Nat} (hlv : ∀ d ∈ lv, d < n) : TRK e n (mkT n lv (vals lv t)) a := by
  refine ⟨⟨h.1.size, fun d => ?_⟩, fun d hd => ?_⟩
  · unfold mkT
    refine setT_get lv (vals lv t) _ d (fun o => VR e (o.getD undefA) (a.tmps.getD d undef)) ?_ ?_
    · rintro x v _ ⟨i, h1, h2⟩ rfl
      unfold vals at h2
      rw [List.getElem?_map, h1] at h2
      cases h2
      exact h.1.val x
    · rw [get_puts_k]
      split
      · rename_i q
        rw [List.getElem?_replicate]
        simp only [List.length_replicate, Nat.zero_add] at q
        rw [if_pos (by omega)]
        exact .junk _
      · rename_i q
        simp only [List.length_replicate, Nat.zero_add, Nat.zero_le, true_and, Nat.not_lt] at q
        rw [Tr.get_nil]
        have := h.1.val d
        rw [h.2 d q] at this
        exact this
  · unfold mkT
    refine setT_get lv (vals lv t) _ d (fun o => o = none) ?_ ?_
    · intro x v hx _ he
      have := hlv x hx
      omega
    · rw [get_puts_k, if_neg (by simp; omega), Tr.get_nil]

/-- the temporaries that an annotation names are there -/
def An.ok (n : Nat) : An → Bool
  | .nl => true
  | .sq j a b => (j.getD []).all (fun d => Nat.blt d n) && a.ok n && b.ok n
  | .cd a b => a.ok n && b.ok n
  | .bl j a => (j.getD []).all (fun d => Nat.blt d n) && a.ok n
  | .lp lv a => lv.all (fun d => Nat.blt d n) && a.ok n
theorem all_lt {n : Nat} {lv : List Nat} (h : lv.all (fun d => Nat.blt d n) = true) : ∀ d ∈ lv, d < n := fun d hd => by
  have := List.all_eq_true.1 h d hd
  rwa [Nat.blt_eq] at this
end K
end Go.Proofs.YtlomlkoimmpemaaGreatDoor.Am
namespace Go.Proofs.YtlomlkoimmpemaaGreatDoor.Am
set_option linter.unusedVariables false
set_option linter.unusedSimpArgs false
namespace K
variable {P : Program} {reg : RegK}

theorem putD_hi {n : Nat} {dst : Option Tmp} {v : AV} {t t' : Tm} (h : putD n dst v t = some t') (ht : ∀ d, n ≤ d → t.get d = none) : ∀ d, n ≤ d → t'.get d = none := by
  intro d hd
  unfold putD at h
  split at h
  · cases h; exact ht d hd
  · rename_i x
    cases hb : (Nat.blt x n && Nat.blt x 4294967296) with
    | false => rw [hb] at h; cases h
    | true =>
      rw [hb] at h
      cases h
      simp only [Bool.and_eq_true, Nat.blt_eq] at hb
      rw [Tr.put, Tr.get_putP, if_neg (by omega)]
      exact ht d hd
theorem seqOps_hi {cf : CF} {n : Nat} {ops : Array Oper} : ∀ (l : List Oper) (t t' : Tm) (H H' : Hp), seqOps P cf n ops l t H = some (t', H') → (∀ d, n ≤ d → t.get d = none) → ∀ d, n ≤ d → t'.get d = none
  | [], t, t', H, H', h, ht => by cases h; exact ht
  | o :: l, t, t', H, H', h, ht => by
    unfold seqOps at h
    split at h
    · split at h
      · split at h
        · rename_i t1 hp
          exact seqOps_hi l _ _ _ _ h (putD_hi hp ht)
        · cases h
      · cases h
    · split at h
      · rename_i t1 hp
        exact seqOps_hi l _ _ _ _ h (putD_hi hp ht)
      · cases h
    · cases h
theorem drawRun_hi {cf : CF} {n : Nat} {ops : Array Oper} : ∀ (l : List Oper) (i : Nat) (bs : List Nat) (tp te : Tm) (hb h : Hp) (s : List Stp) (t' : Tm) (H' : Hp), drawRun P cf n ops i l bs tp te hb h = some (s, t', H') → (∀ d, n ≤ d → te.get d = none) → ∀ d, n ≤ d → t'.get d = none
  | [], i, bs, tp, te, hb, h, s, t', H', hr, ht => by unfold drawRun at hr; cases hr; exact ht
  | o :: l, i, [], tp, te, hb, h, s, t', H', hr, ht => by unfold drawRun at hr; cases hr
  | o :: l, i, b :: bs, tp, te, hb, h, s, t', H', hr, ht => by
    unfold drawRun at hr
    split at hr
    · split at hr
      · split at hr
        · split at hr
          · rename_i h1 h2
            simp only [Option.map_eq_some_iff] at hr
            obtain ⟨⟨s2, t2, H2⟩, h3, h4⟩ := hr
            cases h4
            exact drawRun_hi l _ _ _ _ _ _ _ _ _ h3 (putD_hi h2 ht)
          · cases hr
        · cases hr
      · split at hr
        · split at hr
          · rename_i h1 h2
            simp only [Option.map_eq_some_iff] at hr
            obtain ⟨⟨s2, t2, H2⟩, h3, h4⟩ := hr
            cases h4
            exact drawRun_hi l _ _ _ _ _ _ _ _ _ h3 (putD_hi h2 ht)
          · cases hr
        · cases hr
      · split at hr
        · split at hr
          · rename_i h1 h2
            simp only [Option.map_eq_some_iff] at hr
            obtain ⟨⟨s2, t2, H2⟩, h3, h4⟩ := hr
            cases h4
            exact drawRun_hi l _ _ _ _ _ _ _ _ _ h3 (putD_hi h2 ht)
          · cases hr
        · cases hr
    · split at hr
      · rename_i h1 h2
        simp only [Option.map_eq_some_iff] at hr
        obtain ⟨⟨s2, t2, H2⟩, h3, h4⟩ := hr
        cases h4
        exact drawRun_hi l _ _ _ _ _ _ _ _ _ h3 (putD_hi h2 ht)
      · cases hr
    · cases hr
theorem reg_hi {cf : CF} {n : Nat} {ops : Array Oper} {d : Bool} {t t' : Tm} {H H' : Hp} (h : (bif d then drawOps P cf n ops t H else seqOps P cf n ops ops.toList t H) = some (t', H')) (ht : ∀ x, n ≤ x → t.get x = none) : ∀ x, n ≤ x → t'.get x = none := by
  cases d with
  | false => exact seqOps_hi _ _ _ _ _ h ht
  | true =>
    simp only [cond_true] at h
    unfold drawOps at h
    cases hr : regOk ops with
    | false => rw [hr] at h; cases h
    | true =>
      rw [hr] at h
      simp only [cond_true] at h
      split at h
      · rename_i l t1 H1 hrun
        cases hd : dynOk P l with
        | false => rw [hd] at h; cases h
        | true =>
          rw [hd] at h
          cases h
          exact drawRun_hi _ _ _ _ _ _ _ _ _ _ hrun ht
      · cases h

/-- what a continuation owes -/
def OKn (P : Program) (r : AV × Hp) (F : Nat → Prop) (W : World) (n : Nat) (e : Em) (ds : List Deferred) (kn : KN) (ex : Exit) (Q : Exit → Act → World → Prop) : Prop :=
  ∀ e' a' w' t' H', e.le e' → RH P.globals.size F W e' H' w' → TRK e' n t' a' → a'.defers = ds → kn t' H' = some r → Q ex a' w'
theorem OKn.mono {r : AV × Hp} {F : Nat → Prop} {W : World} {n : Nat} {e e2 : Em} {ds : List Deferred} {kn : KN} {ex : Exit} {Q : Exit → Act → World → Prop} (h : OKn P r F W n e ds kn ex Q) (he : e.le e2) : OKn P r F W n e2 ds kn ex Q :=
  fun e' a' w' t' H' h1 => h e' a' w' t' H' (Em.le_trans he h1)

theorem jn_app {m n : Nat} {lv : List Nat} {k : List AV → Hp → R} {t : Tm} {H : Hp} (hm : lv.length = m) : app m (abs m k) (vals lv t) H = k (vals lv t) H := app_abs m k _ H (by rw [vals_length]; exact hm)

theorem codeK_sound (hm : P.follows .mixedOrders = true) (hreg : RegSound P reg) {cf : CF} (hcf : CFS P cf) {n : Nat} : ∀ (c : Code) (an : An) (kn : KN) (ke : Nat → KN) (kr : KN) (t : Tm) (H : Hp) (r : AV × Hp), an.ok n = true → codeK P reg cf n c an kn ke kr t H = some r →
    ∀ (F : Nat → Prop) (W : World) (e : Em) (a : Act) (w : World) (Q : Exit → Act → World → Prop), RH P.globals.size F W e H w → TRK e n t a →
      OKn P r F W n e a.defers kn .normal Q → (∀ i, OKn P r F W n e a.defers (ke i) (.exit i) Q) → OKn P r F W n e a.defers kr .ret Q → c.wp P Q a w := by
  intro c
  induction c with
  | skip =>
    intro an kn ke kr t H r ha hc F W e a w Q hR hT hkn hke hkr
    unfold codeK at hc
    exact wp_skip (hkn e a w t H e.le_refl hR hT rfl hc)
  | label l =>
    intro an kn ke kr t H r ha hc F W e a w Q hR hT hkn hke hkr
    unfold codeK at hc
    exact wp_label (hkn e a w t H e.le_refl hR hT rfl hc)
  | seq c1 c2 i1 i2 =>
    intro an kn ke kr t H r ha hc F W e a w Q hR hT hkn hke hkr
    unfold codeK at hc
    refine wp_seq ?_
    split at hc
    · rename_i x y
      simp only [An.ok, Bool.and_eq_true] at ha
      refine i1 x _ _ _ t H r ha.1.2 hc F W e a w _ hR hT ?_ ?_ ?_
      · intro e' a' w' t' H' he hR' hT' hd hk
        refine i2 y _ _ _ t' H' r ha.2 hk F W e' a' w' Q hR' hT' ?_ ?_ ?_
        · rw [hd]; exact hkn.mono he
        · intro i; rw [hd]; exact (hke i).mono he
        · rw [hd]; exact hkr.mono he
      · intro i e' a' w' t' H' he hR' hT' hd hk
        exact hke i e' a' w' t' H' he hR' hT' hd hk
      · intro e' a' w' t' H' he hR' hT' hd hk
        exact hkr e' a' w' t' H' he hR' hT' hd hk
    · rename_i lv x y
      simp only [An.ok, Bool.and_eq_true, Option.getD_some] at ha
      have hlv := all_lt ha.1.1
      unfold JN at hc
      refine i1 x _ _ _ t H r ha.1.2 hc F W e a w _ hR hT ?_ ?_ ?_
      · intro e' a' w' t' H' he hR' hT' hd hk
        replace hk := (jn_app (n := n) rfl).symm.trans hk
        refine i2 y _ _ _ _ H' r ha.2 hk F W e' a' w' Q hR' (hT'.keep hlv) ?_ ?_ ?_
        · rw [hd]; exact hkn.mono he
        · intro i; rw [hd]; exact (hke i).mono he
        · rw [hd]; exact hkr.mono he
      · intro i e' a' w' t' H' he hR' hT' hd hk
        exact hke i e' a' w' t' H' he hR' hT' hd hk
      · intro e' a' w' t' H' he hR' hT' hd hk
        exact hkr e' a' w' t' H' he hR' hT' hd hk
    · cases hc
  | cond x c1 c2 i1 i2 =>
    intro an kn ke kr t H r ha hc F W e a w Q hR hT hkn hke hkr
    unfold codeK at hc
    split at hc
    · rename_i y z
      simp only [An.ok, Bool.and_eq_true] at ha
      unfold CD at hc
      split at hc
      · rename_i b hb
        have hv := VR.ev hR hT.1 x
        rw [hb] at hv
        refine wp_cond hv.bool_inv ?_
        cases b with
        | true => exact i1 y _ _ _ t H r ha.1 hc F W e a w Q hR hT hkn hke hkr
        | false => exact i2 z _ _ _ t H r ha.2 hc F W e a w Q hR hT hkn hke hkr
      · cases hc
    · cases hc
  | block i b ib =>
    intro an kn ke kr t H r ha hc F W e a w Q hR hT hkn hke hkr
    unfold codeK at hc
    refine wp_block ?_
    have inb : ∀ (j : Nat) (e' : Em) (a' : Act) (w' : World) (t' : Tm) (H' : Hp) (q : KN), e.le e' → RH P.globals.size F W e' H' w' → TRK e' n t' a' → a'.defers = a.defers →
        (∀ e' a' w' t' H', e.le e' → RH P.globals.size F W e' H' w' → TRK e' n t' a' → a'.defers = a.defers → q t' H' = some r → Q .normal a' w') →
        (bif Nat.beq j i then q t' H' else ke j t' H') = some r → Exit.inBlock i Q (.exit j) a' w' := by
      intro j e' a' w' t' H' q he hR' hT' hd hq hk
      show (if j = i then Q .normal a' w' else Q (.exit j) a' w')
      cases hj : Nat.beq j i with
      | true =>
        rw [hj] at hk
        rw [if_pos (Nat.eq_of_beq_eq_true hj)]
        exact hq e' a' w' t' H' he hR' hT' hd hk
      | false =>
        rw [hj] at hk
        rw [if_neg (fun q => by rw [q, Nat.beq_refl] at hj; cases hj)]
        exact hke j e' a' w' t' H' he hR' hT' hd hk
    split at hc
    · rename_i x
      simp only [An.ok, Bool.and_eq_true] at ha
      refine ib x _ _ _ t H r ha.2 hc F W e a w _ hR hT ?_ ?_ ?_
      · intro e' a' w' t' H' he hR' hT' hd hk
        exact hkn e' a' w' t' H' he hR' hT' hd hk
      · intro j e' a' w' t' H' he hR' hT' hd hk
        exact inb j e' a' w' t' H' kn he hR' hT' hd hkn hk
      · intro e' a' w' t' H' he hR' hT' hd hk
        exact hkr e' a' w' t' H' he hR' hT' hd hk
    · rename_i lv x
      simp only [An.ok, Bool.and_eq_true, Option.getD_some] at ha
      have hlv := all_lt ha.1
      unfold JN at hc
      have hj : ∀ e' a' w' t' H', e.le e' → RH P.globals.size F W e' H' w' → TRK e' n t' a' → a'.defers = a.defers → app lv.length (abs lv.length fun l H => kn (mkT n lv l) H) (vals lv t') H' = some r → Q .normal a' w' := by
        intro e' a' w' t' H' he hR' hT' hd hk
        replace hk := (jn_app (n := n) rfl).symm.trans hk
        exact hkn e' a' w' _ H' he hR' (hT'.keep hlv) hd hk
      refine ib x _ _ _ t H r ha.2 hc F W e a w _ hR hT ?_ ?_ ?_
      · intro e' a' w' t' H' he hR' hT' hd hk
        exact hj e' a' w' t' H' he hR' hT' hd hk
      · intro j e' a' w' t' H' he hR' hT' hd hk
        exact inb j e' a' w' t' H' (fun t H => app lv.length (abs lv.length fun l H => kn (mkT n lv l) H) (vals lv t) H) he hR' hT' hd hj hk
      · intro e' a' w' t' H' he hR' hT' hd hk
        exact hkr e' a' w' t' H' he hR' hT' hd hk
    · cases hc
  | loop b ib =>
    intro an kn ke kr t H r ha hc F W e a w Q hR hT hkn hke hkr
    unfold codeK at hc
    split at hc
    · rename_i lv x
      simp only [An.ok, Bool.and_eq_true] at ha
      have hlv := all_lt ha.1
      unfold LP at hc
      replace hc := (jn_app (n := n) rfl).symm.trans hc
      obtain ⟨L, hL⟩ := lim_some hc
      refine wp_loop_of ?_
      have key : ∀ (L : Nat) (e : Em) (a : Act) (w : World) (t : Tm) (H : Hp), app lv.length (iterL lv.length (fun k => abs lv.length fun l H => codeK P reg cf n b x (fun t H => app lv.length k (vals lv t) H) ke kr (mkT n lv l) H) L) (vals lv t) H = some r →
          RH P.globals.size F W e H w → TRK e n t a → (∀ i, OKn P r F W n e a.defers (ke i) (.exit i) Q) → OKn P r F W n e a.defers kr .ret Q → WpL P b Q a w := by
        intro L
        induction L with
        | zero =>
          intro e a w t H hq _ _ _ _
          replace hq := (jn_app (m := lv.length) (n := n) (k := fun _ _ => none) rfl).symm.trans hq
          cases hq
        | succ L ih =>
          intro e a w t H hq hR hT hke hkr
          replace hq := (jn_app (m := lv.length) (n := n) (k := fun l H => codeK P reg cf n b x (fun t H => app lv.length (iterL lv.length (fun k => abs lv.length fun l H => codeK P reg cf n b x (fun t H => app lv.length k (vals lv t) H) ke kr (mkT n lv l) H) L) (vals lv t) H) ke kr (mkT n lv l) H) rfl).symm.trans hq
          refine wpL_of ?_
          refine ib x _ _ _ _ H r ha.2 hq F W e a w _ hR (hT.keep hlv) ?_ ?_ ?_
          · intro e' a' w' t' H' he hR' hT' hd hk
            refine ih e' a' w' t' H' hk hR' hT' ?_ ?_
            · intro i; rw [hd]; exact (hke i).mono he
            · rw [hd]; exact hkr.mono he
          · intro i e' a' w' t' H' he hR' hT' hd hk
            exact hke i e' a' w' t' H' he hR' hT' hd hk
          · intro e' a' w' t' H' he hR' hT' hd hk
            exact hkr e' a' w' t' H' he hR' hT' hd hk
      exact key L e a w t H hL hR hT hke hkr
    · cases hc
  | exit i =>
    intro an kn ke kr t H r ha hc F W e a w Q hR hT hkn hke hkr
    unfold codeK at hc
    exact wp_exit (hke i e a w t H e.le_refl hR hT rfl hc)
  | ret =>
    intro an kn ke kr t H r ha hc F W e a w Q hR hT hkn hke hkr
    unfold codeK at hc
    exact wp_ret (hkr e a w t H e.le_refl hR hT rfl hc)
  | region id ops d =>
    intro an kn ke kr t H r ha hc F W e a w Q hR hT hkn hke hkr
    unfold codeK at hc
    obtain ⟨t1, H1, h1, h2⟩ := hreg cf n ops d t H kn r hc
    have hhi := reg_hi h1 hT.2
    have fin : ∀ e' a' w', e.le e' → RH P.globals.size F W e' H1 w' → TR e' n t1 a' → a'.defers = a.defers → Q .normal a' w' := fun e' a' w' he hR' hT' hd => hkn e' a' w' t1 H1 he hR' ⟨hT', hhi⟩ hd h2
    cases d with
    | true => exact drawOps_sound hm hcf h1 hR hT.1 fin
    | false =>
      refine wp_region ?_
      have := seqOps_sound (Q := Q) hcf ops.toList 0 t H e a w (by simp) h1 hR hT.1 fin
      rw [List.range_eq_range']
      simpa using this
  | _ =>
    intro an kn ke kr t H r ha hc
    unfold codeK at hc
    cases hc

/-! what a limit of calls answers, a finite one answers -/
def Ev (p : Nat → Prop) : Prop := ∃ k0, ∀ k, k0 ≤ k → p k
theorem Ev.of {p : Nat → Prop} (h : ∀ k, p k) : Ev p := ⟨0, fun k _ => h k⟩

def CfTo (f : Nat → CF) (g : CF) : Prop := ∀ x l H r, g x l H = some r → Ev fun k => f k x l H = some r
def KnTo (f : Nat → KN) (g : KN) : Prop := ∀ t H r, g t H = some r → Ev fun k => f k t H = some r
def RegCont (reg : RegK) : Prop := ∀ (cfs : Nat → CF) (cf : CF) (kns : Nat → KN) (kn : KN) (n : Nat) (ops : Array Oper) (d : Bool) (t : Tm) (H : Hp) (r : AV × Hp), CfTo cfs cf → KnTo kns kn → reg cf n ops d t H kn = some r → Ev fun k => reg (cfs k) n ops d t H (kns k) = some r

theorem codeK_cont (hreg : RegCont reg) {n : Nat} : ∀ (c : Code) (an : An) (cfs : Nat → CF) (cf : CF) (kns : Nat → KN) (kn : KN) (kes : Nat → Nat → KN) (ke : Nat → KN) (krs : Nat → KN) (kr : KN) (t : Tm) (H : Hp) (r : AV × Hp),
    CfTo cfs cf → KnTo kns kn → (∀ i, KnTo (fun k => kes k i) (ke i)) → KnTo krs kr → codeK P reg cf n c an kn ke kr t H = some r → Ev fun k => codeK P reg (cfs k) n c an (kns k) (kes k) (krs k) t H = some r := by
  intro c
  induction c with
  | skip => intro an cfs cf kns kn kes ke krs kr t H r h1 h2 h3 h4 hc; unfold codeK at hc ⊢; exact h2 t H r hc
  | label l => intro an cfs cf kns kn kes ke krs kr t H r h1 h2 h3 h4 hc; unfold codeK at hc ⊢; exact h2 t H r hc
  | seq c1 c2 i1 i2 =>
    intro an cfs cf kns kn kes ke krs kr t H r h1 h2 h3 h4 hc
    unfold codeK at hc ⊢
    cases an with
    | sq j x y =>
      cases j with
      | none => exact i1 x cfs cf _ _ kes ke krs kr t H r h1 (fun t H r h => i2 y cfs cf kns kn kes ke krs kr t H r h1 h2 h3 h4 h) h3 h4 hc
      | some lv =>
        simp only [JN] at hc ⊢
        refine i1 x cfs cf _ _ kes ke krs kr t H r h1 (fun t H r h => ?_) h3 h4 hc
        replace h := (jn_app (n := n) rfl).symm.trans h
        obtain ⟨k0, hk⟩ := i2 y cfs cf kns kn kes ke krs kr _ H r h1 h2 h3 h4 h
        exact ⟨k0, fun k hle => (jn_app (n := n) rfl).trans (hk k hle)⟩
    | _ => cases hc
  | cond x c1 c2 i1 i2 =>
    intro an cfs cf kns kn kes ke krs kr t H r h1 h2 h3 h4 hc
    unfold codeK at hc ⊢
    cases an with
    | cd y z =>
      simp only [CD] at hc ⊢
      cases hv : ev P.globals.size t x <;> rw [hv] at hc <;> simp only at hc ⊢ <;> try (cases hc; done)
      rename_i q
      cases q with
      | true => exact i1 y cfs cf kns kn kes ke krs kr t H r h1 h2 h3 h4 hc
      | false => exact i2 z cfs cf kns kn kes ke krs kr t H r h1 h2 h3 h4 hc
    | _ => cases hc
  | block i b ib =>
    intro an cfs cf kns kn kes ke krs kr t H r h1 h2 h3 h4 hc
    unfold codeK at hc ⊢
    cases an with
    | bl j x =>
      cases j with
      | none =>
        refine ib x cfs cf kns kn _ _ krs kr t H r h1 h2 (fun q t H r h => ?_) h4 hc
        cases hq : Nat.beq q i with
        | true => rw [hq] at h; simp only [hq, cond_true]; exact h2 t H r h
        | false => rw [hq] at h; simp only [hq, cond_false]; exact h3 q t H r h
      | some lv =>
        simp only [JN] at hc ⊢
        have hj : KnTo (fun k => fun t H => app lv.length (abs lv.length fun l H => kns k (mkT n lv l) H) (vals lv t) H) (fun t H => app lv.length (abs lv.length fun l H => kn (mkT n lv l) H) (vals lv t) H) := by
          intro t H r h
          replace h := (jn_app (n := n) rfl).symm.trans h
          obtain ⟨k0, hk⟩ := h2 _ H r h
          exact ⟨k0, fun k hle => (jn_app (n := n) rfl).trans (hk k hle)⟩
        refine ib x cfs cf _ _ _ _ krs kr t H r h1 hj (fun q t H r h => ?_) h4 hc
        cases hq : Nat.beq q i with
        | true => rw [hq] at h; simp only [hq, cond_true]; exact hj t H r h
        | false => rw [hq] at h; simp only [hq, cond_false]; exact h3 q t H r h
    | _ => cases hc
  | loop b ib =>
    intro an cfs cf kns kn kes ke krs kr t H r h1 h2 h3 h4 hc
    unfold codeK at hc ⊢
    cases an with
    | lp lv x =>
      simp only at hc ⊢
      -- one loop, whatever its calls: it is no more than its rounds
      have const : ∀ (f : CF), CfTo (fun _ => f) f := fun f x l H r h => Ev.of fun _ => h
      have kconst : ∀ (f : KN), KnTo (fun _ => f) f := fun f t H r h => Ev.of fun _ => h
      have mono : ∀ (f : CF) (ke : Nat → KN) (kr : KN) (L L' : Nat) (t : Tm) (H : Hp) (r : AV × Hp), L ≤ L' → app lv.length (iterL lv.length (fun k => abs lv.length fun l H => codeK P reg f n b x (fun t H => app lv.length k (vals lv t) H) ke kr (mkT n lv l) H) L) (vals lv t) H = some r →
          app lv.length (iterL lv.length (fun k => abs lv.length fun l H => codeK P reg f n b x (fun t H => app lv.length k (vals lv t) H) ke kr (mkT n lv l) H) L') (vals lv t) H = some r := by
        intro f ke kr L
        induction L with
        | zero =>
          intro L' t H r _ h
          rw [show iterL lv.length _ 0 = abs lv.length (fun _ _ => none) from rfl, jn_app (n := n) rfl] at h
          cases h
        | succ L ih =>
          intro L' t H r hle h
          obtain ⟨L2, rfl⟩ : ∃ L2, L' = L2 + 1 := ⟨L' - 1, by omega⟩
          rw [show iterL lv.length _ (L + 1) = abs lv.length _ from rfl, jn_app (n := n) rfl] at h
          rw [show iterL lv.length _ (L2 + 1) = abs lv.length _ from rfl, jn_app (n := n) rfl]
          obtain ⟨k0, hk⟩ := ib x (fun _ => f) f (fun _ => fun t H => app lv.length (iterL lv.length _ L2) (vals lv t) H) (fun t H => app lv.length (iterL lv.length _ L) (vals lv t) H) (fun _ => ke) ke (fun _ => kr) kr _ H r (const f) (fun t H r h => Ev.of fun _ => ih L2 t H r (by omega) h) (fun i => kconst (ke i)) (kconst kr) h
          exact hk k0 (Nat.le_refl _)
      have uniq : ∀ (f : CF) (ke : Nat → KN) (kr : KN) (t : Tm) (H : Hp) (L L' : Nat) (r r' : AV × Hp), app lv.length (iterL lv.length (fun k => abs lv.length fun l H => codeK P reg f n b x (fun t H => app lv.length k (vals lv t) H) ke kr (mkT n lv l) H) L) (vals lv t) H = some r →
          app lv.length (iterL lv.length (fun k => abs lv.length fun l H => codeK P reg f n b x (fun t H => app lv.length k (vals lv t) H) ke kr (mkT n lv l) H) L') (vals lv t) H = some r' → r = r' := by
        intro f ke kr t H L L' r r' h h'
        rcases Nat.le_total L L' with q | q
        · have := mono f ke kr L L' t H r q h
          rw [this] at h'; exact Option.some.inj h'
        · have := mono f ke kr L' L t H r' q h'
          rw [h] at this; exact Option.some.inj this
      have lp_of : ∀ (f : CF) (ke : Nat → KN) (kr : KN) (t : Tm) (H : Hp) (L : Nat) (r : AV × Hp), app lv.length (iterL lv.length (fun k => abs lv.length fun l H => codeK P reg f n b x (fun t H => app lv.length k (vals lv t) H) ke kr (mkT n lv l) H) L) (vals lv t) H = some r →
          app lv.length (LP lv.length (fun k => abs lv.length fun l H => codeK P reg f n b x (fun t H => app lv.length k (vals lv t) H) ke kr (mkT n lv l) H)) (vals lv t) H = some r := by
        intro f ke kr t H L r h
        unfold LP
        rw [jn_app (n := n) rfl]
        exact lim_of h (uniq f ke kr t H)
      have lp_ex : ∀ (f : CF) (ke : Nat → KN) (kr : KN) (t : Tm) (H : Hp) (r : AV × Hp), app lv.length (LP lv.length (fun k => abs lv.length fun l H => codeK P reg f n b x (fun t H => app lv.length k (vals lv t) H) ke kr (mkT n lv l) H)) (vals lv t) H = some r →
          ∃ L, app lv.length (iterL lv.length (fun k => abs lv.length fun l H => codeK P reg f n b x (fun t H => app lv.length k (vals lv t) H) ke kr (mkT n lv l) H) L) (vals lv t) H = some r := by
        intro f ke kr t H r h
        unfold LP at h
        replace h := (jn_app (n := n) rfl).symm.trans h
        exact lim_some h
      -- a round ahead of the loop is the loop
      have roll : ∀ (f : CF) (ke : Nat → KN) (kr : KN) (t : Tm) (H : Hp) (r : AV × Hp), codeK P reg f n b x (fun t H => app lv.length (LP lv.length (fun k => abs lv.length fun l H => codeK P reg f n b x (fun t H => app lv.length k (vals lv t) H) ke kr (mkT n lv l) H)) (vals lv t) H) ke kr (mkT n lv (vals lv t)) H = some r →
          app lv.length (LP lv.length (fun k => abs lv.length fun l H => codeK P reg f n b x (fun t H => app lv.length k (vals lv t) H) ke kr (mkT n lv l) H)) (vals lv t) H = some r := by
        intro f ke kr t H r h
        obtain ⟨k0, hk⟩ := ib x (fun _ => f) f (fun L => fun t H => app lv.length (iterL lv.length (fun k => abs lv.length fun l H => codeK P reg f n b x (fun t H => app lv.length k (vals lv t) H) ke kr (mkT n lv l) H) L) (vals lv t) H) _ (fun _ => ke) ke (fun _ => kr) kr _ H r (const f)
          (fun t H r h => by
            obtain ⟨L, hL⟩ := lp_ex f ke kr t H r h
            exact ⟨L, fun k hle => mono f ke kr L k t H r hle hL⟩) (fun i => kconst (ke i)) (kconst kr) h
        refine lp_of f ke kr t H (k0 + 1) r ?_
        rw [show iterL lv.length _ (k0 + 1) = abs lv.length _ from rfl, jn_app (n := n) rfl]
        exact hk k0 (Nat.le_refl _)
      obtain ⟨L, hL⟩ := lp_ex cf ke kr t H r hc
      clear hc
      induction L generalizing t H r with
      | zero =>
        rw [show iterL lv.length _ 0 = abs lv.length (fun _ _ => none) from rfl, jn_app (n := n) rfl] at hL
        cases hL
      | succ L ih =>
        rw [show iterL lv.length _ (L + 1) = abs lv.length _ from rfl, jn_app (n := n) rfl] at hL
        obtain ⟨k0, hk⟩ := ib x cfs cf (fun k => fun t H => app lv.length (LP lv.length (fun q => abs lv.length fun l H => codeK P reg (cfs k) n b x (fun t H => app lv.length q (vals lv t) H) (kes k) (krs k) (mkT n lv l) H)) (vals lv t) H) _ kes ke krs kr _ H r h1 (fun t H r h => ih t H r h) h3 h4 hL
        exact ⟨k0, fun k hle => roll (cfs k) (kes k) (krs k) t H r (hk k hle)⟩
    | _ => cases hc
  | exit i => intro an cfs cf kns kn kes ke krs kr t H r h1 h2 h3 h4 hc; unfold codeK at hc ⊢; exact h3 i t H r hc
  | ret => intro an cfs cf kns kn kes ke krs kr t H r h1 h2 h3 h4 hc; unfold codeK at hc ⊢; exact h4 t H r hc
  | region id ops d => intro an cfs cf kns kn kes ke krs kr t H r h1 h2 h3 h4 hc; unfold codeK at hc ⊢; exact hreg cfs cf kns kn n ops d t H r h1 h2 hc
  | _ =>
    intro an cfs cf kns kn kes ke krs kr t H r h1 h2 h3 h4 hc
    unfold codeK at hc
    cases hc
end K
end Go.Proofs.YtlomlkoimmpemaaGreatDoor.Am
namespace Go.Proofs.YtlomlkoimmpemaaGreatDoor.Am
set_option linter.unusedVariables false
set_option linter.unusedSimpArgs false
namespace K

section
variable {P : Program} {reg : RegK}
/-- a loop is its first round and the loop -/
theorem LP_eq (hreg : RegCont reg) (f : CF) (n : Nat) (b : Code) (x : An) (lv : List Nat) (ke : Nat → KN) (kr : KN) (l : List AV) (hl : l.length = lv.length) (H : Hp) :
    app lv.length (LP lv.length (fun k => abs lv.length fun l H => codeK P reg f n b x (fun t H => app lv.length k (vals lv t) H) ke kr (mkT n lv l) H)) l H =
      codeK P reg f n b x (fun t H => app lv.length (LP lv.length (fun k => abs lv.length fun l H => codeK P reg f n b x (fun t H => app lv.length k (vals lv t) H) ke kr (mkT n lv l) H)) (vals lv t) H) ke kr (mkT n lv l) H := by
  have const : CfTo (fun _ => f) f := fun x l H r h => Ev.of fun _ => h
  have kconst : ∀ (f : KN), KnTo (fun _ => f) f := fun f t H r h => Ev.of fun _ => h
  have stepB : ∀ (L : Nat) (l : List AV) (H : Hp), l.length = lv.length → app lv.length (iterL lv.length (fun k => abs lv.length fun l H => codeK P reg f n b x (fun t H => app lv.length k (vals lv t) H) ke kr (mkT n lv l) H) (L + 1)) l H =
      codeK P reg f n b x (fun t H => app lv.length (iterL lv.length (fun k => abs lv.length fun l H => codeK P reg f n b x (fun t H => app lv.length k (vals lv t) H) ke kr (mkT n lv l) H) L) (vals lv t) H) ke kr (mkT n lv l) H := fun L l H hl => by
    rw [show iterL lv.length _ (L + 1) = abs lv.length _ from rfl, app_abs _ _ _ _ hl]
  have zero : ∀ (l : List AV) (H : Hp), l.length = lv.length → app lv.length (iterL lv.length (fun k => abs lv.length fun l H => codeK P reg f n b x (fun t H => app lv.length k (vals lv t) H) ke kr (mkT n lv l) H) 0) l H = none := fun l H hl => by
    rw [show iterL lv.length _ 0 = abs lv.length (fun _ _ => none) from rfl, app_abs _ _ _ _ hl]
  have mono : ∀ (L L' : Nat) (l : List AV) (H : Hp) (r : AV × Hp), l.length = lv.length → L ≤ L' → app lv.length (iterL lv.length (fun k => abs lv.length fun l H => codeK P reg f n b x (fun t H => app lv.length k (vals lv t) H) ke kr (mkT n lv l) H) L) l H = some r →
      app lv.length (iterL lv.length (fun k => abs lv.length fun l H => codeK P reg f n b x (fun t H => app lv.length k (vals lv t) H) ke kr (mkT n lv l) H) L') l H = some r := by
    intro L
    induction L with
    | zero => intro L' l H r hl _ h; rw [zero l H hl] at h; cases h
    | succ L ih =>
      intro L' l H r hl hle h
      obtain ⟨L2, rfl⟩ : ∃ L2, L' = L2 + 1 := ⟨L' - 1, by omega⟩
      rw [stepB L l H hl] at h
      rw [stepB L2 l H hl]
      obtain ⟨k0, hk⟩ := codeK_cont hreg b x (fun _ => f) f (fun _ => _) _ (fun _ => ke) ke (fun _ => kr) kr _ H r const (fun t H r h => Ev.of fun _ => ih L2 (vals lv t) H r (vals_length lv t) (by omega) h) (fun i => kconst (ke i)) (kconst kr) h
      exact hk k0 (Nat.le_refl _)
  have uniq : ∀ (l : List AV) (H : Hp), l.length = lv.length → ∀ (L L' : Nat) (r r' : AV × Hp), app lv.length (iterL lv.length (fun k => abs lv.length fun l H => codeK P reg f n b x (fun t H => app lv.length k (vals lv t) H) ke kr (mkT n lv l) H) L) l H = some r →
      app lv.length (iterL lv.length (fun k => abs lv.length fun l H => codeK P reg f n b x (fun t H => app lv.length k (vals lv t) H) ke kr (mkT n lv l) H) L') l H = some r' → r = r' := by
    intro l H hl L L' r r' h h'
    rcases Nat.le_total L L' with q | q
    · have := mono L L' l H r hl q h
      rw [this] at h'; exact Option.some.inj h'
    · have := mono L' L l H r' hl q h'
      rw [h] at this; exact Option.some.inj this
  have unf : ∀ (l : List AV) (H : Hp), l.length = lv.length → app lv.length (LP lv.length (fun k => abs lv.length fun l H => codeK P reg f n b x (fun t H => app lv.length k (vals lv t) H) ke kr (mkT n lv l) H)) l H = lim (fun L => app lv.length (iterL lv.length (fun k => abs lv.length fun l H => codeK P reg f n b x (fun t H => app lv.length k (vals lv t) H) ke kr (mkT n lv l) H) L) l H) := fun l H hl => by
    unfold LP
    rw [app_abs _ _ _ _ hl]
  have fwd : ∀ (r : AV × Hp), app lv.length (LP lv.length (fun k => abs lv.length fun l H => codeK P reg f n b x (fun t H => app lv.length k (vals lv t) H) ke kr (mkT n lv l) H)) l H = some r →
      codeK P reg f n b x (fun t H => app lv.length (LP lv.length (fun k => abs lv.length fun l H => codeK P reg f n b x (fun t H => app lv.length k (vals lv t) H) ke kr (mkT n lv l) H)) (vals lv t) H) ke kr (mkT n lv l) H = some r := by
    intro r h
    rw [unf l H hl] at h
    obtain ⟨L, hL⟩ := lim_some h
    cases L with
    | zero => rw [zero l H hl] at hL; cases hL
    | succ L =>
      rw [stepB L l H hl] at hL
      obtain ⟨k0, hk⟩ := codeK_cont hreg b x (fun _ => f) f (fun _ => fun t H => app lv.length (LP lv.length (fun k => abs lv.length fun l H => codeK P reg f n b x (fun t H => app lv.length k (vals lv t) H) ke kr (mkT n lv l) H)) (vals lv t) H) _ (fun _ => ke) ke (fun _ => kr) kr _ H r const
        (fun t H r h => Ev.of fun _ => (unf _ H (vals_length lv t)).trans (lim_of h (uniq _ H (vals_length lv t)))) (fun i => kconst (ke i)) (kconst kr) hL
      exact hk k0 (Nat.le_refl _)
  have bwd : ∀ (r : AV × Hp), codeK P reg f n b x (fun t H => app lv.length (LP lv.length (fun k => abs lv.length fun l H => codeK P reg f n b x (fun t H => app lv.length k (vals lv t) H) ke kr (mkT n lv l) H)) (vals lv t) H) ke kr (mkT n lv l) H = some r →
      app lv.length (LP lv.length (fun k => abs lv.length fun l H => codeK P reg f n b x (fun t H => app lv.length k (vals lv t) H) ke kr (mkT n lv l) H)) l H = some r := by
    intro r h
    obtain ⟨k0, hk⟩ := codeK_cont hreg b x (fun _ => f) f (fun L => fun t H => app lv.length (iterL lv.length (fun k => abs lv.length fun l H => codeK P reg f n b x (fun t H => app lv.length k (vals lv t) H) ke kr (mkT n lv l) H) L) (vals lv t) H) _ (fun _ => ke) ke (fun _ => kr) kr _ H r const
      (fun t H r h => by
        replace h := (unf _ H (vals_length lv t)).symm.trans h
        obtain ⟨L, hL⟩ := lim_some h
        exact ⟨L, fun k hle => mono L k _ H r (vals_length lv t) hle hL⟩) (fun i => kconst (ke i)) (kconst kr) h
    rw [unf l H hl]
    refine lim_of (L := k0 + 1) ?_ (uniq l H hl)
    rw [stepB k0 l H hl]
    exact hk k0 (Nat.le_refl _)
  cases h1 : app lv.length (LP lv.length (fun k => abs lv.length fun l H => codeK P reg f n b x (fun t H => app lv.length k (vals lv t) H) ke kr (mkT n lv l) H)) l H with
  | some r => exact (fwd r h1).symm
  | none =>
    cases h2 : codeK P reg f n b x (fun t H => app lv.length (LP lv.length (fun k => abs lv.length fun l H => codeK P reg f n b x (fun t H => app lv.length k (vals lv t) H) ke kr (mkT n lv l) H)) (vals lv t) H) ke kr (mkT n lv l) H with
    | none => rfl
    | some r => rw [bwd r h2] at h1; cases h1
end

/-! whole functions -/
def resL (P : Program) (t : Tm) (H : Hp) : List ResultVar → (List AV → R) → R
  | [], k => k []
  | .tmp x :: r, k => resL P t H r fun l => k ((t.get x).getD undefA :: l)
  | .cell a ty :: r, k => match aggT P ty, sz P ty with
    | some true, some n => B1 (lda n ((t.get a).getD undefA) H) fun v => resL P t H r fun l => k (v :: l)
    | some false, _ => B1 (ld ((t.get a).getD undefA) H) fun v => resL P t H r fun l => k (v :: l)
    | _, _ => none
def resK (P : Program) (t : Tm) (H : Hp) (l : List ResultVar) : R := resL P t H l fun vs => some (tup vs, H)
theorem ld_loadV {P : Program} {ty : TypeId} {x v : AV} {H : Hp} (ha : aggT P ty = some false) (h : ld x H = some v) : loadV P H ty x = some v := by
  unfold ld at h
  split at h
  · unfold loadV
    simp only [ha, Option.bind_eq_bind, Option.bind_some, Bool.false_eq_true, if_false, h]
  · cases h
theorem lda_loadV {P : Program} {ty : TypeId} {n : Nat} {x v : AV} {H : Hp} (ha : aggT P ty = some true) (hs : sz P ty = some n) (h : lda n x H = some v) : loadV P H ty x = some v := by
  unfold lda at h
  split at h
  · rename_i i off
    unfold loadV
    simp only [ha, hs, Option.bind_eq_bind, Option.bind_some, if_true]
    cases hc : cellsAt H i off n with
    | none => rw [hc] at h; cases h
    | some l => rw [hc] at h; cases h; rfl
  · cases h
theorem resL_some {P : Program} {t : Tm} {H : Hp} : ∀ (l : List ResultVar) (k : List AV → R) (r : AV × Hp), resL P t H l k = some r → ∃ vs, resA P t H l = some vs ∧ k vs = some r
  | [], k, r, h => ⟨[], rfl, h⟩
  | .tmp x :: l, k, r, h => by
    unfold resL at h
    obtain ⟨vs, h1, h2⟩ := resL_some l _ r h
    exact ⟨_, by unfold resA; rw [h1], h2⟩
  | .cell a ty :: l, k, r, h => by
    unfold resL at h
    split at h
    · rename_i n ha hs
      obtain ⟨v, q1, q2⟩ := B1_some h
      obtain ⟨vs, h1, h2⟩ := resL_some l _ r q2
      exact ⟨_, by unfold resA; rw [lda_loadV ha hs q1, h1], h2⟩
    · rename_i q ha hs
      obtain ⟨v, q1, q2⟩ := B1_some h
      obtain ⟨vs, h1, h2⟩ := resL_some l _ r q2
      exact ⟨_, by unfold resA; rw [ld_loadV hs q1, h1], h2⟩
    · cases h
/-- the temporaries of a function when it begins -/
def begT (n : Nat) (args : List AV) : Tm := Tr.puts .nil 0 (args ++ List.replicate (n - args.length) undefA)
noncomputable section
def bodyK (P : Program) (reg : RegK) (cf : CF) (fn : Func) (an : An) (b : Code) (args : List AV) (H : Hp) : R :=
  codeK P reg cf fn.ntmps b an (fun t H => resK P t H fn.results.toList) (fun _ _ _ => none) (fun t H => resK P t H fn.results.toList) (begT fn.ntmps args) H
def callK (P : Program) (reg : RegK) (ext : Nat → Option Ext) (prim : Nat → Option Prim) (an : Nat → An) (cf : CF) : CF := fun g args H =>
  match g with
  | .func (.func fid) first cap =>
    match prim fid with
    | some p => p (first ++ args ++ cap) H
    | none => match P.funcs[fid]? with
      | some fn => match fn.body with
        | some b => bif Nat.ble (first ++ args ++ cap).length fn.ntmps && Nat.blt fn.ntmps 4294967296 && (an fid).ok fn.ntmps then bodyK P reg cf fn (an fid) b (first ++ args ++ cap) H else none
        | none => match ext fid with
          | some k => extA P k (first ++ args ++ cap) H
          | none => none
      | none => none
  | _ => none
def SK (P : Program) (reg : RegK) (ext : Nat → Option Ext) (prim : Nat → Option Prim) (an : Nat → An) : Nat → CF
  | 0 => fun _ _ _ => none
  | k + 1 => callK P reg ext prim an (SK P reg ext prim an k)
/-- what a call answers -/
def CK (P : Program) (reg : RegK) (ext : Nat → Option Ext) (prim : Nat → Option Prim) (an : Nat → An) : CF := fun g args H => lim fun k => SK P reg ext prim an k g args H
end

section
variable {P : Program} {reg : RegK} {ext : Nat → Option Ext} {prim : Nat → Option Prim} {an : Nat → An}
theorem callK_cont (hreg : RegCont reg) {cfs : Nat → CF} {cf : CF} (h : CfTo cfs cf) : CfTo (fun k => callK P reg ext prim an (cfs k)) (callK P reg ext prim an cf) := by
  intro g args H r hc
  unfold callK at hc ⊢
  cases g <;> try (cases hc; done)
  rename_i fn first cap
  cases fn <;> try (cases hc; done)
  rename_i fid
  simp only at hc ⊢
  cases hp : prim fid with
  | some p => rw [hp] at hc; exact Ev.of fun _ => hc
  | none =>
    rw [hp] at hc
    simp only at hc ⊢
    cases hf : P.funcs[fid]? with
    | none => rw [hf] at hc; cases hc
    | some fn =>
      rw [hf] at hc
      simp only at hc ⊢
      cases hb : fn.body with
      | none => rw [hb] at hc; exact Ev.of fun _ => hc
      | some b =>
        rw [hb] at hc
        simp only at hc ⊢
        cases hk : (Nat.ble (first ++ args ++ cap).length fn.ntmps && Nat.blt fn.ntmps 4294967296 && (an fid).ok fn.ntmps) with
        | false => rw [hk] at hc; cases hc
        | true =>
          rw [hk] at hc
          simp only [cond_true] at hc ⊢
          have kconst : ∀ (f : KN), KnTo (fun _ => f) f := fun f t H r h => Ev.of fun _ => h
          exact codeK_cont hreg b (an fid) cfs cf _ _ _ _ _ _ _ H r h (kconst _) (fun i => kconst _) (kconst _) hc
theorem SK_step (hreg : RegCont reg) : ∀ k, CfTo (fun _ => SK P reg ext prim an (k + 1)) (SK P reg ext prim an k)
  | 0 => fun g l H r h => by cases h
  | k + 1 => fun g l H r h => by
    obtain ⟨k0, hk⟩ := callK_cont (P := P) (ext := ext) (prim := prim) (an := an) hreg (SK_step hreg k) g l H r h
    exact Ev.of fun _ => hk k0 (Nat.le_refl _)
theorem SK_le (hreg : RegCont reg) {g : AV} {l : List AV} {H : Hp} {r : AV × Hp} : ∀ {j k : Nat}, j ≤ k → SK P reg ext prim an j g l H = some r → SK P reg ext prim an k g l H = some r := by
  intro j k hle h
  induction hle with
  | refl => exact h
  | step _ ih =>
    obtain ⟨k0, hk⟩ := SK_step hreg _ g l H r ih
    exact hk k0 (Nat.le_refl _)
theorem SK_uniq (hreg : RegCont reg) {g : AV} {l : List AV} {H : Hp} (j k : Nat) (r r' : AV × Hp) (h : SK P reg ext prim an j g l H = some r) (h' : SK P reg ext prim an k g l H = some r') : r = r' := by
  rcases Nat.le_total j k with q | q
  · rw [SK_le hreg q h] at h'; exact Option.some.inj h'
  · have := SK_le hreg q h'
    rw [h] at this; exact Option.some.inj this
theorem CK_to (hreg : RegCont reg) : CfTo (SK P reg ext prim an) (CK P reg ext prim an) := by
  intro g l H r h
  obtain ⟨k0, hk⟩ := lim_some h
  exact ⟨k0, fun k hle => SK_le hreg hle hk⟩
/-- what the text of a function answers, with calls answered so, its call answers -/
theorem CK_fix (hreg : RegCont reg) {g : AV} {l : List AV} {H : Hp} {r : AV × Hp} (h : callK P reg ext prim an (CK P reg ext prim an) g l H = some r) : CK P reg ext prim an g l H = some r := by
  obtain ⟨k0, hk⟩ := callK_cont (P := P) (ext := ext) (prim := prim) (an := an) hreg (CK_to hreg) g l H r h
  exact lim_of (L := k0 + 1) (hk k0 (Nat.le_refl _)) (fun j k r r' => SK_uniq hreg j k r r')

theorem callK_sound (hm : P.follows .mixedOrders = true) (hN : NamesOK P) (hE : ExtOK P ext) (hP : PrimOK P prim) (hreg : RegSound P reg) {cf : CF} (hcf : CFS P cf) : CFS P (callK P reg ext prim an cf) := by
  intro g args H v H' hc
  unfold callK at hc
  split at hc
  · rename_i fid first cap
    refine ⟨fid, first, cap, rfl, ?_⟩
    intro F W e w as' hR hargs
    split at hc
    · rename_i p hp
      exact .inr (hP fid p hp _ H v H' hc F W e w as' hR hargs)
    · split at hc
      · rename_i fn hf
        split at hc
        · rename_i b hb
          cases hle : (Nat.ble (first ++ args ++ cap).length fn.ntmps && Nat.blt fn.ntmps 4294967296 && (an fid).ok fn.ntmps) with
          | false => rw [hle] at hc; cases hc
          | true =>
          rw [hle] at hc
          simp only [cond_true] at hc
          rw [Bool.and_eq_true, Bool.and_eq_true, Nat.ble_eq, Nat.blt_eq] at hle
          refine .inr ⟨run_enter hN hf hb as' w, ?_⟩
          have hlen : as'.size = (first ++ args ++ cap).length := by have := hargs.1; simpa using this
          have hT : TRK e fn.ntmps (begT fn.ntmps (first ++ args ++ cap)) { tmps := as' ++ Array.replicate (fn.ntmps - as'.size) undef, defers := [] } := by
            have hbl : ((first ++ args ++ cap) ++ List.replicate (fn.ntmps - (first ++ args ++ cap).length) undefA).length = fn.ntmps := by
              rw [List.length_append, List.length_replicate]; omega
            refine ⟨⟨by simp; omega, fun x => ?_⟩, fun x hx => ?_⟩
            · unfold begT
              rw [get_puts_k]
              simp only [Nat.zero_add, Nat.zero_le, true_and, Nat.sub_zero, hbl]
              by_cases hx : x < (first ++ args ++ cap).length
              · rw [if_pos (by omega), List.getElem?_append_left hx]
                have h1 : (first ++ args ++ cap)[x]? = some (first ++ args ++ cap)[x] := List.getElem?_eq_getElem hx
                obtain ⟨v', h2, h3⟩ := hargs.get h1
                rw [h1, Option.getD_some, Array.getD_eq_getD_getElem?, Array.getElem?_append_left (by omega), ← Array.getElem?_toList, h2]
                exact h3
              · have hu : (as' ++ Array.replicate (fn.ntmps - as'.size) undef).getD x undef = undef := by
                  rw [Array.getD_eq_getD_getElem?, Array.getElem?_append_right (by omega), Array.getElem?_replicate]
                  split <;> rfl
                simp only [hu]
                split
                · rw [List.getElem?_append_right (by omega), List.getElem?_replicate]
                  split
                  · exact VR.undef
                  · exact VR.undef
                · rw [Tr.get_nil]; exact VR.undef
            · unfold begT
              rw [get_puts_k, hbl, if_neg (by omega), Tr.get_nil]
          refine calls_of_wp hf hb (codeK_sound hm hreg hcf b (an fid) _ _ _ _ H (v, H') hle.2 hc F W e _ w _ hR hT ?_ ?_ ?_)
          · intro e' a' w' t' H2 he hR' hT' hd hk
            unfold resK at hk
            obtain ⟨vs, hvs, hk2⟩ := resL_some _ _ _ hk
            cases hk2
            obtain ⟨u, hu, hvr⟩ := sound_results hR' hT'.1 hvs
            exact ⟨hd, u, hu, e', u, rfl, he, hR', hvr⟩
          · intro i e' a' w' t' H2 he hR' hT' hd hk
            cases hk
          · intro e' a' w' t' H2 he hR' hT' hd hk
            unfold resK at hk
            obtain ⟨vs, hvs, hk2⟩ := resL_some _ _ _ hk
            cases hk2
            obtain ⟨u, hu, hvr⟩ := sound_results hR' hT'.1 hvs
            exact ⟨hd, u, hu, e', u, rfl, he, hR', hvr⟩
        · rename_i hb
          split at hc
          · rename_i k hk
            obtain ⟨v', w', e', h1, h2, h3, h4⟩ := sound_ext hR hargs hc
            refine .inl ⟨v', w', e', ?_, h2, h3, h4⟩
            rw [hE fid k hk, Sem.run_bind, h1]
            rfl
          · cases hc
      · cases hc
  · cases hc
theorem SK_sound (hm : P.follows .mixedOrders = true) (hN : NamesOK P) (hE : ExtOK P ext) (hP : PrimOK P prim) (hreg : RegSound P reg) : ∀ k, CFS P (SK P reg ext prim an k)
  | 0 => fun g args H v H' h => by cases h
  | k + 1 => callK_sound hm hN hE hP hreg (SK_sound hm hN hE hP hreg k)
theorem CK_sound (hm : P.follows .mixedOrders = true) (hN : NamesOK P) (hE : ExtOK P ext) (hP : PrimOK P prim) (hreg : RegSound P reg) : CFS P (CK P reg ext prim an) := by
  intro g args H v H' h
  obtain ⟨k, hk⟩ := lim_some h
  exact SK_sound hm hN hE hP hreg k g args H v H' hk
/-- an answer of a call is an answer of the model's -/
theorem CK_calls (hm : P.follows .mixedOrders = true) (hN : NamesOK P) (hE : ExtOK P ext) (hP : PrimOK P prim) (hreg : RegSound P reg) {g : Nat} {args : List AV} {H : Hp} {v : AV} {H' : Hp} (h : CK P reg ext prim an (.func (.func g) [] []) args H = some (v, H')) {fn : Func} {b : Code}
    (hf : P.funcs[g]? = some fn) (hb : fn.body = some b) {F : Nat → Prop} {W : World} {e : Em} {w : World} {as' : Array Value} (hR : RH P.globals.size F W e H w) (ha : VRL e args as'.toList) : Calls P g as' w (CallPost P.globals.size F W e v H') := by
  obtain ⟨fid, first, cap, hg, hs⟩ := CK_sound hm hN hE hP hreg _ _ _ _ _ h
  cases hg
  rcases hs F W e w as' hR (by simpa using ha) with ⟨v', w', e', h1, _⟩ | ⟨_, h2⟩
  · rw [run_enter hN hf hb] at h1
    cases h1
  · exact h2
end
end K
end Go.Proofs.YtlomlkoimmpemaaGreatDoor.Am
