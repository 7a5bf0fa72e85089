/- Calls that are taken by a contract of their own; strings.Trim; calls that are run apart (of no program). -/
import Derived.Test.YtehhgkgeldinkaaGreatDoorAm7
import Derived.Lib.SlTrimSet
set_option linter.unusedVariables false
set_option linter.unusedSimpArgs false
namespace Go.Proofs.YtehhgkgeldinkaaGreatDoor.Am
open Go.RowKit
set_option linter.unusedVariables false
set_option linter.unusedSimpArgs false

section
variable {P : Program} {G : Nat} {F : Nat → Prop} {W : World} {e : Em} {H : Hp} {w : World}

/-- what is made behind changes nothing of what stands -/
theorem RH.below (h : RH G F W e H w) {w' : World} (hb : Below w.heap.size w w') : RH G F W e H w' :=
  ⟨h.N, fun i o ho => let ⟨a, ob, b, c, d⟩ := h.obj i o ho; ⟨a, ob, (hb.block _ (Array.getElem?_eq_some_iff.1 b).1).trans b, c, d⟩, h.inj, h.glob,
   fun k hk => ⟨Nat.lt_of_lt_of_le (h.frame k hk).1 hb.size, (hb.block k (h.frame k hk).1).trans (h.frame k hk).2⟩, hb.os.trans h.os, hb.tape.trans h.tape, hb.output.trans h.output, Nat.le_trans h.size hb.size, by obtain ⟨g1, g2, g3⟩ := h.gsz; have := hb.size; omega⟩

/-- a contract of a function that is taken by its contract -/
def PrimOne (P : Program) (fid : Nat) (p : Prim) : Prop :=
  ∀ (args : List AV) (H : Hp) (v : AV) (H' : Hp), p args H = some (v, H') →
    ∀ (F : Nat → Prop) (W : World) (e : Em) (w : World) (as' : Array Value), RH P.globals.size F W e H w → VRL e args as'.toList →
      (callFunc fid as').run P w = .ok (.enter fid as') w ∧ Calls P fid as' w (CallPost P.globals.size F W e v H')
end

/-! strings.Trim -/
noncomputable section
def memC (c : Nat) (l : List Nat) : Bool := List.rec false (fun b _ ih => Bool.rec ih true (Nat.beq b c)) l
def dropC (cs : List Nat) (l : List Nat) : List Nat := List.rec [] (fun b r ih => Bool.rec (b :: r) ih (memC b cs)) l
def revC (l : List Nat) : List Nat → List Nat := List.rec (motive := fun _ => List Nat → List Nat) (fun a => a) (fun b _ ih a => ih (b :: a)) l
def trimN (s cs : List Nat) : List Nat := dropC cs (revC (dropC cs (revC s [])) [])
def lowC (l : List Nat) : Bool := List.rec true (fun b _ ih => Bool.rec false ih (Nat.blt b 128)) l
def trim2 (H : Hp) (s c : List Nat) : Option (AV × Hp) := Bool.rec none (some (.str (trimN s c), H)) (F.bothB (lowC c) (F.bothB (Nat.ble (F.lenL s) 4294967296) (Nat.ble (F.lenL c) 4294967280)))
def trimP : Prim := fun args H => match args with
  | [a, b] => (match a with | .str s => (match b with | .str c => trim2 H s c | _ => none) | _ => none)
  | _ => none
end

theorem memC_eq (c : Nat) : ∀ l : List Nat, memC c l = l.contains c
  | [] => rfl
  | b :: l => by
    show @Bool.rec (fun _ => Bool) (memC c l) true (Nat.beq b c) = _
    rw [memC_eq c l, List.contains_cons]
    by_cases h : b = c
    · subst h; rw [beq_t]; simp
    · rw [beq_f h]
      have : (c == b) = false := by simp; exact fun q => h q.symm
      rw [this]; rfl
theorem dropC_eq (cs : List Nat) : ∀ l : List Nat, dropC cs l = l.dropWhile (cs.contains ·)
  | [] => rfl
  | b :: l => by
    show @Bool.rec (fun _ => List Nat) (b :: l) (dropC cs l) (memC b cs) = _
    rw [memC_eq, dropC_eq cs l, List.dropWhile_cons]
    cases cs.contains b <;> rfl
theorem revC_eq : ∀ (l a : List Nat), revC l a = l.reverse ++ a
  | [], a => rfl
  | b :: l, a => by
    show revC l (b :: a) = _
    rw [revC_eq l]; simp
theorem trimN_eq (s cs : List Nat) : trimN s cs = ((s.reverse.dropWhile (cs.contains ·)).reverse).dropWhile (cs.contains ·) := by
  unfold trimN
  rw [dropC_eq, dropC_eq, revC_eq, revC_eq, List.append_nil, List.append_nil]
theorem contains_map (cs : List UInt8) (b : UInt8) : (cs.map (·.toNat)).contains b.toNat = cs.contains b := by
  induction cs with
  | nil => rfl
  | cons c cs ih =>
    rw [List.map_cons, List.contains_cons, List.contains_cons, ih]
    congr 1
    rw [Bool.eq_iff_iff]; simp [UInt8.toNat_inj]
theorem dropWhile_map (cs l : List UInt8) : (l.map (·.toNat)).dropWhile ((cs.map (·.toNat)).contains ·) = (l.dropWhile (cs.contains ·)).map (·.toNat) := by
  induction l with
  | nil => rfl
  | cons b l ih =>
    rw [List.map_cons, List.dropWhile_cons, List.dropWhile_cons, contains_map, ih]
    cases cs.contains b <;> rfl
theorem trimN_map (s cs : List UInt8) : trimN (s.map (·.toNat)) (cs.map (·.toNat)) = (Lib.trimS s cs).map (·.toNat) := by
  rw [trimN_eq, ← List.map_reverse, dropWhile_map, ← List.map_reverse, dropWhile_map]
  rfl
theorem lowC_all : ∀ l : List Nat, lowC l = true → ∀ x ∈ l, x < 128
  | [], _, x, hx => by cases hx
  | b :: l, h, x, hx => by
    have h' : @Bool.rec (fun _ => Bool) false (lowC l) (Nat.blt b 128) = true := h
    cases hb : Nat.blt b 128 with
    | false => rw [hb] at h'; cases h'
    | true =>
      rw [hb] at h'
      rcases List.mem_cons.1 hx with rfl | q
      · rw [Nat.blt_eq] at hb; exact hb
      · exact lowC_all l h' x q

theorem trim_ok {P : Program} {f : Nat} (hen : ∀ as' w, (callFunc f as').run P w = .ok (.enter f as') w)
    (hC : ∀ (s c : ByteArray) (w : World), s.size ≤ 9223372036854775807 → c.size < 4294967281 → (∀ (j : Nat) b, c.data.toList[j]? = some b → b.toNat < 128) →
      Calls P f #[.string s, .string c] w fun e w' => e = .returned (.string ⟨(Lib.trimS s.data.toList c.data.toList).toArray⟩) ∧ Below w.heap.size w w') : PrimOne P f trimP := by
  intro args H v H' hp Fr W e w as' hR ha
  unfold trimP at hp
  split at hp
  · rename_i a b
    split at hp
    · rename_i s
      split at hp
      · rename_i c
        unfold trim2 at hp
        rw [F.bothB_eq, F.bothB_eq, F.lenL_eq, F.lenL_eq] at hp
        cases hk : (lowC c && (Nat.ble s.length 4294967296 && Nat.ble c.length 4294967280)) with
        | false => rw [hk] at hp; cases hp
        | true =>
          rw [hk] at hp
          cases hp
          simp only [Bool.and_eq_true, Nat.ble_eq] at hk
          obtain ⟨h1, h2, h3⟩ := hk
          obtain ⟨a', r1, e1, hv1, hr1⟩ := ha.cons_inv
          obtain ⟨b', r2, e2, hv2, hr2⟩ := hr1.cons_inv
          have e3 := hr2.nil_inv
          subst e3
          subst e2
          obtain ⟨s', rfl, rfl⟩ := hv1.str_inv
          obtain ⟨c', rfl, rfl⟩ := hv2.str_inv
          obtain rfl : as' = #[.string s', .string c'] := Array.toList_inj.1 e1
          refine ⟨hen _ _, (hC s' c' w ?_ ?_ ?_).mono ?_⟩
          · have : s'.size = (bytes s').length := by simp [bytes]
            omega
          · have : c'.size = (bytes c').length := by simp [bytes]
            omega
          · intro j b hb
            exact lowC_all _ h1 b.toNat (by unfold bytes; exact List.mem_map.2 ⟨b, List.mem_of_getElem? hb, rfl⟩)
          · rintro en w' ⟨rfl, hbl⟩
            refine ⟨e, _, rfl, e.le_refl, hR.below hbl, ?_⟩
            have : trimN (bytes s') (bytes c') = bytes ⟨(Lib.trimS s'.data.toList c'.data.toList).toArray⟩ := by
              unfold bytes
              rw [trimN_map]
            rw [this]
            exact .str _
      · cases hp
    · cases hp
  · cases hp
end Go.Proofs.YtehhgkgeldinkaaGreatDoor.Am
namespace Go.Proofs.YtehhgkgeldinkaaGreatDoor.Am
set_option linter.unusedVariables false
set_option linter.unusedSimpArgs false

/-! Calls whose run is proved once, apart: what the heap holds there, at least, and what it holds behind. -/

/-- an object by its cells -/
inductive LO where
  | cells (lo : Nat) (el : TypeId) (fl : Nat) (vs : List AV)
  | bytes (lo : Nat) (el : TypeId) (fl : Nat) (bs : List Nat)
  | map (es : List ME) (clock : Nat)

noncomputable section
def u8s (bs : List Nat) : List AV := F.mapL (fun (b : Nat) => AV.int .u8 b) bs
def loO (o : LO) : AO := match o with
  | .cells lo el fl vs => .cells (F.puts vs .nil lo) lo (Nat.add lo (F.lenL vs)) el fl
  | .bytes lo el fl bs => .cells (F.puts (u8s bs) .nil lo) lo (Nat.add lo (F.lenL bs)) el fl
  | .map es c => .map es c
/-- the listed variables, whatever their blocks' types -/
def layG (el : Nat → TypeId) (gl : List (Nat × List AV)) : Tr AO → Tr AO := List.rec (motive := fun _ => Tr AO → Tr AO) (fun t => t) (fun x _ ih t => F.put 34 (ih t) x.1 (.cells (F.puts x.2 .nil 0) 0 (F.lenL x.2) (el x.1) 2)) gl
def layL (L : List (Nat × LO)) : Tr AO → Tr AO := List.rec (motive := fun _ => Tr AO → Tr AO) (fun t => t) (fun x _ ih t => F.put 34 (ih t) x.1 (loO x.2)) L
def heapOf (el : Nat → TypeId) (gl : List (Nat × List AV)) (L : List (Nat × LO)) (next : Nat) : Hp := ⟨layL L (layG el gl .nil), next⟩

/-- alike; junk is like all -/
def eqVs (f : AV → AV → Bool) (a : List AV) : List AV → Bool := List.rec (motive := fun _ => List AV → Bool) (fun b => List.rec true (fun _ _ _ => false) b) (fun x _ ih b => List.rec false (fun y r _ => F.bothB (f x y) (ih r)) b) a
def eqFn (a b : Fn) : Bool := match a with
  | .func i => (match b with | .func j => Nat.beq i j | _ => false)
  | _ => false
def eqV1 (ih : AV → AV → Bool) (a b : AV) : Bool := match a with
  | .junk => true
  | .bool x => (match b with | .bool y => F.eqB x y | _ => false)
  | .int k x => (match b with | .int j y => F.bothB (F.eqK k j) (F.eqI x y) | _ => false)
  | .str s => (match b with | .str u => F.eqL s u | _ => false)
  | .ptr0 => (match b with | .ptr0 => true | _ => false)
  | .ptr i o => (match b with | .ptr j p => F.bothB (Nat.beq i j) (Nat.beq o p) | _ => false)
  | .slice0 => (match b with | .slice0 => true | _ => false)
  | .slice i o l c x e => (match b with | .slice j p m d y f => F.bothB (Nat.beq i j) (F.bothB (Nat.beq o p) (F.bothB (Nat.beq l m) (F.bothB (Nat.beq c d) (F.bothB (F.eqB x y) (Nat.beq e f))))) | _ => false)
  | .map0 => (match b with | .map0 => true | _ => false)
  | .map i => (match b with | .map j => Nat.beq i j | _ => false)
  | .func fn x c => (match b with | .func gn y d => F.bothB (eqFn fn gn) (F.bothB (eqVs ih x y) (eqVs ih c d)) | _ => false)
  | .yield _ => false
  | .nilFunc => (match b with | .nilFunc => true | _ => false)
  | .nilIface => (match b with | .nilIface => true | _ => false)
  | .iface t v => (match b with | .iface u w => F.bothB (Nat.beq t u) (ih v w) | _ => false)
  | .agg l => (match b with | .agg m => eqVs ih l m | _ => false)
  | .tuple l => (match b with | .tuple m => eqVs ih l m | _ => false)
def eqV (n : Nat) : AV → AV → Bool := Nat.rec (motive := fun _ => AV → AV → Bool) (fun _ _ => false) (fun _ ih => eqV1 ih) n

/-- the cells from a place on hold these -/
def hasV (vs : List AV) : Tr AV → Nat → Bool := List.rec (motive := fun _ => Tr AV → Nat → Bool) (fun _ _ => true) (fun v _ ih c k => F.bothB (Option.rec false (eqV 8 v) (F.get c k)) (ih c (Nat.succ k))) vs
def eqMs (a : List ME) : List ME → Bool := List.rec (motive := fun _ => List ME → Bool) (fun b => List.rec true (fun _ _ _ => false) b) (fun x _ ih b => List.rec false (fun y r _ => F.bothB (eqV 8 x.key y.key) (F.bothB (eqV 8 x.val y.val) (F.bothB (Nat.beq x.born y.born) (ih r)))) b) a
def hasO (l : LO) (o : AO) : Bool := match l with
  | .cells lo el fl vs => (match o with | .cells c a b e f => F.bothB (Nat.beq lo a) (F.bothB (Nat.beq (Nat.add lo (F.lenL vs)) b) (F.bothB (Nat.beq el e) (F.bothB (Nat.beq fl f) (hasV vs c lo)))) | _ => false)
  | .bytes lo el fl bs => (match o with | .cells c a b e f => F.bothB (Nat.beq lo a) (F.bothB (Nat.beq (Nat.add lo (F.lenL bs)) b) (F.bothB (Nat.beq el e) (F.bothB (Nat.beq fl f) (hasV (u8s bs) c lo)))) | _ => false)
  | .map es c => (match o with | .map fs d => F.bothB (Nat.beq c d) (eqMs es fs) | _ => false)
def hasL (h : Tr AO) (L : List (Nat × LO)) : Bool := List.rec true (fun x _ ih => F.bothB (Option.rec false (hasO x.2) (F.get h x.1)) ih) L
/-- the listed variables stand there -/
def hasG1 (vs : List AV) (o : AO) : Bool := match o with | .cells c a b e f => F.bothB (Nat.beq 0 a) (F.bothB (Nat.beq (F.lenL vs) b) (F.bothB (Nat.beq 2 f) (hasV vs c 0))) | _ => false
def hasG (h : Tr AO) (gl : List (Nat × List AV)) : Bool := List.rec true (fun x _ ih => F.bothB (Option.rec false (hasG1 x.2) (F.get h x.1)) ih) gl
def elO (o : AO) : TypeId := match o with | .cells _ _ _ e _ => e | _ => 0
def elH (h : Tr AO) (g : Nat) : TypeId := Option.rec 0 elO (F.get h g)
end

theorem eqVs_le {f : AV → AV → Bool} {e : Em} (hf : ∀ a b, f a b = true → ∀ v, VR e b v → VR e a v) : ∀ (a b : List AV), eqVs f a b = true → a.length = b.length ∧ ∀ (i : Nat) (x y : AV), a[i]? = some x → b[i]? = some y → ∀ v, VR e y v → VR e x v
  | [], [], _ => ⟨rfl, by simp⟩
  | [], _ :: _, h => by cases h
  | _ :: _, [], h => by cases h
  | x :: a, y :: b, h => by
    have h' : F.bothB (f x y) (eqVs f a b) = true := h
    rw [F.bothB_eq, Bool.and_eq_true] at h'
    obtain ⟨h1, h2⟩ := h'
    obtain ⟨l, r⟩ := eqVs_le hf a b h2
    refine ⟨by simp [l], fun i => ?_⟩
    cases i with
    | zero =>
      intro p q hp hq
      simp only [List.getElem?_cons_zero, Option.some.injEq] at hp hq
      subst hp; subst hq
      exact hf _ _ h1
    | succ i =>
      intro p q hp hq
      simp only [List.getElem?_cons_succ] at hp hq
      exact r i p q hp hq

theorem eqV_le (e : Em) : ∀ (n : Nat) (a b : AV), eqV n a b = true → ∀ v, VR e b v → VR e a v
  | 0, a, b, h => by cases h
  | n + 1, a, b, h => by
    have ih := eqV_le e n
    have h' : eqV1 (eqV n) a b = true := h
    intro v hv
    cases a with
    | junk => exact .junk v
    | bool x => cases b <;> first | (cases h'; done) | skip
                rename_i y
                have h2 : F.eqB x y = true := h'
                rw [F.eqB_eq, beq_iff_eq] at h2; subst h2; exact hv
    | int k x => cases b <;> first | (cases h'; done) | skip
                 rename_i j y
                 have h2 : F.bothB (F.eqK k j) (F.eqI x y) = true := h'
                 rw [F.bothB_eq, F.eqK_eq, F.eqI_eq, Bool.and_eq_true, decide_eq_true_iff, decide_eq_true_iff] at h2
                 obtain ⟨rfl, rfl⟩ := h2; exact hv
    | str s => cases b <;> first | (cases h'; done) | skip
               rename_i u
               have h2 : F.eqL s u = true := h'
               rw [F.eqL_eq, beq_iff_eq] at h2; subst h2; exact hv
    | ptr0 => cases b <;> first | (cases h'; done) | exact hv
    | ptr i o => cases b <;> first | (cases h'; done) | skip
                 rename_i j p
                 have h2 : F.bothB (Nat.beq i j) (Nat.beq o p) = true := h'
                 rw [F.bothB_eq, Bool.and_eq_true, Nat.beq_eq, Nat.beq_eq] at h2
                 obtain ⟨rfl, rfl⟩ := h2; exact hv
    | slice0 => cases b <;> first | (cases h'; done) | exact hv
    | slice i o l c x f => cases b <;> first | (cases h'; done) | skip
                           rename_i j p m d y g
                           have h2 : F.bothB (Nat.beq i j) (F.bothB (Nat.beq o p) (F.bothB (Nat.beq l m) (F.bothB (Nat.beq c d) (F.bothB (F.eqB x y) (Nat.beq f g))))) = true := h'
                           simp only [F.bothB_eq, F.eqB_eq, Bool.and_eq_true, Nat.beq_eq, beq_iff_eq] at h2
                           obtain ⟨rfl, rfl, rfl, rfl, rfl, rfl⟩ := h2; exact hv
    | map0 => cases b <;> first | (cases h'; done) | exact hv
    | map i => cases b <;> first | (cases h'; done) | skip
               rename_i j
               have h2 : Nat.beq i j = true := h'
               rw [Nat.beq_eq] at h2; subst h2; exact hv
    | func fn x c => cases b <;> first | (cases h'; done) | skip
                     rename_i gn y d
                     have h2 : F.bothB (eqFn fn gn) (F.bothB (eqVs (eqV n) x y) (eqVs (eqV n) c d)) = true := h'
                     simp only [F.bothB_eq, Bool.and_eq_true] at h2
                     obtain ⟨q1, q2, q3⟩ := h2
                     have hfn : fn = gn := by
                       cases fn <;> first | (cases q1; done) | skip
                       cases gn <;> first | (cases q1; done) | skip
                       have : Nat.beq _ _ = true := q1
                       rw [Nat.beq_eq] at this; rw [this]
                     subst hfn
                     cases hv with
                     | func _ hf _ _ a' c' ha hc h1 h2 =>
                       obtain ⟨l1, r1⟩ := eqVs_le ih x y q2
                       obtain ⟨l2, r2⟩ := eqVs_le ih c d q3
                       refine .func _ hf _ _ a' c' (ha.trans l1.symm) (hc.trans l2.symm) ?_ ?_
                       · intro i p p' hp hp'
                         have hi : i < y.length := by rw [← l1]; exact (List.getElem?_eq_some_iff.1 hp).1
                         exact r1 i p _ hp (List.getElem?_eq_getElem hi) _ (h1 i _ p' (List.getElem?_eq_getElem hi) hp')
                       · intro i p p' hp hp'
                         have hi : i < d.length := by rw [← l2]; exact (List.getElem?_eq_some_iff.1 hp).1
                         exact r2 i p _ hp (List.getElem?_eq_getElem hi) _ (h2 i _ p' (List.getElem?_eq_getElem hi) hp')
    | yield l => cases h'
    | nilFunc => cases b <;> first | (cases h'; done) | exact hv
    | nilIface => cases b <;> first | (cases h'; done) | exact hv
    | iface t x => cases b <;> first | (cases h'; done) | skip
                   rename_i u y
                   have h2 : F.bothB (Nat.beq t u) (eqV n x y) = true := h'
                   rw [F.bothB_eq, Bool.and_eq_true, Nat.beq_eq] at h2
                   obtain ⟨rfl, q⟩ := h2
                   cases hv with
                   | iface _ _ v' hv' => exact .iface _ _ _ (ih _ _ q _ hv')
    | agg l => cases b <;> first | (cases h'; done) | skip
               rename_i m
               have h2 : eqVs (eqV n) l m = true := h'
               obtain ⟨l1, r1⟩ := eqVs_le ih l m h2
               cases hv with
               | agg _ vs hl hh =>
                 refine .agg _ vs (hl.trans l1.symm) ?_
                 intro i p p' hp hp'
                 have hi : i < m.length := by rw [← l1]; exact (List.getElem?_eq_some_iff.1 hp).1
                 exact r1 i p _ hp (List.getElem?_eq_getElem hi) _ (hh i _ p' (List.getElem?_eq_getElem hi) hp')
    | tuple l => cases b <;> first | (cases h'; done) | skip
                 rename_i m
                 have h2 : eqVs (eqV n) l m = true := h'
                 obtain ⟨l1, r1⟩ := eqVs_le ih l m h2
                 cases hv with
                 | tuple _ vs hl hh =>
                   refine .tuple _ vs (hl.trans l1.symm) ?_
                   intro i p p' hp hp'
                   have hi : i < m.length := by rw [← l1]; exact (List.getElem?_eq_some_iff.1 hp).1
                   exact r1 i p _ hp (List.getElem?_eq_getElem hi) _ (hh i _ p' (List.getElem?_eq_getElem hi) hp')

theorem get_puts' {α : Type} : ∀ (l : List α) (t : Tr α) (n m : Nat), (t.puts n l).get m = if n ≤ m ∧ m < n + l.length then l[m - n]? else t.get m
  | [], t, n, m => by
    rw [if_neg (by simp only [List.length_nil]; omega)]; rfl
  | x :: l, t, n, m => by
    rw [Tr.puts, get_puts' l, Tr.put, Tr.get_putP]
    by_cases h1 : m = n
    · subst h1
      rw [if_neg (by omega), if_pos rfl, if_pos (by simp)]; simp
    · by_cases h2 : n + 1 ≤ m ∧ m < n + 1 + l.length
      · rw [if_pos h2, if_pos (by simp; omega)]
        have : m - n = (m - (n + 1)) + 1 := by omega
        rw [this, List.getElem?_cons_succ]
      · rw [if_neg h2, if_neg h1, if_neg (by simp; omega)]

theorem hasV_le (e : Em) (c : Tr AV) : ∀ (vs : List AV) (k : Nat), hasV vs c k = true → ∀ (j : Nat) (v : AV), vs[j]? = some v → ∃ v', c.get (k + j) = some v' ∧ ∀ x, VR e v' x → VR e v x
  | [], _, _, j, v, hj => by simp at hj
  | u :: vs, k, h, j, v, hj => by
    have h' : F.bothB (@Option.rec AV (fun _ => Bool) false (eqV 8 u) (F.get c k)) (hasV vs c (k + 1)) = true := h
    rw [F.bothB_eq, Bool.and_eq_true] at h'
    obtain ⟨h1, h2⟩ := h'
    cases j with
    | zero =>
      simp only [List.getElem?_cons_zero, Option.some.injEq] at hj
      subst hj
      rw [F.get_eq] at h1
      rw [Nat.add_zero]
      cases hg : c.get k with
      | none => rw [hg] at h1; cases h1
      | some v' =>
        rw [hg] at h1
        exact ⟨v', rfl, eqV_le e 8 u v' h1⟩
    | succ j =>
      simp only [List.getElem?_cons_succ] at hj
      have := hasV_le e c vs (k + 1) h2 j v hj
      rw [show k + (j + 1) = k + 1 + j by omega]
      exact this

theorem eqMs_le (e : Em) : ∀ (a b : List ME), eqMs a b = true → a.length = b.length ∧ ∀ (i : Nat) (x y : ME), a[i]? = some x → b[i]? = some y → (∀ v, VR e y.key v → VR e x.key v) ∧ (∀ v, VR e y.val v → VR e x.val v) ∧ x.born = y.born
  | [], [], _ => ⟨rfl, by simp⟩
  | [], _ :: _, h => by cases h
  | _ :: _, [], h => by cases h
  | x :: a, y :: b, h => by
    have h' : F.bothB (eqV 8 x.key y.key) (F.bothB (eqV 8 x.val y.val) (F.bothB (Nat.beq x.born y.born) (eqMs a b))) = true := h
    simp only [F.bothB_eq, Bool.and_eq_true, Nat.beq_eq] at h'
    obtain ⟨h1, h2, h3, h4⟩ := h'
    obtain ⟨l, r⟩ := eqMs_le e a b h4
    refine ⟨by simp [l], fun i => ?_⟩
    cases i with
    | zero =>
      intro p q hp hq
      simp only [List.getElem?_cons_zero, Option.some.injEq] at hp hq
      subst hp; subst hq
      exact ⟨eqV_le e 8 _ _ h1, eqV_le e 8 _ _ h2, h3⟩
    | succ i =>
      intro p q hp hq
      simp only [List.getElem?_cons_succ] at hp hq
      exact r i p q hp hq

theorem sub_cells {e : Em} {i : Nat} {c : Tr AV} {lo hi : Nat} {el : TypeId} {fl : Nat} {vs : List AV} {ob : Obj} (hh : hasV vs c lo = true) (hhi : lo + vs.length = hi) (h : OR e i (.cells c lo hi el fl) ob) :
    OR e i (.cells (F.puts vs .nil lo) lo (Nat.add lo (F.lenL vs)) el fl) ob := by
  cases h with
  | cells _ _ _ _ _ C fz hn hc h0 h1 hd =>
    refine .cells _ _ _ _ _ C fz hn ?_ h0 h1 hd
    intro k v hlo hk hg
    rw [F.puts_eq, get_puts'] at hg
    rw [F.lenL_eq] at hk
    have hk' : k < lo + vs.length := hk
    rw [if_pos ⟨hlo, hk'⟩] at hg
    obtain ⟨v', hv', hle⟩ := hasV_le e c vs lo hh (k - lo) v hg
    rw [show lo + (k - lo) = k by omega] at hv'
    obtain ⟨k', hk2, u, hu, hr⟩ := hc k v' hlo (by omega) hv'
    exact ⟨k', hk2, u, hu, hle _ hr⟩

theorem hasO_or {e : Em} {i : Nat} {l : LO} {o : AO} {ob : Obj} (hh : hasO l o = true) (h : OR e i o ob) : OR e i (loO l) ob ∧ wr (loO l) = wr o := by
  cases l with
  | cells lo el fl vs =>
    cases o <;> first | (cases hh; done) | skip
    rename_i c a b el' fl'
    have h2 : F.bothB (Nat.beq lo a) (F.bothB (Nat.beq (Nat.add lo (F.lenL vs)) b) (F.bothB (Nat.beq el el') (F.bothB (Nat.beq fl fl') (hasV vs c lo)))) = true := hh
    simp only [F.bothB_eq, Bool.and_eq_true, Nat.beq_eq, F.lenL_eq] at h2
    obtain ⟨rfl, rfl, rfl, rfl, h3⟩ := h2
    exact ⟨sub_cells h3 rfl h, rfl⟩
  | bytes lo el fl bs =>
    cases o <;> first | (cases hh; done) | skip
    rename_i c a b el' fl'
    have h2 : F.bothB (Nat.beq lo a) (F.bothB (Nat.beq (Nat.add lo (F.lenL bs)) b) (F.bothB (Nat.beq el el') (F.bothB (Nat.beq fl fl') (hasV (u8s bs) c lo)))) = true := hh
    simp only [F.bothB_eq, Bool.and_eq_true, Nat.beq_eq, F.lenL_eq] at h2
    obtain ⟨rfl, rfl, rfl, rfl, h3⟩ := h2
    have hlen : (u8s bs).length = bs.length := by unfold u8s; rw [F.mapL_eq]; simp
    have := sub_cells h3 (by rw [hlen]; rfl) h
    refine ⟨?_, rfl⟩
    rw [F.lenL_eq, hlen] at this
    show OR e i (.cells (F.puts (u8s bs) .nil lo) lo (Nat.add lo (F.lenL bs)) el fl) ob
    rw [F.lenL_eq]
    exact this
  | map es c =>
    cases o <;> first | (cases hh; done) | skip
    rename_i fs d
    have h2 : F.bothB (Nat.beq c d) (eqMs es fs) = true := hh
    simp only [F.bothB_eq, Bool.and_eq_true, Nat.beq_eq] at h2
    obtain ⟨rfl, h3⟩ := h2
    obtain ⟨ln, r⟩ := eqMs_le e es fs h3
    cases h with
    | map _ _ es' hm =>
      refine ⟨.map _ _ es' ⟨hm.1.trans ln.symm, ?_⟩, rfl⟩
      intro j m m' hj hj'
      have hi : j < fs.length := by rw [← ln]; exact (List.getElem?_eq_some_iff.1 hj).1
      obtain ⟨a1, a2, a3⟩ := r j m _ hj (List.getElem?_eq_getElem hi)
      obtain ⟨b1, b2, b3⟩ := hm.2 j _ m' (List.getElem?_eq_getElem hi) hj'
      exact ⟨a1 _ b1, a2 _ b2, a3.trans b3⟩

theorem layL_get : ∀ (L : List (Nat × LO)) (t : Tr AO) (i : Nat) (o : AO), (layL L t).get i = some o → (∃ l, (i, l) ∈ L ∧ o = loO l) ∨ t.get i = some o
  | [], t, i, o, h => .inr h
  | (j, l) :: L, t, i, o, h => by
    have h' : (F.put 34 (layL L t) j (loO l)).get i = some o := h
    rw [F.put_eq, Tr.put, Tr.get_putP] at h'
    by_cases hij : i = j
    · subst hij
      rw [if_pos rfl] at h'
      exact .inl ⟨l, .head _, (Option.some.inj h').symm⟩
    · rw [if_neg hij] at h'
      rcases layL_get L t i o h' with ⟨l', a, b⟩ | q
      · exact .inl ⟨l', .tail _ a, b⟩
      · exact .inr q
theorem layG_get (el : Nat → TypeId) : ∀ (L : List (Nat × List AV)) (t : Tr AO) (i : Nat) (o : AO), (layG el L t).get i = some o → (∃ vs, (i, vs) ∈ L ∧ o = .cells (F.puts vs .nil 0) 0 (F.lenL vs) (el i) 2) ∨ t.get i = some o
  | [], t, i, o, h => .inr h
  | (j, vs) :: L, t, i, o, h => by
    have h' : (F.put 34 (layG el L t) j (.cells (F.puts vs .nil 0) 0 (F.lenL vs) (el j) 2)).get i = some o := h
    rw [F.put_eq, Tr.put, Tr.get_putP] at h'
    by_cases hij : i = j
    · subst hij
      rw [if_pos rfl] at h'
      exact .inl ⟨vs, .head _, (Option.some.inj h').symm⟩
    · rw [if_neg hij] at h'
      rcases layG_get el L t i o h' with ⟨l', a, b⟩ | q
      · exact .inl ⟨l', .tail _ a, b⟩
      · exact .inr q
theorem hasL_mem (h : Tr AO) : ∀ (L : List (Nat × LO)), hasL h L = true → ∀ (i : Nat) (l : LO), (i, l) ∈ L → ∃ o, h.get i = some o ∧ hasO l o = true
  | [], _, i, l, hm => by cases hm
  | (j, m) :: L, hh, i, l, hm => by
    have h' : F.bothB (@Option.rec AO (fun _ => Bool) false (hasO m) (F.get h j)) (hasL h L) = true := hh
    rw [F.bothB_eq, Bool.and_eq_true, F.get_eq] at h'
    obtain ⟨h1, h2⟩ := h'
    rcases List.mem_cons.1 hm with q | q
    · obtain ⟨rfl, rfl⟩ := Prod.mk.inj q
      cases hg : h.get i with
      | none => rw [hg] at h1; cases h1
      | some o => rw [hg] at h1; exact ⟨o, rfl, h1⟩
    · exact hasL_mem h L h2 i l q
theorem hasG_mem (h : Tr AO) : ∀ (L : List (Nat × List AV)), hasG h L = true → ∀ (i : Nat) (vs : List AV), (i, vs) ∈ L → ∃ o, h.get i = some o ∧ hasG1 vs o = true
  | [], _, i, l, hm => by cases hm
  | (j, m) :: L, hh, i, l, hm => by
    have h' : F.bothB (@Option.rec AO (fun _ => Bool) false (hasG1 m) (F.get h j)) (hasG h L) = true := hh
    rw [F.bothB_eq, Bool.and_eq_true, F.get_eq] at h'
    obtain ⟨h1, h2⟩ := h'
    rcases List.mem_cons.1 hm with q | q
    · obtain ⟨rfl, rfl⟩ := Prod.mk.inj q
      cases hg : h.get i with
      | none => rw [hg] at h1; cases h1
      | some o => rw [hg] at h1; exact ⟨o, rfl, h1⟩
    · exact hasG_mem h L h2 i l q

/-- less may be known of a heap -/
theorem RH.sub {G : Nat} {F' : Nat → Prop} {W : World} {e : Em} {H : Hp} {w : World} (hR : RH G F' W e H w) {el : Nat → TypeId} {gl : List (Nat × List AV)} {L : List (Nat × LO)} {next : Nat} (hn : next = H.next) (hL : hasL H.h L = true) (hG : hasG H.h gl = true)
    (hel : ∀ x ∈ gl, el x.1 = elH H.h x.1) : RH G F' W e (heapOf el gl L next) w := by
  have key : ∀ i o, (heapOf el gl L next).h.get i = some o → ∃ o', H.h.get i = some o' ∧ wr o = wr o' ∧ ∀ ob, OR e i o' ob → OR e i o ob := by
    intro i o h
    rcases layL_get L _ i o h with ⟨l, hm, rfl⟩ | h
    · obtain ⟨o', ho', hh⟩ := hasL_mem H.h L hL i l hm
      refine ⟨o', ho', ?_, fun ob hob => (hasO_or hh hob).1⟩
      obtain ⟨_, ob, _, hob, _⟩ := hR.obj i o' ho'
      exact (hasO_or hh hob).2
    · rcases layG_get el gl _ i o h with ⟨vs, hm, rfl⟩ | h
      · obtain ⟨o', ho', hh⟩ := hasG_mem H.h gl hG i vs hm
        have he := hel _ hm
        simp only [elH, F.get_eq, ho'] at he
        cases o' <;> first | (cases hh; done) | skip
        rename_i c a b el' fl'
        have h2 : F.bothB (Nat.beq 0 a) (F.bothB (Nat.beq (F.lenL vs) b) (F.bothB (Nat.beq 2 fl') (hasV vs c 0))) = true := hh
        simp only [F.bothB_eq, Bool.and_eq_true, Nat.beq_eq, F.lenL_eq] at h2
        obtain ⟨rfl, rfl, rfl, h3⟩ := h2
        have he' : el i = el' := he
        subst he'
        refine ⟨_, ho', rfl, fun ob hob => ?_⟩
        have := sub_cells h3 (Nat.zero_add _) hob
        rw [F.lenL_eq] at this ⊢
        rw [show Nat.add 0 vs.length = vs.length from Nat.zero_add _] at this
        exact this
      · rw [Tr.get_nil] at h; cases h
  refine ⟨hR.N.trans hn.symm, ?_, ?_, hR.glob, hR.frame, hR.os, hR.tape, hR.output, hR.size, hR.gsz⟩
  · intro i o h
    obtain ⟨o', ho', hw, hle⟩ := key i o h
    obtain ⟨a, ob, b, c, d⟩ := hR.obj i o' ho'
    exact ⟨a, ob, b, hle _ c, by rw [hw]; exact d⟩
  · intro i j oi oj h1 h2
    obtain ⟨oi', hi', hwi, _⟩ := key i oi h1
    obtain ⟨oj', hj', _⟩ := key j oj h2
    rw [hwi]
    exact hR.inj i j oi' oj' hi' hj'

/-- a call, what the heap holds there at least, and what it holds behind at least -/
structure Memo where
  fid : Nat
  args : List AV
  inn : List (Nat × LO)
  next : Nat
  v : AV
  out : List (Nat × LO)
  next2 : Nat

def MemoOK (P : Program) (gl : List (Nat × List AV)) (m : Memo) : Prop :=
  ∀ (el : Nat → TypeId) (Fr : Nat → Prop) (W : World) (e : Em) (w : World) (as' : Array Value), RH P.globals.size Fr W e (heapOf el gl m.inn m.next) w → VRL e m.args as'.toList →
    (callFunc m.fid as').run P w = .ok (.enter m.fid as') w ∧ Calls P m.fid as' w (CallPost P.globals.size Fr W e m.v (heapOf el gl m.out m.next2))

noncomputable section
def memo1 (gl : List (Nat × List AV)) (m : Memo) (H : Hp) (no : Option (AV × Hp)) (b : Bool) : Option (AV × Hp) := Bool.rec no (some (m.v, heapOf (elH H.h) gl m.out m.next2)) b
def memoP (gl : List (Nat × List AV)) (fb : Prim) (ms : List Memo) (args : List AV) (H : Hp) : Option (AV × Hp) := List.rec (fb args H) (fun m _ ih => memo1 gl m H ih (F.bothB (Nat.beq m.next H.next) (F.bothB (eqVs (eqV 8) m.args args) (F.bothB (hasG H.h gl) (hasL H.h m.inn))))) ms
def okOut (gl : List (Nat × List AV)) (m : Memo) (p : AV × Hp) : Bool := F.bothB (eqV 8 m.v p.1) (F.bothB (Nat.beq m.next2 p.2.next) (F.bothB (hasG p.2.h gl) (hasL p.2.h m.out)))
def endMemo (gl : List (Nat × List AV)) (m : Memo) (r : Option (AV × Hp)) : Bool × List TypeId := Option.rec (false, []) (fun p => (okOut gl m p, F.mapL (fun x => elH p.2.h x.1) gl)) r
end

theorem memo_run {P : Program} {ext : Nat → Option Ext} {prim : Nat → Option Prim} (hm : P.follows .mixedOrders = true) (hN : NamesOK P) (hE : ExtOK P ext) (hP : PrimOK P prim) {fuel : Nat} {gl : List (Nat × List AV)} {m : Memo} {fn : Func} {b : Code}
    (hf : P.funcs[m.fid]? = some fn) (hb : fn.body = some b) (hrun : ∀ el : Nat → TypeId, endMemo gl m (F.runF P ext prim fuel m.fid m.args (heapOf el gl m.inn m.next)) = (true, F.mapL (fun x => el x.1) gl)) : MemoOK P gl m := by
  intro el Fr W e w as' hR ha
  have hr := hrun el
  cases hc : F.runF P ext prim fuel m.fid m.args (heapOf el gl m.inn m.next) with
  | none => rw [hc] at hr; cases hr
  | some p =>
    obtain ⟨v, H2⟩ := p
    rw [hc] at hr
    have hr' : (okOut gl m (v, H2), F.mapL (fun x => elH H2.h x.1) gl) = (true, F.mapL (fun x => el x.1) gl) := hr
    rw [Prod.mk.injEq] at hr'
    obtain ⟨h1, h2⟩ := hr'
    have h3 : F.bothB (eqV 8 m.v v) (F.bothB (Nat.beq m.next2 H2.next) (F.bothB (hasG H2.h gl) (hasL H2.h m.out))) = true := h1
    simp only [F.bothB_eq, Bool.and_eq_true, Nat.beq_eq] at h3
    obtain ⟨q1, q2, q3, q4⟩ := h3
    rw [F.mapL_eq, F.mapL_eq] at h2
    have hel : ∀ x ∈ gl, el x.1 = elH H2.h x.1 := by
      intro x hx
      exact (List.map_inj_left.1 h2 x hx).symm
    rw [F.runF_eq] at hc
    refine ⟨run_enter hN hf hb as' w, (callA_sound hm hN hE hP hc hf hb hR ha).mono ?_⟩
    rintro en w' ⟨e', v', rfl, he, hR', hv⟩
    exact ⟨e', v', rfl, he, hR'.sub q2 q4 q3 hel, eqV_le e' 8 _ _ q1 _ hv⟩

theorem memoP_ok {P : Program} {gl : List (Nat × List AV)} {fid : Nat} {fb : Prim} (hfb : PrimOne P fid fb) : ∀ (ms : List Memo), (∀ m ∈ ms, m.fid = fid ∧ MemoOK P gl m) → PrimOne P fid (memoP gl fb ms)
  | [], _ => hfb
  | m :: ms, hms => by
    have ih := memoP_ok hfb ms (fun x hx => hms x (.tail _ hx))
    obtain ⟨hid, hok⟩ := hms m (.head _)
    intro args H v H' hp Fr W e w as' hR ha
    have hp' : memo1 gl m H (memoP gl fb ms args H) (F.bothB (Nat.beq m.next H.next) (F.bothB (eqVs (eqV 8) m.args args) (F.bothB (hasG H.h gl) (hasL H.h m.inn)))) = some (v, H') := hp
    cases hk : F.bothB (Nat.beq m.next H.next) (F.bothB (eqVs (eqV 8) m.args args) (F.bothB (hasG H.h gl) (hasL H.h m.inn))) with
    | false => rw [hk] at hp'; exact ih args H v H' hp' Fr W e w as' hR ha
    | true =>
      rw [hk] at hp'
      have hp2 : some (m.v, heapOf (elH H.h) gl m.out m.next2) = some (v, H') := hp'
      cases hp2
      simp only [F.bothB_eq, Bool.and_eq_true, Nat.beq_eq] at hk
      obtain ⟨q1, q2, q3, q4⟩ := hk
      subst hid
      have hR2 := hR.sub (el := elH H.h) q1 q4 q3 (fun x _ => rfl)
      obtain ⟨l1, r1⟩ := eqVs_le (e := e) (eqV_le e 8) m.args args q2
      refine hok (elH H.h) Fr W e w as' hR2 ⟨ha.1.trans l1.symm, ?_⟩
      intro i p p' hpi hpi'
      have hi : i < args.length := by rw [← l1]; exact (List.getElem?_eq_some_iff.1 hpi).1
      exact r1 i p _ hpi (List.getElem?_eq_getElem hi) _ (ha.2 i _ p' (List.getElem?_eq_getElem hi) hpi')

/-- a function by its own run, under other contracts -/
theorem run_one {P : Program} {ext : Nat → Option Ext} {prim : Nat → Option Prim} (hm : P.follows .mixedOrders = true) (hN : NamesOK P) (hE : ExtOK P ext) (hP : PrimOK P prim) {fuel fid : Nat} {fn : Func} {b : Code} (hf : P.funcs[fid]? = some fn) (hb : fn.body = some b) :
    PrimOne P fid (fun args H => F.runF P ext prim fuel fid args H) := by
  intro args H v H' hp Fr W e w as' hR ha
  have hc : F.runF P ext prim fuel fid args H = some (v, H') := hp
  rw [F.runF_eq] at hc
  exact ⟨run_enter hN hf hb as' w, callA_sound hm hN hE hP hc hf hb hR ha⟩
end Go.Proofs.YtehhgkgeldinkaaGreatDoor.Am
