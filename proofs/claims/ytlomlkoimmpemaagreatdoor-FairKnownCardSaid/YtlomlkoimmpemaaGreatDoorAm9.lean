/- Contracts of functions that walk a map, as the evaluator reads them (of no program). -/
import Derived.Test.YtlomlkoimmpemaaGreatDoorAm8
import Derived.Sort.KeysCollected
import Derived.WideShapes
set_option linter.unusedVariables false
set_option linter.unusedSimpArgs false
namespace Go.Proofs.YtlomlkoimmpemaaGreatDoor.Am
open Go.RowKit
set_option linter.unusedVariables false
set_option linter.unusedSimpArgs false

section
variable {P : Program} {G : Nat} {F' : Nat → Prop} {W : World} {e : Em} {H : Hp} {w : World}

/-- a block that is new since the relation was seen is taken under a new number -/
theorem RH.adoptB (h : RH G F' W e H w) {w' : World} (hb : Below w.heap.size w w') {g : Nat} (hg : w.heap.size ≤ g) {ob : Obj} (hob : w'.heap[g]? = some ob) {o : AO} {i : Nat} {H' : Hp} (ha : Am.alloc H o = some (i, H')) {d : Int} {n : Nat}
    (hor : OR (e.ext g d n) i o ob) : i = e.N ∧ RH G F' W (e.ext g d n) H' w' := by
  obtain ⟨rfl, hlt, rfl⟩ := alloc_some ha
  have hN := h.N
  have hget : ∀ j, (H.h.put 34 H.next o).get j = if j = H.next then some o else H.h.get j := fun j => Tr.get_putP _ _ _ _
  have hle := Em.le_ext e g d n
  have old : ∀ j oj, H.h.get j = some oj → (e.ext g d n).b j = e.b j ∧ e.b j < w.heap.size := by
    intro j oj hj
    obtain ⟨a, ob2, b2, _, _⟩ := h.obj j oj hj
    exact ⟨(hle.2 j a).1, (Array.getElem?_eq_some_iff.1 b2).1⟩
  refine ⟨hN.symm, ?_, ?_, ?_, ?_, ?_, hb.os.trans h.os, hb.tape.trans h.tape, hb.output.trans h.output, Nat.le_trans h.size hb.size, by obtain ⟨g1, g2, g3⟩ := h.gsz; have := hb.size; rw [(hle.2 G g2).2.2]; simp [Em.ext]; omega⟩
  · simp [Em.ext, hN]
  · intro j oj hj
    simp only at hj
    rw [hget] at hj
    by_cases ej : j = H.next
    · subst ej
      rw [if_pos rfl] at hj
      cases hj
      refine ⟨by simp [Em.ext, hN], ob, ?_, hor, ?_⟩
      · rw [← hN, Em.ext_b]; exact hob
      · intro _ hF
        rw [← hN, Em.ext_b] at hF
        have := (h.frame _ hF).1
        omega
    · rw [if_neg ej] at hj
      obtain ⟨a, ob2, b2, c2, d2⟩ := h.obj j oj hj
      obtain ⟨q, r⟩ := old j oj hj
      refine ⟨by simp [Em.ext]; omega, ob2, ?_, c2.mono hle a, ?_⟩
      · rw [q, hb.block _ r]; exact b2
      · intro hw; rw [q, (hle.2 G h.gsz.2.1).2.2] at hw; rw [q]; exact d2 hw
  · intro j k oj ok hj hk hq he
    simp only at hj hk
    rw [hget] at hj hk
    by_cases ej : j = H.next <;> by_cases ek : k = H.next
    · omega
    · rw [if_neg ek] at hk
      obtain ⟨q, r⟩ := old k ok hk
      rw [q, ej, ← hN, Em.ext_b] at he
      omega
    · rw [if_neg ej] at hj
      obtain ⟨q, r⟩ := old j oj hj
      rw [q, ek, ← hN, Em.ext_b] at he
      omega
    · rw [if_neg ej] at hj
      rw [if_neg ek] at hk
      rw [(old j oj hj).1, (hle.2 G h.gsz.2.1).2.2] at hq
      rw [(old j oj hj).1, (old k ok hk).1] at he
      exact h.inj j k oj ok hj hk hq he
  · intro g' hg'
    obtain ⟨a, b, c⟩ := h.glob g' hg'
    obtain ⟨x, y, _⟩ := hle.2 g' a
    exact ⟨by simp [Em.ext]; omega, x.trans b, y.trans c⟩
  · intro k hk
    obtain ⟨a, b⟩ := h.frame k hk
    exact ⟨Nat.lt_of_lt_of_le a hb.size, (hb.block k a).trans b⟩
end

/-! the room that is left: a store's bytes, in whatever order its files are walked -/
noncomputable section
/-- stamps that rise, below the clock -/
def incr (c : Nat) (es : List ME) : Nat → Bool := List.rec (motive := fun _ => Nat → Bool) (fun _ => true) (fun x _ ih p => F.bothB (Nat.ble p x.born) (F.bothB (Nat.blt x.born c) (ih (Nat.succ x.born)))) es
def lenC (v : AV) : Option Nat := match v with | .slice0 => some 0 | .slice _ _ l _ _ _ => some l | _ => none
def lenAt (H : Hp) (v : AV) : Option Nat := F.ptrE (fun j k => F.oE lenC (F.cellAt H j k)) v
def sum2 (r : Option Nat) (a : Nat) : Option Nat := Option.rec none (fun b => F.forceN some (Nat.add a b)) r
def sumF (H : Hp) (es : List ME) : Option Nat := List.rec (some 0) (fun x _ ih => F.oE (sum2 ih) (lenAt H x.val)) es
def free4 (H : Hp) (room : Int) (n : Nat) : Option (AV × Hp) := F.oP H (F.subI .i64 room (.ofNat n))
def free3 (H : Hp) (room : Int) (o : AO) : Option (AV × Hp) := match o with
  | .map es c => Bool.rec none (F.oE (free4 H room) (sumF H es)) (incr c es 0)
  | _ => none
def okRoom (z : Int) : Bool := Int.rec (fun n => Nat.ble n 9223372036854775807) (fun _ => false) z
def free2 (H : Hp) (r m : AV) : Option (AV × Hp) := match r with
  | .int k room => (match m with | .map j => Bool.rec none (F.oE (free3 H room) (F.get H.1 j)) (F.bothB (F.eqK k .i64) (okRoom room)) | _ => none)
  | _ => none
def free1 (H : Hp) (i o : Nat) : Option (AV × Hp) := Option.rec none (fun r => Option.rec none (fun m => free2 H r m) (F.cellAt H i (Nat.succ o))) (F.cellAt H i o)
def freeP : Prim := fun args H => match args with
  | [a] => F.ptrE (free1 H) a
  | _ => none
end

theorem incr_all (c : Nat) : ∀ (es : List ME) (p : Nat), incr c es p = true → (∀ x ∈ es, p ≤ x.born ∧ x.born < c) ∧ (es.map (·.born)).Nodup
  | [], p, _ => ⟨by simp, List.nodup_nil⟩
  | x :: es, p, h => by
    have h' : F.bothB (Nat.ble p x.born) (F.bothB (Nat.blt x.born c) (incr c es (x.born + 1))) = true := h
    simp only [F.bothB_eq, Bool.and_eq_true, Nat.ble_eq, Nat.blt_eq] at h'
    obtain ⟨h1, h2, h3⟩ := h'
    obtain ⟨a, b⟩ := incr_all c es (x.born + 1) h3
    refine ⟨fun y hy => ?_, ?_⟩
    · rcases List.mem_cons.1 hy with rfl | q
      · exact ⟨h1, h2⟩
      · have := a y q
        exact ⟨by omega, this.2⟩
    · rw [List.map_cons, List.nodup_cons]
      refine ⟨fun hm => ?_, b⟩
      obtain ⟨y, hy, he⟩ := List.mem_map.1 hm
      have := (a y hy).1
      omega

/-- the length that stands at a file's pointer -/
noncomputable def lenW (w : World) (x : MapEntry) : Int := match x.val with
  | .pointer (some a) => (match w.cell? a with | some (.slice _ n _) => (n : Int) | _ => 0)
  | _ => 0

section
variable {P : Program} {G : Nat} {F' : Nat → Prop} {W : World} {e : Em} {H : Hp} {w : World}
theorem sumF_sum (hR : RH G F' W e H w) : ∀ (es : List ME) (es' : List MapEntry) (n : Nat), MER e es es' → sumF H es = some n →
    (es'.map (lenW w)).sum = (n : Int) ∧ ∀ x ∈ es', ∃ b k s n c, x.val = .pointer (some ⟨b, k, none⟩) ∧ w.cell? ⟨b, k, none⟩ = some (.slice s n c) ∧ lenW w x = (n : Int)
  | [], [], n, _, h => by cases h; exact ⟨rfl, by simp⟩
  | [], y :: ys, n, hm, _ => by have := hm.1; simp at this
  | x :: es, [], n, hm, _ => by have := hm.1; simp at this
  | x :: es, y :: ys, n, hm, h => by
    have hm' : MER e es ys := ⟨by have := hm.1; simpa using this, fun i a b ha hb => hm.2 (i + 1) a b (by simpa using ha) (by simpa using hb)⟩
    obtain ⟨_, hv, _⟩ := hm.2 0 x y rfl rfl
    have h' : F.oE (sum2 (sumF H es)) (lenAt H x.val) = some n := h
    rw [F.oE_eq, Option.bind_eq_some_iff] at h'
    obtain ⟨a, h1, h2⟩ := h'
    unfold sum2 at h2
    cases hs : sumF H es with
    | none => rw [hs] at h2; cases h2
    | some b =>
      rw [hs] at h2
      have h3 : F.forceN some (Nat.add a b) = some n := h2
      rw [F.forceN_eq] at h3
      cases h3
      obtain ⟨i1, i2⟩ := sumF_sum hR es ys b hm' hs
      unfold lenAt F.ptrE at h1
      split at h1
      · rename_i j k hj
        rw [hj] at hv
        simp only [] at h1
        rw [F.oE_eq, F.cellAt_eq, Option.bind_eq_some_iff] at h1
        obtain ⟨cv, hcv, hl⟩ := h1
        obtain ⟨o', hi, ho, hval⟩ := hv.ptr_inv
        obtain ⟨_, o2, ho2, v2, hcell, hvr⟩ := hR.load hcv
        have : o' = o2 := by omega
        subst this
        have hsl : ∃ s c, v2 = .slice s a c := by
          unfold lenC at hl
          split at hl
          · cases hl; cases hvr; exact ⟨_, _, rfl⟩
          · cases hl; cases hvr <;> exact ⟨_, _, rfl⟩
          · cases hl
        obtain ⟨s, c, rfl⟩ := hsl
        have hlw : lenW w y = (a : Int) := by
          unfold lenW
          rw [hval]
          simp only [hcell]
        refine ⟨?_, ?_⟩
        · rw [List.map_cons, List.sum_cons, hlw, i1]
          show (a : Int) + (b : Int) = ((a + b : Nat) : Int)
          omega
        · intro z hz
          rcases List.mem_cons.1 hz with rfl | q
          · exact ⟨_, _, s, a, c, hval, hcell, hlw⟩
          · exact i2 z q
      · cases h1

theorem MER.born {es : List ME} {es' : List MapEntry} (h : MER e es es') : es'.map (·.born) = es.map (·.born) := by
  refine List.ext_getElem? fun i => ?_
  rw [List.getElem?_map, List.getElem?_map]
  cases h1 : es[i]? with
  | none =>
    have : es'[i]? = none := by rw [List.getElem?_eq_none_iff] at h1 ⊢; rw [h.1]; exact h1
    rw [this]; rfl
  | some m =>
    have hi := (List.getElem?_eq_some_iff.1 h1).1
    have h2 : es'[i]? = some (es'[i]'(by rw [h.1]; exact hi)) := List.getElem?_eq_getElem _
    rw [h2]
    simp only [Option.map_some]
    rw [(h.2 i m _ h1 h2).2.2]

theorem free_ok {f : Nat} (hen : ∀ as' w, (callFunc f as').run P w = .ok (.enter f as') w)
    (hC : ∀ (bs o : Nat) (room : Int) (bm : Nat) (es : Array MapEntry) (clock : Nat) (g : MapEntry → Int) (w : World), 0 ≤ room → room ≤ 9223372036854775807 → w.cell? ⟨bs, o, none⟩ = some (.int .i64 room) → w.cell? ⟨bs, o + 1, none⟩ = some (.map (some bm)) →
      w.heap[bm]? = some (.map es clock) → (∀ x ∈ es.toList, x.born < clock) → (es.toList.map (·.born)).Nodup → (∀ x ∈ es.toList, ∃ b k s n c, x.val = .pointer (some ⟨b, k, none⟩) ∧ w.cell? ⟨b, k, none⟩ = some (.slice s n c) ∧ g x = (n : Int)) →
      Calls P f #[.pointer (some ⟨bs, o, none⟩)] w fun e w' => e = .returned (.int .i64 (wrap64 (room - (es.toList.map g).sum))) ∧ Below w.heap.size w w') : PrimOne P f freeP := by
  intro args H v H' hp Fr W e w as' hR ha
  unfold freeP at hp
  split at hp
  · rename_i a
    unfold F.ptrE at hp
    split at hp
    · rename_i i o
      obtain ⟨a', r1, e1, hv1, hr1⟩ := ha.cons_inv
      have e3 := hr1.nil_inv
      subst e3
      obtain ⟨o', hi, ho, rfl⟩ := hv1.ptr_inv
      obtain rfl : as' = #[.pointer (some ⟨e.b i, o', none⟩)] := Array.toList_inj.1 e1
      refine ⟨hen _ _, ?_⟩
      unfold free1 at hp
      rw [F.cellAt_eq, F.cellAt_eq] at hp
      cases hc0 : cellAt H i o with
      | none => rw [hc0] at hp; cases hp
      | some r =>
        rw [hc0] at hp
        cases hc1 : cellAt H i (o + 1) with
        | none => rw [show Nat.succ o = o + 1 from rfl, hc1] at hp; cases hp
        | some m =>
          rw [show Nat.succ o = o + 1 from rfl, hc1] at hp
          have hp2 : free2 H r m = some (v, H') := hp
          unfold free2 at hp2
          split at hp2
          · rename_i k room
            split at hp2
            · rename_i j
              cases hk : F.bothB (F.eqK k .i64) (okRoom room) with
              | false => rw [hk] at hp2; cases hp2
              | true =>
                rw [hk] at hp2
                rw [F.bothB_eq, Bool.and_eq_true, F.eqK_eq, decide_eq_true_iff] at hk
                obtain ⟨rfl, hroom⟩ := hk
                have hrm : 0 ≤ room ∧ room ≤ 9223372036854775807 := by
                  cases room with
                  | ofNat n =>
                    have h1 : Nat.ble n 9223372036854775807 = true := hroom
                    rw [Nat.ble_eq] at h1
                    have h2 : (Int.ofNat n) = (n : Int) := rfl
                    rw [h2]; omega
                  | negSucc n => cases hroom
                have hp3 : F.oE (free3 H room) (F.get H.1 j) = some (v, H') := hp2
                rw [F.oE_eq, F.get_eq, Option.bind_eq_some_iff] at hp3
                obtain ⟨ob, hj, hp4⟩ := hp3
                unfold free3 at hp4
                split at hp4
                · rename_i es c
                  cases hin : incr c es 0 with
                  | false => rw [hin] at hp4; cases hp4
                  | true =>
                    rw [hin] at hp4
                    have hp5 : F.oE (free4 H room) (sumF H es) = some (v, H') := hp4
                    rw [F.oE_eq, Option.bind_eq_some_iff] at hp5
                    obtain ⟨n, hn, hp6⟩ := hp5
                    unfold free4 at hp6
                    rw [F.subI_eq] at hp6
                    cases hp6
                    obtain ⟨_, o2, ho2, v0, hcell0, hvr0⟩ := hR.load hc0
                    obtain ⟨_, o3, ho3, v1, hcell1, hvr1⟩ := hR.load hc1
                    have h2 : o' = o2 := by omega
                    have h3 : o3 = o' + 1 := by omega
                    subst h2; subst h3
                    cases hvr0.int_inv
                    obtain ⟨hjN, obj, hobj, hor, _⟩ := hR.obj j _ hj
                    have hv1' : v1 = .map (some (e.b j)) := by cases hvr1; rfl
                    subst hv1'
                    cases hor with
                    | map _ _ es' hmer =>
                      obtain ⟨q1, q2⟩ := sumF_sum hR es es'.toList n hmer hn
                      obtain ⟨b1, b2⟩ := incr_all c es 0 hin
                      have hborn := hmer.born
                      refine (hC (e.b i) o' room (e.b j) es' c (lenW w) w hrm.1 hrm.2 hcell0 hcell1 hobj ?_ (by rw [hborn]; exact b2) q2).mono ?_
                      · intro x hx
                        have : x.born ∈ es'.toList.map (·.born) := List.mem_map.2 ⟨x, hx, rfl⟩
                        rw [hborn] at this
                        obtain ⟨y, hy, he⟩ := List.mem_map.1 this
                        rw [← he]; exact (b1 y hy).2
                      · rintro en w' ⟨rfl, hbl⟩
                        refine ⟨e, _, rfl, e.le_refl, hR.below hbl, ?_⟩
                        rw [q1, ← IntWalk.i64_left]
                        exact .int _ _
                · cases hp4
            · cases hp2
          · cases hp2
    · cases hp
  · cases hp
end
end Go.Proofs.YtlomlkoimmpemaaGreatDoor.Am
namespace Go.Proofs.YtlomlkoimmpemaaGreatDoor.Am
open Go.RowKit Go.Maps Go.Sort Go.Proofs
set_option linter.unusedVariables false
set_option linter.unusedSimpArgs false

/-! the names of a store's files, sorted -/
noncomputable section
/-- before, in the order of bytes -/
def ltN (a : List Nat) : List Nat → Bool := List.rec (motive := fun _ => List Nat → Bool) (fun b => List.rec false (fun _ _ _ => true) b) (fun x _ ih b => List.rec false (fun y r _ => Bool.rec (Bool.rec false (ih r) (Nat.beq x y)) true (Nat.blt x y)) b) a
def insN (x : List Nat) (l : List (List Nat)) : List (List Nat) := List.rec [x] (fun y r ih => Bool.rec (x :: y :: r) (y :: ih) (ltN y x)) l
def sortN (l : List (List Nat)) : List (List Nat) := List.rec [] (fun x _ ih => insN x ih) l
def memL (x : List Nat) (l : List (List Nat)) : Bool := List.rec false (fun y _ ih => Bool.rec ih true (F.eqL y x)) l
def nodupN (l : List (List Nat)) : Bool := List.rec true (fun x r ih => Bool.rec ih false (memL x r)) l
def key1 (r : Option (List (List Nat))) (v : AV) : Option (List (List Nat)) := match v with | .str s => Option.rec none (fun l => some (s :: l)) r | _ => none
def keysN (es : List ME) : Option (List (List Nat)) := List.rec (some []) (fun x _ ih => key1 ih x.key) es
def sl1 (n i : Nat) : AV := .slice i 0 n n false 1
def names4 (ty : TypeId) (H : Hp) (l : List (List Nat)) : Option (AV × Hp) := List.rec (some (.slice0, H)) (fun _ _ _ => F.newC H ty 0 (sl1 (F.lenL l)) (F.mapL AV.str l)) l
def shortN (l : List (List Nat)) : Bool := List.rec true (fun x _ ih => F.bothB (Nat.ble (F.lenL x) 16777216) ih) l
def names3 (ty : TypeId) (H : Hp) (c : Nat) (es : List ME) (ks : List (List Nat)) : Option (AV × Hp) := Bool.rec none (names4 ty H (sortN ks)) (F.bothB (incr c es 0) (F.bothB (nodupN ks) (F.bothB (shortN ks) (Nat.ble (F.lenL es) 16777216))))
def names2 (ty : TypeId) (H : Hp) (o : AO) : Option (AV × Hp) := match o with
  | .map es c => F.oE (names3 ty H c es) (keysN es)
  | _ => none
def names1 (ty : TypeId) (H : Hp) (i o : Nat) : Option (AV × Hp) := Option.rec none (fun m => match m with | .map j => F.oE (names2 ty H) (F.get H.1 j) | _ => none) (F.cellAt H i (Nat.succ o))
def namesP (ty : TypeId) : Prim := fun args H => match args with
  | [a] => F.ptrE (names1 ty H) a
  | _ => none
end

def nats (s : List UInt8) : List Nat := s.map (·.toNat)
theorem ltN_nats : ∀ a b : List UInt8, ltN (nats a) (nats b) = decide (a < b)
  | [], [] => by simp [nats]; rfl
  | [], y :: b => by simp [nats]; rfl
  | x :: a, [] => by simp [nats]; rfl
  | x :: a, y :: b => by
    show @Bool.rec (fun _ => Bool) (@Bool.rec (fun _ => Bool) false (ltN (nats a) (nats b)) (Nat.beq x.toNat y.toNat)) true (Nat.blt x.toNat y.toNat) = _
    rw [ltN_nats a b]
    have key : (x :: a < y :: b) ↔ (x < y ∨ x = y ∧ a < b) := List.cons_lt_cons_iff
    by_cases h1 : x.toNat < y.toNat
    · have : Nat.blt x.toNat y.toNat = true := by rw [Nat.blt_eq]; exact h1
      rw [this]
      symm
      rw [decide_eq_true_iff, key]
      exact .inl (UInt8.lt_iff_toNat_lt.2 h1)
    · have : Nat.blt x.toNat y.toNat = false := by rw [← Bool.not_eq_true, Nat.blt_eq]; exact h1
      rw [this]
      by_cases h2 : x = y
      · subst h2
        rw [beq_t]
        show decide (a < b) = _
        rw [decide_eq_decide, key]
        constructor
        · exact fun q => .inr ⟨rfl, q⟩
        · rintro (q | ⟨_, q⟩)
          · exact absurd (UInt8.lt_iff_toNat_lt.1 q) h1
          · exact q
      · have h3 : ¬ x.toNat = y.toNat := fun q => h2 (UInt8.toNat_inj.1 q)
        rw [beq_f h3]
        symm
        rw [decide_eq_false_iff_not, key]
        rintro (q | ⟨q, _⟩)
        · exact h1 (UInt8.lt_iff_toNat_lt.1 q)
        · exact h2 q

def insU (x : List UInt8) : List (List UInt8) → List (List UInt8)
  | [] => [x]
  | y :: r => if y < x then y :: insU x r else x :: y :: r
def sortU : List (List UInt8) → List (List UInt8)
  | [] => []
  | x :: r => insU x (sortU r)
theorem insN_nats (x : List UInt8) : ∀ l : List (List UInt8), insN (nats x) (l.map nats) = (insU x l).map nats
  | [] => rfl
  | y :: r => by
    show @Bool.rec (fun _ => List (List Nat)) (nats x :: nats y :: r.map nats) (nats y :: insN (nats x) (r.map nats)) (ltN (nats y) (nats x)) = _
    rw [insN_nats x r, ltN_nats]
    have hi : insU x (y :: r) = if y < x then y :: insU x r else x :: y :: r := rfl
    rw [hi]
    by_cases h : y < x
    · rw [if_pos h, decide_eq_true h]; rfl
    · rw [if_neg h, decide_eq_false h]; rfl
theorem sortN_nats : ∀ l : List (List UInt8), sortN (l.map nats) = (sortU l).map nats
  | [] => rfl
  | x :: r => by
    show insN (nats x) (sortN (r.map nats)) = _
    rw [sortN_nats r, insN_nats]; rfl
theorem insU_perm (x : List UInt8) : ∀ l, (insU x l).Perm (x :: l)
  | [] => .refl _
  | y :: r => by
    unfold insU
    split
    · exact ((insU_perm x r).cons y).trans (.swap x y r)
    · exact .refl _
theorem sortU_perm : ∀ l, (sortU l).Perm l
  | [] => .refl _
  | x :: r => (insU_perm x (sortU r)).trans ((sortU_perm r).cons x)
theorem insU_sorted (x : List UInt8) : ∀ l : List (List UInt8), l.Pairwise (fun a b => a ≤ b) → (insU x l).Pairwise (fun a b => a ≤ b)
  | [], _ => by simp [insU]
  | y :: r, h => by
    unfold insU
    rw [List.pairwise_cons] at h
    split
    · rename_i hlt
      rw [List.pairwise_cons]
      refine ⟨fun z hz => ?_, insU_sorted x r h.2⟩
      rcases List.mem_cons.1 ((insU_perm x r).mem_iff.1 hz) with rfl | q
      · exact List.le_of_lt hlt
      · exact h.1 z q
    · rename_i hlt
      have hle : x ≤ y := List.not_lt.1 hlt
      rw [List.pairwise_cons, List.pairwise_cons]
      refine ⟨fun z hz => ?_, h.1, h.2⟩
      rcases List.mem_cons.1 hz with rfl | q
      · exact hle
      · exact List.le_trans hle (h.1 z q)
theorem sortU_sorted : ∀ l, (sortU l).Pairwise (fun a b => a ≤ b)
  | [] => .nil
  | x :: r => insU_sorted x _ (sortU_sorted r)
theorem sortU_merge (l : List (List UInt8)) : l.mergeSort (fun x y => decide (x ≤ y)) = sortU l := by
  have h := mergeSort_of_perm (sortU_perm l).symm
  have h2 : (sortU l).mergeSort leB = sortU l := List.mergeSort_of_pairwise ((sortU_sorted l).imp fun {a b} hab => decide_eq_true hab)
  exact h.trans h2

def keyB (x : MapEntry) : List UInt8 := match x.key with | .string s => s.data.toList | _ => []
section
variable {P : Program} {e : Em}
theorem keysN_map : ∀ (es : List ME) (es' : List MapEntry) (ks : List (List Nat)), MER e es es' → keysN es = some ks → es'.map (fun x => nats (keyB x)) = ks ∧ ∀ x ∈ es', ∃ s : ByteArray, x.key = .string s ∧ nats s.data.toList ∈ ks
  | [], [], ks, _, h => by cases h; exact ⟨rfl, by simp⟩
  | [], y :: ys, ks, hm, _ => by have := hm.1; simp at this
  | x :: es, [], ks, hm, _ => by have := hm.1; simp at this
  | x :: es, y :: ys, ks, hm, h => by
    have hm' : MER e es ys := ⟨by have := hm.1; simpa using this, fun i a b ha hb => hm.2 (i + 1) a b (by simpa using ha) (by simpa using hb)⟩
    obtain ⟨hk, _, _⟩ := hm.2 0 x y rfl rfl
    have h' : key1 (keysN es) x.key = some ks := h
    unfold key1 at h'
    split at h'
    · rename_i s hs
      cases hr : keysN es with
      | none => rw [hr] at h'; cases h'
      | some l =>
        rw [hr] at h'
        have h2 : some (s :: l) = some ks := h'
        cases h2
        obtain ⟨i1, i2⟩ := keysN_map es ys l hm' hr
        rw [hs] at hk
        obtain ⟨s', hs', hkey⟩ := hk.str_inv
        have hb : nats s'.data.toList = s := by rw [hs']; rfl
        refine ⟨?_, ?_⟩
        · rw [List.map_cons, i1]
          have : nats (keyB y) = s := by unfold keyB; rw [hkey]; exact hb
          rw [this]
        · intro z hz
          rcases List.mem_cons.1 hz with rfl | q
          · exact ⟨s', hkey, by rw [hb]; exact .head _⟩
          · obtain ⟨s2, a, b⟩ := i2 z q
            exact ⟨s2, a, .tail _ b⟩
    · cases h'

theorem memL_iff (x : List Nat) : ∀ l, memL x l = true ↔ x ∈ l
  | [] => by simp [memL]
  | y :: r => by
    have : memL x (y :: r) = @Bool.rec (fun _ => Bool) (memL x r) true (F.eqL y x) := rfl
    rw [this, F.eqL_eq]
    have ih := memL_iff x r
    by_cases h : y = x
    · subst h; simp
    · have : (y == x) = false := by simp [h]
      rw [this]
      simp only
      rw [ih, List.mem_cons]
      exact ⟨.inr, fun q => q.resolve_left (fun z => h z.symm)⟩
theorem nodupN_nodup : ∀ l, nodupN l = true → l.Nodup
  | [], _ => .nil
  | x :: r, h => by
    have h' : @Bool.rec (fun _ => Bool) (nodupN r) false (memL x r) = true := h
    cases hm : memL x r with
    | true => rw [hm] at h'; cases h'
    | false =>
      rw [hm] at h'
      rw [List.nodup_cons]
      refine ⟨fun q => ?_, nodupN_nodup r h'⟩
      rw [(memL_iff x r).2 q] at hm
      cases hm
theorem shortN_all : ∀ l, shortN l = true → ∀ x ∈ l, x.length ≤ 16777216
  | [], _, x, hx => by cases hx
  | y :: r, h, x, hx => by
    have h' : F.bothB (Nat.ble (F.lenL y) 16777216) (shortN r) = true := h
    rw [F.bothB_eq, Bool.and_eq_true, Nat.ble_eq, F.lenL_eq] at h'
    rcases List.mem_cons.1 hx with rfl | q
    · exact h'.1
    · exact shortN_all r h'.2 x q

def anyR (_ : Value) : Option (DataW Unit × List MemPlace) := some (.lit (.bool true), [])

theorem names_ok {f ty : Nat} (hen : ∀ as' w, (callFunc f as').run P w = .ok (.enter f as') w) (hu : P.underlying ty = some .string)
    (hC : ∀ (bs o bm nn : Nat) (D0 : DataW Unit) (R : Value → Option (DataW Unit × List MemPlace)) (w : World), w.cell? ⟨bs, o + 1, none⟩ = some (.map (some bm)) → w.ownsMap P ty R bm nn D0 → Maps.size D0 ≤ maxLen → Maps.size D0 * 16 ≤ 140737488355328 →
      Calls P f #[.pointer (some ⟨bs, o, none⟩)] w fun e w' => ∃ (v : Value) (ss : List (List UInt8)), e = .returned v ∧ ss.Perm (strKeys D0) ∧ w'.ownsRow w.heap.size ty 1 v ss.length ((ss.mergeSort (fun x y => decide (x ≤ y))).map encStr) ∧ (v = .slice none 0 0 ↔ ss = []) ∧ Below w.heap.size w w') :
    PrimOne P f (namesP ty) := by
  intro args H v H' hp Fr W e w as' hR ha
  unfold namesP at hp
  split at hp
  · rename_i a
    unfold F.ptrE at hp
    split at hp
    · rename_i i o
      obtain ⟨a', r1, e1, hv1, hr1⟩ := ha.cons_inv
      have e3 := hr1.nil_inv
      subst e3
      obtain ⟨o', hi, ho, rfl⟩ := hv1.ptr_inv
      obtain rfl : as' = #[.pointer (some ⟨e.b i, o', none⟩)] := Array.toList_inj.1 e1
      refine ⟨hen _ _, ?_⟩
      unfold names1 at hp
      rw [F.cellAt_eq] at hp
      cases hc1 : cellAt H i (o + 1) with
      | none => rw [show Nat.succ o = o + 1 from rfl, hc1] at hp; cases hp
      | some m =>
        rw [show Nat.succ o = o + 1 from rfl, hc1] at hp
        simp only at hp
        split at hp
        · rename_i j
          rw [F.oE_eq, F.get_eq, Option.bind_eq_some_iff] at hp
          obtain ⟨ob, hj, hp4⟩ := hp
          unfold names2 at hp4
          split at hp4
          · rename_i es c
            rw [F.oE_eq, Option.bind_eq_some_iff] at hp4
            obtain ⟨ks, hks, hp5⟩ := hp4
            unfold names3 at hp5
            simp only [F.bothB_eq, F.lenL_eq] at hp5
            cases hck : (incr c es 0 && (nodupN ks && (shortN ks && Nat.ble es.length 16777216))) with
            | false => rw [hck] at hp5; cases hp5
            | true =>
              rw [hck] at hp5
              simp only [Bool.and_eq_true, Nat.ble_eq] at hck
              obtain ⟨k1, k2, k3, k4⟩ := hck
              have hp6 : names4 ty H (sortN ks) = some (v, H') := hp5
              obtain ⟨_, o3, ho3, v1, hcell1, hvr1⟩ := hR.load hc1
              have h3 : o3 = o' + 1 := by omega
              subst h3
              obtain ⟨hjN, obj, hobj, hor, _⟩ := hR.obj j _ hj
              have hv1' : v1 = .map (some (e.b j)) := by cases hvr1; rfl
              subst hv1'
              cases hor with
              | map _ _ es' hmer =>
                obtain ⟨m1, m2⟩ := keysN_map es es'.toList ks hmer hks
                obtain ⟨b1, b2⟩ := incr_all c es 0 k1
                have hborn := hmer.born
                have hlt : ∀ x ∈ es'.toList, x.born < c := by
                  intro x hx
                  have : x.born ∈ es'.toList.map (·.born) := List.mem_map.2 ⟨x, hx, rfl⟩
                  rw [hborn] at this
                  obtain ⟨y, hy, he⟩ := List.mem_map.1 this
                  rw [← he]; exact (b1 y hy).2
                have hnd := nodupN_nodup ks k2
                have hkey : ∀ x ∈ es'.toList, x.key = .string ⟨(keyB x).toArray⟩ ∧ (keyB x).length ≤ maxLen := by
                  intro x hx
                  obtain ⟨s, hs, hin⟩ := m2 x hx
                  have hkb : keyB x = s.data.toList := by unfold keyB; rw [hs]
                  refine ⟨by rw [hkb, hs], ?_⟩
                  rw [hkb]
                  have := shortN_all ks k3 _ hin
                  have hl : (nats s.data.toList).length = s.data.toList.length := by simp [nats]
                  rw [hl] at this
                  unfold maxLen
                  omega
                have hknd : (es'.toList.map (·.key)).Nodup := by
                  have h1 : (es'.toList.map (fun x => nats (keyB x))).Nodup := by rw [m1]; exact hnd
                  rw [List.Nodup, List.pairwise_map] at h1 ⊢
                  refine h1.imp_of_mem ?_
                  intro x y hx hy hne he
                  exact hne (by unfold keyB; rw [he])
                have hst : MapKept.Stamped es' c := ⟨hlt, by rw [hborn]; exact b2, hknd⟩
                have hrd : ∀ x ∈ es'.toList, WideElems.rd P ty anyR x = some (.string (keyB x), .lit (.bool true)) := by
                  intro x hx
                  obtain ⟨q1, q2⟩ := hkey x hx
                  unfold WideElems.rd
                  have hsz : (⟨(keyB x).toArray⟩ : ByteArray).size ≤ maxLen := by simpa [ByteArray.size] using q2
                  rw [q1, WideMaps.keyOf_string_mk hu hsz]
                  rfl
                have hlen : es'.size = es.length := by have := hmer.1; simpa using this
                have hown : w.ownsMap P ty anyR (e.b j) es'.size (.map ((es'.toList.map (WideElems.rg P ty anyR)).foldr DataW.insert [])) :=
                  ⟨es', c, hobj, ⟨by unfold maxLen; omega, hst, fun x hx => ⟨_, hrd x hx⟩⟩, Nat.le_refl _, rfl⟩
                have hperm : (strKeys (H := Unit) (.map ((es'.toList.map (WideElems.rg P ty anyR)).foldr DataW.insert []))).Perm (es'.toList.map keyB) := by
                  unfold strKeys
                  refine (WideShapes.sorted_perm (es'.toList.map (WideElems.rg P ty anyR))).map _ |>.trans ?_
                  rw [List.map_map]
                  refine .of_eq (List.map_congr_left fun x hx => ?_)
                  simp only [Function.comp, WideElems.rg, hrd x hx, Option.getD_some]
                  rfl
                have hsize : Maps.size (H := Unit) (.map ((es'.toList.map (WideElems.rg P ty anyR)).foldr DataW.insert [])) = es'.size := by
                  show ((es'.toList.map (WideElems.rg P ty anyR)).foldr DataW.insert []).length = es'.size
                  rw [(WideShapes.sorted_perm _).length_eq]; simp
                refine (hC (e.b i) o' (e.b j) _ _ anyR w hcell1 hown (by rw [hsize]; unfold maxLen; omega) (by rw [hsize]; omega)).mono ?_
                rintro en w' ⟨v', ss, rfl, hss, hrow, hnil, hbl⟩
                have hpu : ss.Perm (es'.toList.map keyB) := hss.trans hperm
                have hms : ss.mergeSort (fun x y => decide (x ≤ y)) = sortU (es'.toList.map keyB) := (mergeSort_of_perm hpu).trans (sortU_merge _)
                have hsn : sortN ks = (sortU (es'.toList.map keyB)).map nats := by
                  rw [← sortN_nats, List.map_map, ← m1]; rfl
                rw [hms] at hrow
                have hslen : (sortU (es'.toList.map keyB)).length = ss.length := by rw [(sortU_perm _).length_eq, hpu.length_eq]
                cases hk0 : sortN ks with
                | nil =>
                  rw [hk0] at hp6
                  cases hp6
                  have : ss = [] := by
                    rw [hk0] at hsn
                    have := congrArg List.length hsn
                    rw [List.length_map, hslen] at this
                    exact List.length_eq_zero_iff.1 this.symm
                  refine ⟨e, v', rfl, e.le_refl, hR.below hbl, ?_⟩
                  rw [hnil.2 this]
                  exact .slice0
                | cons k0 kr =>
                  have hp7 : F.newC H ty 0 (sl1 (F.lenL (sortN ks))) (F.mapL AV.str (sortN ks)) = some (v, H') := by
                    rw [hk0] at hp6 ⊢; exact hp6
                  rw [F.newC_eq, Option.map_eq_some_iff] at hp7
                  obtain ⟨⟨ni, H2⟩, hnc, hpe⟩ := hp7
                  cases hpe
                  have hne : ss ≠ [] := by
                    intro q
                    rw [hk0] at hsn
                    have := congrArg List.length hsn
                    rw [List.length_map, hslen, q] at this
                    simp at this
                  obtain ⟨hxl, hrow2⟩ := hrow
                  rcases hrow2 with ⟨rfl, h0⟩ | ⟨g, cap, cur, rfl, hbg, hcur, hcap, hcapm, hcsz, htake⟩
                  · exact absurd (hnil.1 rfl) hne
                  obtain ⟨hll, hal⟩ := newCells_some hnc
                  rw [F.mapL_eq] at hal hll
                  have hnlen : (F.lenL (sortN ks)) = ss.length := by rw [F.lenL_eq, hsn, List.length_map, hslen]
                  have hi' : ni = e.N := (alloc_some hal).1.trans hR.N.symm
                  have hle := Em.le_ext e g 0 cur.size
                  have hor : OR (e.ext g 0 cur.size) ni (.cells (Tr.puts .nil 0 ((sortN ks).map AV.str)) 0 ((sortN ks).map AV.str).length ty 0) (.cells cur ty (0, 0)) := by
                    subst hi'
                    refine .cells _ _ _ _ _ _ (0, 0) (by simp [Em.ext_n]) ?_ (fun _ => rfl) (by simp) (fun _ => Em.ext_d ..)
                    intro k v _ hk hg
                    rw [get_puts', if_pos ⟨Nat.zero_le _, by simpa using hk⟩, Nat.sub_zero] at hg
                    rw [List.getElem?_map, hsn, List.getElem?_map, Option.map_map, Option.map_eq_some_iff] at hg
                    obtain ⟨u, hu1, rfl⟩ := hg
                    refine ⟨k, by rw [Em.ext_d]; omega, encStr u, ?_, ?_⟩
                    · have h1 : (cur.toList.take (ss.length * 1))[k]? = some (encStr u) := by rw [htake, List.getElem?_map, hu1]; rfl
                      rw [List.getElem?_take] at h1
                      split at h1
                      · rw [← Array.getElem?_toList]; exact h1
                      · cases h1
                    · have hb : AV.str (nats u) = AV.str (bytes (⟨u.toArray⟩ : ByteArray)) := by simp [nats, bytes]
                      show VR _ (AV.str (nats u)) _
                      rw [hb]
                      exact VR.str (⟨u.toArray⟩ : ByteArray)
                  obtain ⟨hin, hR2⟩ := hR.adoptB hbl hbg hcur hal hor
                  refine ⟨_, _, rfl, hle, hR2, ?_⟩
                  subst hin
                  show VR _ (sl1 (F.lenL (sortN ks)) e.N) _
                  unfold sl1
                  rw [hnlen]
                  have hb0 : (e.ext g 0 cur.size).b e.N = g := Em.ext_b ..
                  have hv := VR.slice (e := e.ext g 0 cur.size) e.N 0 ss.length ss.length false 1 0 cap (Nat.lt_succ_self e.N) (by rw [Em.ext_d]; rfl) hcap hcap (by simp) (by rw [Em.ext_n, hcsz]; omega)
                  rw [hb0] at hv
                  exact hv
          · cases hp4
        · cases hp
    · cases hp
  · cases hp
end
end Go.Proofs.YtlomlkoimmpemaaGreatDoor.Am
