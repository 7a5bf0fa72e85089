/- A small library on memory, over any program: what may have changed ('Only'), maps as association lists ('MapAt'), slices that are read ('RdS') and owned ('OwnS'), append onto an owned slice. -/
import Derived.WalkKit
import Derived.WalkLawsBesides
import Derived.Deep.AppendSrc
import Derived.Deep.Upon
import Derived.Deep.MidRow
import Derived.Lib.Hide
set_option linter.unusedVariables false
set_option linter.unusedSimpArgs false
set_option linter.unusedSectionVars false
namespace Go.Proofs.YtdacjomfipkpaaaDoor.Hp
open Go Go.RowKit

/-! ### strings -/
theorem str_beq (a b : ByteArray) : (a == b) = decide (a = b) := by
  cases a with | mk a =>
  cases b with | mk b =>
  rw [Bool.eq_iff_iff]
  constructor
  · intro h
    have h2 : (a == b) = true := h
    simp at h2
    simp [h2]
  · intro h
    simp at h
    subst h
    show (a == a) = true
    simp
theorem str_tl (a b : ByteArray) : (a.toList == b.toList) = decide (a = b) := by rw [← beq_toListBytes, str_beq]

theorem str_tl_iff (a b : ByteArray) : a.toList = b.toList ↔ a = b := by
  have := str_tl a b
  rw [Bool.eq_iff_iff] at this
  simpa using this

/-! ### what may have changed -/
theorem cell_same {w : World} {a : Addr} {u v : Value} (h : w.cell? a = some u) : (w.setCell a v).cell? a = some v := World.cell?_setCell_same w a v h
theorem cell_other {w : World} {a b : Addr} {v : Value} (h : a ≠ b) : (w.setCell a v).cell? b = w.cell? b := World.cell?_setCell_other w a b v h
/-- w' is w but for blocks in S, and for new blocks -/
structure Only (S : Nat → Prop) (w w' : World) : Prop where
  os : w'.os = w.os
  tape : w'.tape = w.tape
  output : w'.output = w.output
  size : w.heap.size ≤ w'.heap.size
  block : ∀ k, k < w.heap.size → ¬ S k → w'.heap[k]? = w.heap[k]?

theorem Only.refl (S : Nat → Prop) (w : World) : Only S w w := ⟨rfl, rfl, rfl, Nat.le_refl _, fun _ _ _ => rfl⟩
theorem Only.trans {S T : Nat → Prop} {a b c : World} (h : Only S a b) (k : Only T b c) (hT : ∀ x, x < a.heap.size → T x → S x) : Only S a c :=
  ⟨k.os.trans h.os, k.tape.trans h.tape, k.output.trans h.output, Nat.le_trans h.size k.size,
    fun i hi hn => (k.block i (Nat.lt_of_lt_of_le hi h.size) (fun ht => hn (hT i hi ht))).trans (h.block i hi hn)⟩
theorem Only.mono {S T : Nat → Prop} {a b : World} (h : Only S a b) (hS : ∀ x, x < a.heap.size → S x → T x) : Only T a b :=
  ⟨h.os, h.tape, h.output, h.size, fun i hi hn => h.block i hi (fun hs => hn (hS i hi hs))⟩
theorem Only.drew {S : Nat → Prop} {a w : World} (h : Only S a w) : Only S a w.drew := ⟨h.os, h.tape, h.output, h.size, h.block⟩
theorem Only.drewN {S : Nat → Prop} {a w : World} (h : Only S a w) (n : Nat) : Only S a (w.drewN n) := ⟨h.os, h.tape, h.output, h.size, h.block⟩
theorem Only.alloc {S : Nat → Prop} {a w : World} (h : Only S a w) (o : Obj) : Only S a (w.alloc o) :=
  ⟨h.os, h.tape, h.output, by simp; have := h.size; omega, fun i hi hn => by
    rw [Below.heap_alloc w o i (Nat.lt_of_lt_of_le hi h.size)]; exact h.block i hi hn⟩
theorem Only.setCell {S : Nat → Prop} {a w : World} (h : Only S a w) (p : Addr) (hp : a.heap.size ≤ p.block ∨ S p.block) (u : Value) : Only S a (w.setCell p u) :=
  ⟨h.os, h.tape, h.output, by simpa using h.size, fun i hi hn => by
    rw [Below.heap_setCell w p u i (fun e => by subst e; rcases hp with hp | hp; omega; exact hn hp)]; exact h.block i hi hn⟩
theorem Only.cell {S : Nat → Prop} {w w' : World} (h : Only S w w') {p : Addr} (hp : p.block < w.heap.size) (hn : ¬ S p.block) : w'.cell? p = w.cell? p := World.cell?_of_block (h.block p.block hp hn)
theorem Only.frozen {S : Nat → Prop} {w w' : World} (h : Only S w w') {p : Addr} (hp : p.block < w.heap.size) (hn : ¬ S p.block) : w'.frozen? p = w.frozen? p := World.frozen?_of_block (h.block p.block hp hn)
theorem Only.cellv {S : Nat → Prop} {w w' : World} (h : Only S w w') {p : Addr} {v : Value} (hc : w.cell? p = some v) (hn : ¬ S p.block) : w'.cell? p = some v :=
  (h.cell (World.block_lt_of_cell? w p hc) hn).trans hc
theorem Only.below {S : Nat → Prop} {w w' : World} (h : Only S w w') (B : Nat) (hB : B ≤ w.heap.size) (hS : ∀ x, S x → B ≤ x) : Below B w w' :=
  ⟨h.os, h.tape, h.output, h.size, fun k hk => h.block k (by omega) (fun hs => by have := hS k hs; omega)⟩
theorem Only.of_below {w w' : World} (h : Below w.heap.size w w') (S : Nat → Prop) : Only S w w' := ⟨h.os, h.tape, h.output, h.size, fun k hk _ => h.block k hk⟩
/-! ### maps -/
structure KeyOK (P : Program) (kt : TypeId) {κ : Type} [DecidableEq κ] (ek : κ → Value) : Prop where
  check : ∀ em k w, (Instr.checkKey em 10000 kt (ek k)).run P w = .ok () w
  find : ∀ k (es : List MapEntry) (ks : List κ) w, es.map (·.key) = ks.map ek →
    (Instr.findKey kt (ek k) es).run P w = .ok ((ks.findIdx? (fun x => decide (x = k))).bind fun i => (es[i]?).map fun e => (i, e.val)) w
  stays : ∀ k w, (Instr.keyThatStays (ek k) (ek k)).run P w = .ok (ek k) w

section keys
variable {P : Program} {kt : TypeId} {κ : Type} [DecidableEq κ] {ek : κ → Value}

theorem findNow_of {d : TypeDesc} (h : ∀ a b, Instr.sameNow d (ek a) (ek b) = some (decide (a = b))) (k : κ) : ∀ (es : List MapEntry) (ks : List κ) (n : Nat), es.map (·.key) = ks.map ek →
    Instr.findNow d (ek k) es n = some ((ks.findIdx? (fun x => decide (x = k))).bind fun i => (es[i]?).map fun e => (n + i, e.val))
  | [], ks, n, hk => by
    have : ks = [] := by simpa using hk.symm
    subst this
    simp [Instr.findNow]
  | e :: es, [], n, hk => by simp at hk
  | e :: es, x :: ks, n, hk => by
    simp only [List.map_cons, List.cons.injEq] at hk
    obtain ⟨h1, h2⟩ := hk
    have ih := findNow_of h k es ks (n + 1) h2
    unfold Instr.findNow
    rw [h1, h k x]
    by_cases hx : k = x
    · subst hx
      simp [List.findIdx?_cons]
    · have hx' : ¬ x = k := fun e => hx e.symm
      simp only [hx, decide_false, ih, List.findIdx?_cons, hx', Bool.false_eq_true, if_false]
      cases ks.findIdx? (fun x => decide (x = k)) with
      | none => simp
      | some j => simp [Nat.add_comm, Nat.add_left_comm]

theorem findAsking_of (h : ∀ a b w, (Op.equal kt (ek a) (ek b)).run P w = .ok (decide (a = b)) w) (k : κ) : ∀ (es : List MapEntry) (ks : List κ) (n : Nat) (w : World), es.map (·.key) = ks.map ek →
    (Instr.findAsking kt (ek k) es n).run P w = .ok ((ks.findIdx? (fun x => decide (x = k))).bind fun i => (es[i]?).map fun e => (n + i, e.val)) w
  | [], ks, n, w, hk => by
    have : ks = [] := by simpa using hk.symm
    subst this
    simp [Instr.findAsking]
  | e :: es, [], n, w, hk => by simp at hk
  | e :: es, x :: ks, n, w, hk => by
    simp only [List.map_cons, List.cons.injEq] at hk
    obtain ⟨h1, h2⟩ := hk
    have ih := findAsking_of h k es ks (n + 1) w h2
    unfold Instr.findAsking
    simp only [Sem.run_bind, h1, h k x w, Result.andThen]
    by_cases hx : k = x
    · subst hx
      simp [List.findIdx?_cons]
    · have hx' : ¬ x = k := fun e => hx e.symm
      simp only [hx, decide_false, ih, List.findIdx?_cons, hx', Bool.false_eq_true, if_false]
      cases ks.findIdx? (fun x => decide (x = k)) with
      | none => simp
      | some j => simp [Nat.add_comm, Nat.add_left_comm]

/-- a key type that is compared at once: strings, integers -/
theorem KeyOK.now {d : TypeDesc} (hd : P.underlying kt = some d) (hc : ∀ em k w, (Instr.checkKey em 10000 kt (ek k)).run P w = .ok () w) (h : ∀ a b, Instr.sameNow d (ek a) (ek b) = some (decide (a = b)))
    (hs : ∀ k, Instr.sameBits 10000 (ek k) (ek k) = true) : KeyOK P kt ek where
  check := hc
  find := fun k es ks w hk => by
    have h1 := findNow_of h k es ks 0 hk
    simp [Instr.findKey, run_underlying hd, Result.andThen, h1]
  stays := fun k w => by simp [Instr.keyThatStays, hs k]

/-- a key type that is compared by '==' -/
theorem KeyOK.asked {d : TypeDesc} (hd : P.underlying kt = some d) (hc : ∀ em k w, (Instr.checkKey em 10000 kt (ek k)).run P w = .ok () w) (hn : ∀ a b, Instr.sameNow d (ek a) (ek b) = none)
    (h : ∀ a b w, (Op.equal kt (ek a) (ek b)).run P w = .ok (decide (a = b)) w) (hs : ∀ k, Instr.sameBits 10000 (ek k) (ek k) = true) : KeyOK P kt ek where
  check := hc
  find := fun k es ks w hk => by
    cases es with
    | nil =>
      have : ks = [] := by simpa using hk.symm
      subst this
      simp [Instr.findKey, run_underlying hd, Result.andThen, Instr.findNow]
    | cons e es =>
      cases ks with
      | nil => simp at hk
      | cons x ks =>
        have h1 := findAsking_of h k (e :: es) (x :: ks) 0 w hk
        simp only [List.map_cons, List.cons.injEq] at hk
        simp only [Nat.zero_add] at h1
        simp [Instr.findKey, run_underlying hd, Result.andThen, Instr.findNow, hk.1, hn]
        simpa using h1
  stays := fun k w => by simp [Instr.keyThatStays, hs k]
end keys

section maps
variable {κ : Type} [DecidableEq κ]
def aget (m : List (κ × Value)) (k : κ) : Option Value := (m.find? (fun p => decide (p.1 = k))).map (·.2)
def aset (m : List (κ × Value)) (k : κ) (v : Value) : List (κ × Value) := if (aget m k).isSome then m.map (fun p => if p.1 = k then (k, v) else p) else m ++ [(k, v)]
def adel (m : List (κ × Value)) (k : κ) : List (κ × Value) := m.filter (fun p => !decide (p.1 = k))

/-- block b of w is a map that holds m (in the order of its block) -/
def MapAt (ek : κ → Value) (w : World) (b : Nat) (m : List (κ × Value)) : Prop :=
  ∃ es clock, w.heap[b]? = some (.map es clock) ∧ es.toList.map (fun e => (e.key, e.val)) = m.map (fun p => (ek p.1, p.2)) ∧ (m.map (·.1)).Nodup ∧
    es.toList.Pairwise (fun x y => x.born < y.born) ∧ ∀ e ∈ es.toList, e.born < clock

theorem MapAt.lt {ek : κ → Value} {w : World} {b : Nat} {m : List (κ × Value)} (h : MapAt ek w b m) : b < w.heap.size := by
  obtain ⟨es, clock, hb, _⟩ := h
  exact (Array.getElem?_eq_some_iff.1 hb).1
theorem MapAt.kept {ek : κ → Value} {w w' : World} {b : Nat} {m : List (κ × Value)} (h : MapAt ek w b m) (hb : w'.heap[b]? = w.heap[b]?) : MapAt ek w' b m := by
  obtain ⟨es, clock, h1, h2⟩ := h
  exact ⟨es, clock, hb.trans h1, h2⟩
theorem MapAt.only {ek : κ → Value} {S : Nat → Prop} {w w' : World} {b : Nat} {m : List (κ × Value)} (h : MapAt ek w b m) (ho : Only S w w') (hn : ¬ S b) : MapAt ek w' b m :=
  h.kept (ho.block b h.lt hn)
theorem MapAt.drewN {ek : κ → Value} {w : World} {b : Nat} {m : List (κ × Value)} (h : MapAt ek w b m) (n : Nat) : MapAt ek (w.drewN n) b m := h
theorem MapAt.drew {ek : κ → Value} {w : World} {b : Nat} {m : List (κ × Value)} (h : MapAt ek w b m) : MapAt ek w.drew b m := h
theorem MapAt.alloc {ek : κ → Value} {w : World} {b : Nat} {m : List (κ × Value)} (h : MapAt ek w b m) (o : Obj) : MapAt ek (w.alloc o) b m := h.kept (Below.heap_alloc w o b h.lt)
theorem MapAt.setCell {ek : κ → Value} {w : World} {b : Nat} {m : List (κ × Value)} (h : MapAt ek w b m) (p : Addr) (v : Value) (hp : b ≠ p.block) : MapAt ek (w.setCell p v) b m := h.kept (Below.heap_setCell w p v b hp)
theorem MapAt.made (ek : κ → Value) (w : World) : MapAt ek (w.alloc (.map #[] 0)) w.heap.size [] :=
  ⟨#[], 0, heap_alloc_new w _, by simp, by simp, by simp, by simp⟩

theorem keys_of {ek : κ → Value} {es : List MapEntry} {m : List (κ × Value)} (h : es.map (fun e => (e.key, e.val)) = m.map (fun p => (ek p.1, p.2))) : es.map (·.key) = (m.map (·.1)).map ek := by
  have := congrArg (List.map Prod.fst) h
  simpa [List.map_map, Function.comp_def] using this
theorem vals_of {ek : κ → Value} {es : List MapEntry} {m : List (κ × Value)} (h : es.map (fun e => (e.key, e.val)) = m.map (fun p => (ek p.1, p.2))) : es.map (·.val) = m.map (·.2) := by
  have := congrArg (List.map Prod.snd) h
  simpa [List.map_map, Function.comp_def] using this

/-- where a key is found -/
theorem find_aget {ek : κ → Value} : ∀ {es : List MapEntry} {m : List (κ × Value)} (k : κ), es.map (fun e => (e.key, e.val)) = m.map (fun p => (ek p.1, p.2)) →
    ((((m.map (·.1)).findIdx? (fun x => decide (x = k))).bind fun i => (es[i]?).map fun e => (i, e.val))).map (·.2) = aget m k
  | [], m, k, h => by
    have : m = [] := by simpa using h.symm
    subst this; simp [aget]
  | e :: es, [], k, h => by simp at h
  | e :: es, p :: m, k, h => by
    simp only [List.map_cons, List.cons.injEq, Prod.mk.injEq] at h
    obtain ⟨⟨h1, h2⟩, h3⟩ := h
    have ih := find_aget k h3
    by_cases hp : p.1 = k
    · simp [List.findIdx?_cons, hp, aget, h2]
    · simp only [List.map_cons, List.findIdx?_cons, hp, decide_false, Bool.false_eq_true, if_false, aget, List.find?_cons] at ih ⊢
      rw [← ih]
      cases (m.map (·.1)).findIdx? (fun x => decide (x = k)) with
      | none => simp
      | some j =>
        simp only [Option.map_some, Option.bind_some, List.getElem?_cons_succ]
        cases es[j]? <;> simp

section runs
variable {P : Program} {kt et mt : TypeId} {ek : κ → Value}

theorem run_lookup_any (K : KeyOK P kt ek) (hm : P.underlying mt = some (.map kt et)) {z : Value} (hz : ∀ w, (zeroValue et).run P w = .ok z w) {w : World} {b : Nat} {m : List (κ × Value)} (h : MapAt ek w b m) (k : κ) (ok : Bool) :
    (Instr.lookup mt (.map (some b)) (ek k) ok).run P w = .ok (if ok then .tuple #[(aget m k).getD z, .bool (aget m k).isSome] else (aget m k).getD z) w := by
  obtain ⟨es, clock, hb, hes, _⟩ := h
  have hf := K.find k es.toList (m.map (·.1)) w (keys_of hes)
  have ha := find_aget (es := es.toList) k hes
  unfold Instr.lookup
  simp only [Sem.run_bind, run_underlying hm, Result.andThen, getObj, Sem.run, hb, K.check, hf, Sem.run_pure]
  revert ha
  generalize ((m.map (·.1)).findIdx? (fun x => decide (x = k))).bind (fun i => (es.toList[i]?).map fun e => (i, e.val)) = r
  intro ha
  cases r with
  | none =>
    simp at ha
    simp [← ha, hz, Result.andThen]
  | some p =>
    simp at ha
    simp [← ha, Result.andThen]
theorem run_lookup_ok (K : KeyOK P kt ek) (hm : P.underlying mt = some (.map kt et)) {z : Value} (hz : ∀ w, (zeroValue et).run P w = .ok z w) {w : World} {b : Nat} {m : List (κ × Value)} (h : MapAt ek w b m) (k : κ) :
    (Instr.lookup mt (.map (some b)) (ek k) true).run P w = .ok (.tuple #[(aget m k).getD z, .bool (aget m k).isSome]) w := by simpa using run_lookup_any K hm hz h k true
theorem run_lookup (K : KeyOK P kt ek) (hm : P.underlying mt = some (.map kt et)) {z : Value} (hz : ∀ w, (zeroValue et).run P w = .ok z w) {w : World} {b : Nat} {m : List (κ × Value)} (h : MapAt ek w b m) (k : κ) :
    (Instr.lookup mt (.map (some b)) (ek k) false).run P w = .ok ((aget m k).getD z) w := by simpa using run_lookup_any K hm hz h k false

theorem heap_set_same {w : World} {b : Nat} {o : Obj} (hb : b < w.heap.size) : (w.heap.setIfInBounds b o)[b]? = some o := by
  rw [Array.getElem?_setIfInBounds]; simp [hb]
theorem heap_set_other {w : World} {b k : Nat} {o : Obj} (hk : k ≠ b) : (w.heap.setIfInBounds b o)[k]? = w.heap[k]? := by
  rw [Array.getElem?_setIfInBounds]; simp [Ne.symm hk]

/-- only the map's own block has changed -/
theorem only_set (w : World) (b : Nat) (o : Obj) : Only (· = b) w { w with heap := w.heap.setIfInBounds b o } :=
  ⟨rfl, rfl, rfl, by simp, fun k _ hk => heap_set_other hk⟩

theorem map_modify_vals {ek : κ → Value} {k : κ} {v : Value} : ∀ {es : List MapEntry} {m : List (κ × Value)} {i : Nat}, es.map (fun e => (e.key, e.val)) = m.map (fun p => (ek p.1, p.2)) → (m.map (·.1)).Nodup →
    (m.map (·.1)).findIdx? (fun x => decide (x = k)) = some i →
    (es.modify i fun e => { e with key := ek k, val := v }).map (fun e => (e.key, e.val)) = (m.map (fun p => if p.1 = k then (k, v) else p)).map (fun p => (ek p.1, p.2))
  | [], m, i, h, _, hi => by
    have : m = [] := by simpa using h.symm
    subst this; simp at hi
  | e :: es, [], i, h, _, _ => by simp at h
  | e :: es, p :: m, i, h, hn, hi => by
    simp only [List.map_cons, List.cons.injEq, Prod.mk.injEq] at h
    obtain ⟨⟨h1, h2⟩, h3⟩ := h
    simp only [List.map_cons, List.nodup_cons] at hn
    simp only [List.map_cons, List.findIdx?_cons] at hi
    by_cases hp : p.1 = k
    · simp only [hp, decide_true, if_true, Option.some.injEq] at hi
      subst hi
      have hrest : m.map (fun p => if p.1 = k then (k, v) else p) = m := by
        conv => rhs; rw [← List.map_id m]
        refine List.map_congr_left fun q hq => ?_
        have : q.1 ≠ k := fun e => hn.1 (by rw [hp, ← e]; exact List.mem_map_of_mem hq)
        simp [this]
      simp [hp, hrest, h3]
    · simp only [hp, decide_false, Bool.false_eq_true, if_false, Option.map_eq_some_iff] at hi
      obtain ⟨j, hj, rfl⟩ := hi
      have ih := map_modify_vals (v := v) h3 hn.2 hj
      simp [hp, h1, h2, ih]

theorem keys_aset (m : List (κ × Value)) (k : κ) (v : Value) (h : (m.map (·.1)).Nodup) : ((aset m k v).map (·.1)).Nodup := by
  unfold aset
  split
  · rw [List.map_map]
    have : (m.map ((fun x => x.1) ∘ fun p => if p.1 = k then (k, v) else p)) = m.map (·.1) := by
      refine List.map_congr_left fun q hq => ?_
      by_cases e : q.1 = k <;> simp [e]
    rw [this]; exact h
  · rename_i hn
    rw [List.map_append, List.nodup_append]
    refine ⟨h, by simp, fun a ha b hb => ?_⟩
    simp only [List.map_cons, List.map_nil, List.mem_singleton] at hb
    subst hb
    intro e
    subst e
    obtain ⟨q, hq, rfl⟩ := List.mem_map.1 ha
    have hx : (m.find? (fun p => decide (p.1 = q.1))).isSome := by
      rw [List.find?_isSome]; exact ⟨q, hq, by simp⟩
    simp [aget] at hn
    simp at hx
    obtain ⟨y, hy⟩ := hx
    exact hn y hy

theorem nodup_filter_keys (m : List (κ × Value)) (p : κ × Value → Bool) (h : (m.map (·.1)).Nodup) : ((m.filter p).map (·.1)).Nodup :=
  h.sublist (List.Sublist.map _ List.filter_sublist)

theorem findIdx_none {ek : κ → Value} {m : List (κ × Value)} {k : κ} : (m.map (·.1)).findIdx? (fun x => decide (x = k)) = none ↔ (aget m k).isSome = false := by
  simp [aget]

theorem run_update (K : KeyOK P kt ek) (hm : P.underlying mt = some (.map kt et)) {w : World} {b : Nat} {m : List (κ × Value)} (h : MapAt ek w b m) (k : κ) (v : Value) :
    ∃ w', (Instr.mapUpdate mt (.map (some b)) (ek k) v).run P w = .ok () w' ∧ MapAt ek w' b (aset m k v) ∧ Only (· = b) w w' ∧ w'.heap.size = w.heap.size := by
  obtain ⟨es, clock, hb, hes, hnd, hborn, hcl⟩ := h
  have hlt : b < w.heap.size := (Array.getElem?_eq_some_iff.1 hb).1
  have hf := K.find k es.toList (m.map (·.1)) w (keys_of hes)
  cases hi : (m.map (·.1)).findIdx? (fun x => decide (x = k)) with
  | none =>
    rw [hi] at hf
    simp only [Option.bind_none] at hf
    refine ⟨{ w with heap := w.heap.setIfInBounds b (.map (es.push { key := ek k, val := v, born := clock }) (clock + 1)) }, ?_, ⟨_, _, heap_set_same hlt, ?_, keys_aset m k v hnd, ?_, ?_⟩, only_set w b _, by simp⟩
    · unfold Instr.mapUpdate
      simp [run_underlying hm, Result.andThen, getObj, Sem.run, hb, K.check, hf, setObj]
    · have hn := findIdx_none (ek := ek).1 hi
      simp [aset, hn, hes]
    · rw [Array.toList_push, List.pairwise_append]
      exact ⟨hborn, by simp, fun x hx y hy => by simp at hy; subst hy; exact hcl x hx⟩
    · intro e he
      rw [Array.toList_push, List.mem_append] at he
      rcases he with he | he
      · have := hcl e he; omega
      · simp at he; subst he; exact Nat.lt_succ_self _
  | some i =>
    rw [hi] at hf
    have hlen : es.toList.length = m.length := by simpa using congrArg List.length hes
    obtain ⟨hil, _⟩ := List.findIdx?_eq_some_iff_getElem.1 hi
    have hil' : i < es.toList.length := by simpa [hlen] using hil
    have hkey : es.toList[i].key = ek k := by
      have h1 : (es.toList.map (·.key))[i]? = ((m.map (·.1)).map ek)[i]? := by rw [keys_of hes]
      obtain ⟨h2, h3, _⟩ := List.findIdx?_eq_some_iff_getElem.1 hi
      have h3' : (m.map (·.1))[i] = k := by simpa using h3
      rw [List.getElem?_map, List.getElem?_map, List.getElem?_eq_getElem hil', List.getElem?_eq_getElem h2, h3'] at h1
      simpa using h1
    simp only [Option.bind_some, List.getElem?_eq_getElem hil', Option.map_some] at hf
    refine ⟨{ w with heap := w.heap.setIfInBounds b (.map (es.modify i fun e => { e with key := ek k, val := v }) clock) }, ?_, ⟨_, _, heap_set_same hlt, ?_, keys_aset m k v hnd, ?_, ?_⟩, only_set w b _, by simp⟩
    · have he : es[i]? = some es.toList[i] := by rw [← Array.getElem?_toList, List.getElem?_eq_getElem hil']
      unfold Instr.mapUpdate
      simp only [Sem.run_bind, run_underlying hm, Result.andThen, getObj, Sem.run, hb, K.check, hf, Sem.run_pure, he, Option.map_some, Option.getD_some, hkey, K.stays, setObj]
    · have hs : (aget m k).isSome = true := by
        cases hx : (aget m k).isSome with
        | true => rfl
        | false => rw [findIdx_none (ek := ek).2 hx] at hi; cases hi
      rw [Array.toList_modify]
      simp only [aset, hs, if_true]
      exact map_modify_vals hes hnd hi
    · rw [Array.toList_modify]
      refine List.pairwise_iff_getElem.2 fun a c ha hc hac => ?_
      simp only [List.length_modify] at ha hc
      have := List.pairwise_iff_getElem.1 hborn a c ha hc hac
      simp only [List.getElem_modify]
      split <;> split <;> simpa using this
    · intro e he
      rw [Array.toList_modify] at he
      obtain ⟨j, hj, rfl⟩ := List.mem_iff_getElem.1 he
      simp only [List.length_modify] at hj
      have := hcl _ (List.getElem_mem hj)
      simp only [List.getElem_modify]
      split <;> simpa using this

theorem map_erase {ek : κ → Value} {k : κ} : ∀ {es : List MapEntry} {m : List (κ × Value)} {i : Nat}, es.map (fun e => (e.key, e.val)) = m.map (fun p => (ek p.1, p.2)) → (m.map (·.1)).Nodup →
    (m.map (·.1)).findIdx? (fun x => decide (x = k)) = some i → (es.eraseIdx i).map (fun e => (e.key, e.val)) = (adel m k).map (fun p => (ek p.1, p.2))
  | [], m, i, h, _, hi => by
    have : m = [] := by simpa using h.symm
    subst this; simp at hi
  | e :: es, [], i, h, _, _ => by simp at h
  | e :: es, p :: m, i, h, hn, hi => by
    simp only [List.map_cons, List.cons.injEq, Prod.mk.injEq] at h
    obtain ⟨⟨h1, h2⟩, h3⟩ := h
    simp only [List.map_cons, List.nodup_cons] at hn
    simp only [List.map_cons, List.findIdx?_cons] at hi
    by_cases hp : p.1 = k
    · simp only [hp, decide_true, if_true, Option.some.injEq] at hi
      subst hi
      have hrest : m.filter (fun p => !decide (p.1 = k)) = m := by
        rw [List.filter_eq_self]
        intro q hq
        have : q.1 ≠ k := fun e => hn.1 (by rw [hp, ← e]; exact List.mem_map_of_mem hq)
        simp [this]
      simp [adel, hp, hrest, h3]
    · simp only [hp, decide_false, Bool.false_eq_true, if_false, Option.map_eq_some_iff] at hi
      obtain ⟨j, hj, rfl⟩ := hi
      have ih := map_erase h3 hn.2 hj
      simp only [adel] at ih ⊢
      simp [hp, h1, h2, ih]

theorem run_delete (K : KeyOK P kt ek) (hm : P.underlying mt = some (.map kt et)) {w : World} {b : Nat} {m : List (κ × Value)} (h : MapAt ek w b m) (k : κ) (kt' ty : TypeId) :
    ∃ w', (Builtin.delete_ #[mt, kt'] ty #[.map (some b), ek k]).run P w = .ok (.tuple #[]) w' ∧ MapAt ek w' b (adel m k) ∧ Only (· = b) w w' ∧ w'.heap.size = w.heap.size := by
  obtain ⟨es, clock, hb, hes, hnd, hborn, hcl⟩ := h
  have hlt : b < w.heap.size := (Array.getElem?_eq_some_iff.1 hb).1
  have hf := K.find k es.toList (m.map (·.1)) w (keys_of hes)
  cases hi : (m.map (·.1)).findIdx? (fun x => decide (x = k)) with
  | none =>
    rw [hi] at hf
    simp only [Option.bind_none] at hf
    refine ⟨{ w with heap := w.heap.setIfInBounds b (.map es clock) }, ?_, ⟨_, _, heap_set_same hlt, ?_, nodup_filter_keys m _ hnd, hborn, hcl⟩, only_set w b _, by simp⟩
    · unfold Builtin.delete_
      simp [run_underlying hm, Result.andThen, getObj, Sem.run, hb, K.check, hf, setObj]
    · have hn := findIdx_none (ek := ek).1 hi
      have : adel m k = m := by
        unfold adel
        rw [List.filter_eq_self]
        intro q hq
        simp [aget] at hn
        simpa using hn q.1 q.2 hq
      rw [this]; exact hes
  | some i =>
    rw [hi] at hf
    have hlen : es.toList.length = m.length := by simpa using congrArg List.length hes
    obtain ⟨hil, _⟩ := List.findIdx?_eq_some_iff_getElem.1 hi
    have hil' : i < es.toList.length := by simpa [hlen] using hil
    simp only [Option.bind_some, List.getElem?_eq_getElem hil', Option.map_some] at hf
    have hil2 : i < es.size := by simpa using hil'
    refine ⟨{ w with heap := w.heap.setIfInBounds b (.map (es.eraseIdxIfInBounds i) clock) }, ?_, ⟨_, _, heap_set_same hlt, ?_, nodup_filter_keys m _ hnd, ?_, ?_⟩, only_set w b _, by simp⟩
    · unfold Builtin.delete_
      simp [run_underlying hm, Result.andThen, getObj, Sem.run, hb, K.check, hf, setObj]
    · simp only [Array.eraseIdxIfInBounds, hil2, dite_true, Array.toList_eraseIdx]
      exact map_erase hes hnd hi
    · simp only [Array.eraseIdxIfInBounds, hil2, dite_true, Array.toList_eraseIdx]
      exact hborn.sublist (List.eraseIdx_sublist _ _)
    · intro e he
      simp only [Array.eraseIdxIfInBounds, hil2, dite_true, Array.toList_eraseIdx] at he
      exact hcl e ((List.eraseIdx_sublist _ _).subset he)

/-! the laws at an operation of the walk -/
section ops
variable {ops : Array Oper} {rest : List Oper} {o : Oper} {a : Act} {w : World} {Q : Exit → Act → World → Prop} {Kc : Act → World → Prop}

theorem wp_update (K : KeyOK P kt ek) (hm : P.underlying mt = some (.map kt et)) (sm sk sv : Operand) (ho : o.op = .mapUpdate mt sm sk sv) (b : Nat) (m : List (κ × Value)) (k : κ) (v : Value)
    (h1 : a.eval sm = .map (some b)) (h2 : a.eval sk = ek k) (h3 : a.eval sv = v) (h : MapAt ek w b m)
    (hK : ∀ w', MapAt ek w' b (aset m k v) → Only (· = b) w w' → w'.heap.size = w.heap.size → Kc (a.put o.dst (.tuple #[])) w') : o.wp P a w Kc Q := by
  obtain ⟨w', hr, h4, h5, h6⟩ := run_update (v := v) K hm h k
  unfold Oper.wp execOp
  simp only [ho, h1, h2, h3, Sem.run_bind, hr, Result.andThen_ok, Sem.run_pure]
  exact hK w' h4 h5 h6
theorem wpList_update (hgd : o.guard = none) (K : KeyOK P kt ek) (hm : P.underlying mt = some (.map kt et)) (sm sk sv : Operand) (ho : o.op = .mapUpdate mt sm sk sv) (b : Nat) (m : List (κ × Value)) (k : κ) (v : Value)
    (h1 : a.eval sm = .map (some b)) (h2 : a.eval sk = ek k) (h3 : a.eval sv = v) (h : MapAt ek w b m)
    (hK : ∀ w', MapAt ek w' b (aset m k v) → Only (· = b) w w' → w'.heap.size = w.heap.size → wpList P ops Q rest (a.put o.dst (.tuple #[])) w') : wpList P ops Q (o :: rest) a w :=
  wpList_plain hgd fun _ hk => wp_update K hm sm sk sv ho b m k v h1 h2 h3 h fun w' h4 h5 h6 => hk _ _ (hK w' h4 h5 h6)

theorem wp_delete (K : KeyOK P kt ek) (hm : P.underlying mt = some (.map kt et)) (sm sk : Operand) (kt' : TypeId) (ho : o.op = .call { callee := .builtin .delete, args := #[sm, sk], argTypes := #[mt, kt'] }) (b : Nat) (m : List (κ × Value)) (k : κ)
    (h1 : a.eval sm = .map (some b)) (h2 : a.eval sk = ek k) (h : MapAt ek w b m)
    (hK : ∀ w', MapAt ek w' b (adel m k) → Only (· = b) w w' → w'.heap.size = w.heap.size → Kc (a.put o.dst (.tuple #[])) w') : o.wp P a w Kc Q := by
  obtain ⟨w', hr, h4, h5, h6⟩ := run_delete K hm h k kt' o.type
  unfold Oper.wp execOp
  simp only [ho, resolve, invoke, builtin, Sem.run_bind, Sem.run_pure, Result.andThen_ok, List.map_toArray, List.map_cons, List.map_nil, h1, h2, hr]
  exact hK w' h4 h5 h6
theorem wpList_delete (hgd : o.guard = none) (K : KeyOK P kt ek) (hm : P.underlying mt = some (.map kt et)) (sm sk : Operand) (kt' : TypeId) (ho : o.op = .call { callee := .builtin .delete, args := #[sm, sk], argTypes := #[mt, kt'] }) (b : Nat) (m : List (κ × Value)) (k : κ)
    (h1 : a.eval sm = .map (some b)) (h2 : a.eval sk = ek k) (h : MapAt ek w b m)
    (hK : ∀ w', MapAt ek w' b (adel m k) → Only (· = b) w w' → w'.heap.size = w.heap.size → wpList P ops Q rest (a.put o.dst (.tuple #[])) w') : wpList P ops Q (o :: rest) a w :=
  wpList_plain hgd fun _ hk => wp_delete K hm sm sk kt' ho b m k h1 h2 h fun w' h4 h5 h6 => hk _ _ (hK w' h4 h5 h6)
end ops
end runs
end maps

/-! ### slices -/
/-- the cells of block b from offset o on -/
def CellsAt (w : World) (b o : Nat) (xs : List Value) : Prop := ∀ j u, xs[j]? = some u → w.cell? ⟨b, o + j, none⟩ = some u
/-- n cells from offset o on are there and may be written -/
def FreeAt (w : World) (b o n : Nat) : Prop := ∀ j, j < n → (w.cell? ⟨b, o + j, none⟩).isSome = true ∧ w.frozen? ⟨b, o + j, none⟩ = false

/-- the slice value v has n elements of sz cells each, which are the cells xs -/
def RdS (w : World) (sz : Nat) (v : Value) (n : Nat) (xs : List Value) : Prop :=
  xs.length = n * sz ∧ ∃ ad cap, v = .slice ad n cap ∧ n ≤ cap ∧ cap ≤ maxLen ∧ (0 < n → ∃ b off, ad = some ⟨b, off, none⟩ ∧ b < w.heap.size ∧ CellsAt w b off xs)

/-- .. and all its places up to the capacity are the call's own: they may be written -/
def OwnS (w : World) (sz : Nat) (v : Value) (n : Nat) (xs : List Value) : Prop :=
  xs.length = n * sz ∧ ((v = .slice none 0 0 ∧ n = 0) ∨ ∃ b off cap, v = .slice (some ⟨b, off, none⟩) n cap ∧ n ≤ cap ∧ cap ≤ maxLen ∧ b < w.heap.size ∧ CellsAt w b off xs ∧ FreeAt w b off (cap * sz))

theorem CellsAt.only {S : Nat → Prop} {w w' : World} {b o : Nat} {xs : List Value} (h : CellsAt w b o xs) (ho : Only S w w') (hb : b < w.heap.size) (hn : ¬ S b) : CellsAt w' b o xs :=
  fun j u hj => (ho.cell (p := ⟨b, o + j, none⟩) hb hn).trans (h j u hj)
theorem FreeAt.only {S : Nat → Prop} {w w' : World} {b o n : Nat} (h : FreeAt w b o n) (ho : Only S w w') (hb : b < w.heap.size) (hn : ¬ S b) : FreeAt w' b o n :=
  fun j hj => by rw [ho.cell (p := ⟨b, o + j, none⟩) hb hn, ho.frozen (p := ⟨b, o + j, none⟩) hb hn]; exact h j hj
theorem OwnS.drew {w : World} {sz : Nat} {v : Value} {n : Nat} {xs : List Value} (h : OwnS w sz v n xs) : OwnS w.drew sz v n xs := h
theorem RdS.drew {w : World} {sz : Nat} {v : Value} {n : Nat} {xs : List Value} (h : RdS w sz v n xs) : RdS w.drew sz v n xs := h
theorem OwnS.drewN {w : World} {sz : Nat} {v : Value} {n : Nat} {xs : List Value} (h : OwnS w sz v n xs) (k : Nat) : OwnS (w.drewN k) sz v n xs := h
theorem RdS.drewN {w : World} {sz : Nat} {v : Value} {n : Nat} {xs : List Value} (h : RdS w sz v n xs) (k : Nat) : RdS (w.drewN k) sz v n xs := h
theorem OwnS.slAt {w : World} {sz : Nat} {v : Value} {n : Nat} {xs : List Value} (h : OwnS w sz v n xs) : RdS w sz v n xs := by
  refine ⟨h.1, ?_⟩
  rcases h.2 with ⟨rfl, rfl⟩ | ⟨b, off, cap, h1, h2, h3, h4, h5, _⟩
  · exact ⟨none, 0, rfl, Nat.le_refl _, Nat.zero_le _, fun h => by omega⟩
  · exact ⟨_, cap, h1, h2, h3, fun _ => ⟨b, off, rfl, h4, h5⟩⟩
theorem RdS.only {S : Nat → Prop} {w w' : World} {sz : Nat} {v : Value} {n : Nat} {xs : List Value} (h : RdS w sz v n xs) (ho : Only S w w') (hn : ∀ b, v.ownBlock = some b → ¬ S b) : RdS w' sz v n xs := by
  obtain ⟨h1, ad, cap, rfl, h2, h3, h4⟩ := h
  refine ⟨h1, ad, cap, rfl, h2, h3, fun h0 => ?_⟩
  obtain ⟨b, off, rfl, hb, hc⟩ := h4 h0
  exact ⟨b, off, rfl, Nat.lt_of_lt_of_le hb ho.size, hc.only ho hb (hn b rfl)⟩
theorem OwnS.only {S : Nat → Prop} {w w' : World} {sz : Nat} {v : Value} {n : Nat} {xs : List Value} (h : OwnS w sz v n xs) (ho : Only S w w') (hn : ∀ b, v.ownBlock = some b → ¬ S b) : OwnS w' sz v n xs := by
  refine ⟨h.1, ?_⟩
  rcases h.2 with h | ⟨b, off, cap, rfl, h2, h3, h4, h5, h6⟩
  · exact .inl h
  · exact .inr ⟨b, off, cap, rfl, h2, h3, Nat.lt_of_lt_of_le h4 ho.size, h5.only ho h4 (hn b rfl), h6.only ho h4 (hn b rfl)⟩
theorem OwnS.alloc {w : World} {sz : Nat} {v : Value} {n : Nat} {xs : List Value} (h : OwnS w sz v n xs) (o : Obj) : OwnS (w.alloc o) sz v n xs := h.only ((Only.refl (fun _ => False) w).alloc o) (fun _ _ h => h)
theorem RdS.alloc {w : World} {sz : Nat} {v : Value} {n : Nat} {xs : List Value} (h : RdS w sz v n xs) (o : Obj) : RdS (w.alloc o) sz v n xs := h.only ((Only.refl (fun _ => False) w).alloc o) (fun _ _ h => h)
theorem OwnS.lt {w : World} {sz : Nat} {v : Value} {n : Nat} {xs : List Value} (h : OwnS w sz v n xs) : ∀ b, v.ownBlock = some b → b < w.heap.size := by
  intro b hb
  rcases h.2 with ⟨rfl, _⟩ | ⟨b', off, cap, rfl, _, _, h4, _⟩
  · simp [Value.ownBlock] at hb
  · simp [Value.ownBlock] at hb; subst hb; exact h4
theorem OwnS.nil (w : World) (sz : Nat) : OwnS w sz (.slice none 0 0) 0 [] := ⟨by simp, .inl ⟨rfl, rfl⟩⟩
theorem RdS.nil (w : World) (sz : Nat) : RdS w sz (.slice none 0 0) 0 [] := ⟨by simp, none, 0, rfl, Nat.le_refl _, Nat.zero_le _, fun h => by omega⟩
theorem OwnS.form {w : World} {sz : Nat} {v : Value} {n : Nat} {xs : List Value} (h : OwnS w sz v n xs) (hn : 0 < n) :
    ∃ b off cap, v = .slice (some ⟨b, off, none⟩) n cap ∧ n ≤ cap ∧ cap ≤ maxLen ∧ b < w.heap.size ∧ CellsAt w b off xs ∧ FreeAt w b off (cap * sz) := by
  rcases h.2 with ⟨_, h0⟩ | h
  · omega
  · exact h
theorem RdS.form {w : World} {sz : Nat} {v : Value} {n : Nat} {xs : List Value} (h : RdS w sz v n xs) (hn : 0 < n) :
    ∃ b off cap, v = .slice (some ⟨b, off, none⟩) n cap ∧ n ≤ cap ∧ cap ≤ maxLen ∧ b < w.heap.size ∧ CellsAt w b off xs := by
  obtain ⟨h1, ad, cap, rfl, h2, h3, h4⟩ := h
  obtain ⟨b, off, rfl, hb, hc⟩ := h4 hn
  exact ⟨b, off, cap, rfl, h2, h3, hb, hc⟩
theorem RdS.val {w : World} {sz : Nat} {v : Value} {n : Nat} {xs : List Value} (h : RdS w sz v n xs) : ∃ ad cap, v = .slice ad n cap ∧ n ≤ cap ∧ cap ≤ maxLen := by
  obtain ⟨h1, ad, cap, rfl, h2, h3, h4⟩ := h
  exact ⟨ad, cap, rfl, h2, h3⟩

theorem OwnS.tail {w : World} {sz b off n cap : Nat} {xs : List Value} (h : OwnS w sz (.slice (some ⟨b, off, none⟩) (n + 1) cap) (n + 1) xs) :
    OwnS w sz (.slice (some ⟨b, if cap = 1 then off else off + sz, none⟩) n (cap - 1)) n (xs.drop sz) := by
  refine ⟨by rw [List.length_drop, h.1, Nat.succ_mul]; omega, ?_⟩
  rcases h.2 with ⟨h0, _⟩ | ⟨b', off', cap', h1, h2, h3, h4, h5, h6⟩
  · cases h0
  · cases h1
    refine .inr ⟨b, _, cap - 1, rfl, by omega, by omega, h4, ?_, ?_⟩
    · by_cases e : cap = 1
      · have hn : n = 0 := by omega
        subst hn
        have : xs.drop sz = [] := by rw [List.drop_eq_nil_iff, h.1]; omega
        rw [this]
        intro j u hj
        simp at hj
      · rw [if_neg e]
        intro j u hj
        rw [List.getElem?_drop] at hj
        have := h5 _ u hj
        rwa [← Nat.add_assoc] at this
    · by_cases e : cap = 1
      · subst e
        intro j hj
        simp at hj
      · rw [if_neg e]
        intro j hj
        have hle : sz + j < cap * sz := by
          have : (cap - 1) * sz + sz = cap * sz := by rw [← Nat.succ_mul]; congr 1; omega
          omega
        have := h6 (sz + j) hle
        rwa [← Nat.add_assoc] at this

theorem addr_add (b off j : Nat) : (⟨b, off, none⟩ : Addr).add j = ⟨b, off + j, none⟩ := by unfold Addr.add; split <;> simp_all

theorem size_setCells (b : Nat) : ∀ (vs : List Value) (o : Nat) (w : World), (w.setCells b o vs).heap.size = w.heap.size
  | [], _, _ => rfl
  | v :: r, o, w => by rw [World.setCells, size_setCells b r]; simp
theorem tape_setCells (b : Nat) : ∀ (vs : List Value) (o : Nat) (w : World), (w.setCells b o vs).tape = w.tape
  | [], _, _ => rfl
  | v :: r, o, w => by rw [World.setCells, tape_setCells b r]; rfl
theorem frozen_new (w : World) (c : Array Value) (t : TypeId) (n i : Nat) (h : n = w.heap.size) : (w.alloc (.cells c t)).frozen? ⟨n, i, none⟩ = false := by
  subst h; simp

/-- APPEND onto a slice of the call's own -/
theorem run_append {P : Program} (w : World) (t tx ty e : TypeId) (i : TypeInfo) (z : Value) (sz bytes : Nat) (ht : P.underlying t = some (.slice e)) (hi : P.info? e = some i) (hz : i.zero = some z)
    (hsize : i.size = sz) (hby : i.bytes = bytes) (hzs : z.cells.size = sz) (hz1 : ∀ u ∈ z.cells.toList, u.oneCell' = true)
    (v : Value) (n : Nat) (xs : List Value) (hown : OwnS w sz v n xs) (x : Value) (m : Nat) (news : List Value) (hs : Src P sz tx x m news w)
    (h63 : n + m ≤ maxLen) (hbytes : (n + m) * bytes ≤ 140737488355328) :
    ∃ v' w', (Builtin.append_ #[t, tx] ty #[v, x]).run P w = .ok v' w' ∧ OwnS w' sz v' (n + m) (xs ++ news) ∧ Only (fun b => v.ownBlock = some b) w w' ∧ (v'.ownBlock = v.ownBlock ∨ v'.ownBlock = some w.heap.size) := by
  subst hsize
  subst hby
  have hlen : (xs ++ news).length = (n + m) * i.size := by rw [List.length_append, hown.1, hs.newsLen, Nat.add_mul]
  have grown : ∀ (old : Nat), old < n + m → 
      OwnS (w.drew.alloc (.cells ((xs ++ news).toArray ++ Builtin.zeroCells z.cells (grownCap w (n + m) old e - (n + m))) e)) i.size
        (.slice (some ⟨w.heap.size, 0, none⟩) (n + m) (grownCap w (n + m) old e)) (n + m) (xs ++ news) := by
    intro old ho
    have hge := grownCap_ge w (n + m) old e
    have hcm : grownCap w (n + m) old e ≤ maxLen := grownCap_le_maxLen w (n + m) old e h63
    have htot : ((xs ++ news).toArray ++ Builtin.zeroCells z.cells (grownCap w (n + m) old e - (n + m))).size = grownCap w (n + m) old e * i.size := by
      rw [Array.size_append, List.size_toArray, size_zeroCells, hzs, hlen, ← Nat.add_mul]; congr 1; omega
    refine ⟨hlen, .inr ⟨w.heap.size, 0, _, rfl, hge, hcm, by simp, fun j u hj => ?_, fun j hj => ?_⟩⟩
    · have hjl : j < (xs ++ news).length := (List.getElem?_eq_some_iff.1 hj).1
      rw [Nat.zero_add, cell_of_row _ w.heap.size j _ e (0, 0) (heap_alloc_new w.drew _), Array.getElem?_append_left (by simpa using hjl)]
      simpa using hj
    · rw [Nat.zero_add, cell_of_row _ w.heap.size j _ e (0, 0) (heap_alloc_new w.drew _)]
      refine ⟨?_, ?_⟩
      · rw [Array.getElem?_eq_getElem (by rw [htot]; exact hj)]; rfl
      · exact frozen_new w.drew _ e _ j rfl
  have onlyNew : ∀ o : Obj, Only (fun b => v.ownBlock = some b) w (w.drew.alloc o) := fun o => ((Only.refl _ w).drew).alloc o
  rcases hown.2 with ⟨rfl, rfl⟩ | ⟨b, off, cap, rfl, hnc, hcm, hb, hc, hf⟩
  · have hx : xs = [] := List.eq_nil_of_length_eq_zero (by simpa using hown.1)
    subst hx
    by_cases hm : m = 0
    · subst hm
      have hn : news = [] := List.eq_nil_of_length_eq_zero (by simpa using hs.newsLen)
      subst hn
      refine ⟨.slice none 0 0, w, ?_, OwnS.nil w _, Only.refl _ _, .inl rfl⟩
      rcases hs.kind with ⟨e', hk⟩ | hk <;> simp [Builtin.append_, run_underlying ht, run_underlying hk, sizeOf, typeInfo, hi, hs.len, hs.cells]
    · have hr := run_append_grow_src (P := P) w t tx ty e i z ht hi hz none 0 0 [] (run_firstCells_none w.drew i.size 0 0 0) x m news hs (by omega) (by simp only [maxLen] at h63; omega) (growslice_fits (by omega) (by simpa using hbytes))
      have hgr := grown 0 (by omega)
      simp only [Nat.zero_add, List.nil_append] at hgr hr ⊢
      exact ⟨_, _, hr, hgr, onlyNew _, .inr rfl⟩
  · by_cases hroom : n + m ≤ cap
    · have hml : news.length = m * i.size := hs.newsLen
      have hle : n * i.size + news.length ≤ cap * i.size := by rw [hml, ← Nat.add_mul]; exact Nat.mul_le_mul_right _ hroom
      have hr := run_append_room_src (P := P) w t tx ty e i ht hi b off n cap x m news hs hroom
        (fun j hj => by have := (hf (n * i.size + j) (by omega)).1; rwa [← Nat.add_assoc] at this)
        (fun j hj => by have := (hf (n * i.size + j) (by omega)).2; rwa [← Nat.add_assoc] at this)
      refine ⟨_, _, hr, ⟨hlen, .inr ⟨b, off, cap, rfl, hroom, hcm, ?_, fun j u hj => ?_, fun j hj => ?_⟩⟩, ⟨World.os_setCells _ _ _ _, ?_, World.output_setCells _ _ _ _, ?_, fun k hk hn => ?_⟩, .inl rfl⟩
      · rw [size_setCells]; exact hb
      · by_cases hjx : j < xs.length
        · rw [World.cell?_setCells_out _ _ _ _ _ (by intro _ _; left; have := hown.1; simp; omega)]
          rw [List.getElem?_append_left hjx] at hj
          exact hc j u hj
        · have hjl : j < (xs ++ news).length := (List.getElem?_eq_some_iff.1 hj).1
          rw [List.getElem?_append_right (by omega)] at hj
          have hj2 : j - xs.length < news.length := (List.getElem?_eq_some_iff.1 hj).1
          have := World.cell?_setCells_in b news (off + n * i.size) w (fun j hj => by have := (hf (n * i.size + j) (by omega)).1; rwa [← Nat.add_assoc] at this) (j - xs.length) hj2
          rw [show off + j = off + n * i.size + (j - xs.length) by have := hown.1; omega, this]
          rw [List.getElem?_eq_getElem hj2] at hj
          exact hj
      · rw [World.frozen?_setCells]
        refine ⟨?_, (hf j hj).2⟩
        exact World.isSome_setCells b news _ w _ (hf j hj).1
      · exact tape_setCells _ _ _ _
      · rw [size_setCells]; exact Nat.le_refl _
      · exact World.heap_setCells_other w b _ news hk (fun e => hn (by rw [e]; rfl))
    · have hold : (Builtin.firstCells i.size n (.slice (some ⟨b, off, none⟩) n cap)).run P w.drew = .ok xs.toArray w.drew :=
        run_firstCells_some w.drew i.size n ⟨b, off, none⟩ n cap xs hown.1 (fun j u hj => by rw [addr_add]; exact hc j u hj)
      have hr := run_append_grow_src (P := P) w t tx ty e i z ht hi hz (some ⟨b, off, none⟩) n cap xs hold x m news hs (by omega) (by simp only [maxLen] at h63; omega) (growslice_fits (by omega) hbytes)
      exact ⟨_, _, hr, grown cap (by omega), onlyNew _, .inr rfl⟩

/-- the world under a name of its own, of which I is known -/
theorem wp_abs {P : Program} {c : Code} {Q : Exit → Act → World → Prop} {a : Act} {w : World} (I : World → Prop) (h : I w) (k : ∀ W, I W → c.wp P Q a W) : c.wp P Q a w := k w h
theorem wpl_abs {P : Program} {ops : Array Oper} {l : List Oper} {Q : Exit → Act → World → Prop} {a : Act} {w : World} (I : World → Prop) (h : I w) (k : ∀ W, I W → wpList P ops Q l a W) : wpList P ops Q l a w := k w h

/-- a slice that is read, as what is appended -/
theorem RdS.src {P : Program} {w : World} {sz : Nat} {v : Value} {n : Nat} {xs : List Value} (h : RdS w sz v n xs) {tx e' : TypeId} (hk : P.underlying tx = some (.slice e')) (h1 : ∀ u ∈ xs, u.oneCell' = true) : Src P sz tx v n xs w := by
  obtain ⟨hl, ad, cap, rfl, h2, h3, h4⟩ := h
  rcases Nat.eq_zero_or_pos n with rfl | hn
  · have : xs = [] := List.eq_nil_of_length_eq_zero (by simpa using hl)
    subst this
    cases ad with
    | none => exact Src.ofNil w hk cap
    | some a => exact Src.ofSlice w hk a 0 cap [] (by simp) (fun j u hj => by simp at hj) h1
  · obtain ⟨b, off, rfl, hb, hc⟩ := h4 hn
    exact Src.ofSlice w hk ⟨b, off, none⟩ n cap xs hl (fun j u hj => by rw [addr_add]; exact hc j u hj) h1
/-- an empty slice that was just made -/
theorem OwnS.empty (w : World) (sz : Nat) (b : Nat) (h : b < w.heap.size) : OwnS w sz (.slice (some ⟨b, 0, none⟩) 0 0) 0 [] :=
  ⟨by simp, .inr ⟨b, 0, 0, rfl, Nat.le_refl _, Nat.zero_le _, h, fun j u hj => by simp at hj, fun j hj => by simp at hj⟩⟩

section appendOps
variable {P : Program} {ops : Array Oper} {rest : List Oper} {o : Oper} {a : Act} {w : World} {Q : Exit → Act → World → Prop} {Kc : Act → World → Prop}
theorem wp_append (s x : Operand) (t tx : TypeId) (ho : o.op = .call { callee := .builtin .append, args := #[s, x], argTypes := #[t, tx] }) (e : TypeId) (i : TypeInfo) (z : Value) (sz bytes : Nat) (ht : P.underlying t = some (.slice e)) (hi : P.info? e = some i) (hz : i.zero = some z)
    (hsize : i.size = sz) (hby : i.bytes = bytes) (hzs : z.cells.size = sz) (hz1 : ∀ u ∈ z.cells.toList, u.oneCell' = true)
    (v : Value) (n : Nat) (xs : List Value) (hs : a.eval s = v) (hown : OwnS w sz v n xs) (xv : Value) (m : Nat) (news : List Value) (hx : a.eval x = xv) (hsrc : Src P sz tx xv m news w)
    (h63 : n + m ≤ maxLen) (hbytes : (n + m) * bytes ≤ 140737488355328)
    (hK : ∀ v' w', OwnS w' sz v' (n + m) (xs ++ news) → Only (fun b => v.ownBlock = some b) w w' → (v'.ownBlock = v.ownBlock ∨ v'.ownBlock = some w.heap.size) → Kc (a.put o.dst v') w') : o.wp P a w Kc Q := by
  obtain ⟨v', w', hr, h2, h3, h4⟩ := run_append w t tx o.type e i z sz bytes ht hi hz hsize hby hzs hz1 v n xs hown xv m news hsrc h63 hbytes
  unfold Oper.wp execOp
  simp only [ho, resolve, invoke, builtin, Sem.run_bind, Sem.run_pure, Result.andThen_ok, List.map_toArray, List.map_cons, List.map_nil, hs, hx, hr]
  exact hK v' w' h2 h3 h4
theorem wpList_append (hgd : o.guard = none) (s x : Operand) (t tx : TypeId) (ho : o.op = .call { callee := .builtin .append, args := #[s, x], argTypes := #[t, tx] }) (e : TypeId) (i : TypeInfo) (z : Value) (sz bytes : Nat) (ht : P.underlying t = some (.slice e)) (hi : P.info? e = some i) (hz : i.zero = some z)
    (hsize : i.size = sz) (hby : i.bytes = bytes) (hzs : z.cells.size = sz) (hz1 : ∀ u ∈ z.cells.toList, u.oneCell' = true)
    (v : Value) (n : Nat) (xs : List Value) (hs : a.eval s = v) (hown : OwnS w sz v n xs) (xv : Value) (m : Nat) (news : List Value) (hx : a.eval x = xv) (hsrc : Src P sz tx xv m news w)
    (h63 : n + m ≤ maxLen) (hbytes : (n + m) * bytes ≤ 140737488355328)
    (hK : ∀ v' w', OwnS w' sz v' (n + m) (xs ++ news) → Only (fun b => v.ownBlock = some b) w w' → (v'.ownBlock = v.ownBlock ∨ v'.ownBlock = some w.heap.size) → wpList P ops Q rest (a.put o.dst v') w') : wpList P ops Q (o :: rest) a w :=
  wpList_plain hgd fun _ hk => wp_append s x t tx ho e i z sz bytes ht hi hz hsize hby hzs hz1 v n xs hs hown xv m news hx hsrc h63 hbytes fun v' w' h2 h3 h4 => hk _ _ (hK v' w' h2 h3 h4)
theorem step_append {E : Prop} (hgd : o.guard = none) (s x : Operand) (t tx : TypeId) (ho : o.op = .call { callee := .builtin .append, args := #[s, x], argTypes := #[t, tx] }) (e : TypeId) (i : TypeInfo) (z : Value) (sz bytes : Nat) (ht : P.underlying t = some (.slice e)) (hi : P.info? e = some i) (hz : i.zero = some z)
    (hsize : i.size = sz) (hby : i.bytes = bytes) (hzs : z.cells.size = sz) (hz1 : ∀ u ∈ z.cells.toList, u.oneCell' = true)
    (v : Value) (n : Nat) (xs : List Value) (hs : a.eval s = v) (hown : OwnS w sz v n xs) (xv : Value) (m : Nat) (news : List Value) (hx : a.eval x = xv) (hsrc : Src P sz tx xv m news w)
    (h63 : n + m ≤ maxLen) (hbytes : (n + m) * bytes ≤ 140737488355328)
    (hK : ∀ v' w', OwnS w' sz v' (n + m) (xs ++ news) → Only (fun b => v.ownBlock = some b) w w' → (v'.ownBlock = v.ownBlock ∨ v'.ownBlock = some w.heap.size) → Kc (a.put o.dst v') w') :
    if Region.wanted o (yielded ops a.tmps) = true then Oper.wp P o a w Kc Q else E := by
  have hw : Region.wanted o (yielded ops a.tmps) = true := by simp [Region.wanted, hgd]
  rw [if_pos hw]
  exact wp_append s x t tx ho e i z sz bytes ht hi hz hsize hby hzs hz1 v n xs hs hown xv m news hx hsrc h63 hbytes hK
end appendOps
end Go.Proofs.YtdacjomfipkpaaaDoor.Hp
