/- (*store.Store).Free, in whatever order the map is walked: the room less the lengths of all files. Conditions: what the store's cells hold, as stated. -/
import Derived.Test.YtehhgkgeldinkaaGreatDoorAm9
import Derived.Test.YtehhgkgeldinkaaGreatDoorProg
import Derived.Tactics
import Derived.Tactics2
import Derived.StillTactics
import Derived.Scope
import Derived.FnLit
import Derived.LoopTactic
import Derived.LoopN
import Derived.WalkKit
import Derived.Laws.IdiomRangeMap
import Derived.Laws.NewBlocks
namespace Go.Proofs.YtehhgkgeldinkaaGreatDoor.FreeWalk
open Go Go.RowKit
set_option linter.unusedVariables false
set_option linter.unusedSimpArgs false

theorem cell_alloc {w w1 : World} (hal : w1.Alike w) (o : Obj) {x : Addr} {v : Value} (h : w.cell? x = some v) : (w1.alloc o).cell? x = some v := by
  have hlt : x.block < w.heap.size := by
    unfold World.cell? at h
    split at h
    · rename_i hx
      exact (Array.getElem?_eq_some_iff.1 hx).1
    · cases h
  have hh : (w1.alloc o).heap[x.block]? = w.heap[x.block]? := by
    rw [heap_alloc_old w1 o (by rw [hal.1]; exact hlt), hal.1]
  unfold World.cell? at h ⊢
  rw [hh]
  exact h

/-- operations that look at blocks, lay blocks anew and draw, and do no more -/
inductive Tame {α : Type} : Sem α → Prop
  | pure (a : α) : Tame (.pure a)
  | getObj (r : Nat) (k : Obj → Sem α) (h : ∀ o, Tame (k o)) : Tame (.getObj r k)
  | setObj (r : Nat) (o : Obj) (k : Sem α) (h : Tame k) : Tame (.setObj r o k)
  | choose (q : Question) (k : Nat → Sem α) (h : ∀ n, Tame (k n)) : Tame (.choose q k)
  | halt (x : Halt) : Tame (.halt x)
theorem Tame.bind {α β : Type} {m : Sem α} {f : α → Sem β} (h : Tame m) (hf : ∀ a, Tame (f a)) : Tame (m.bind f) := by
  induction h with
  | pure a => exact hf a
  | getObj r k _ ih => exact .getObj r _ ih
  | setObj r o k _ ih => exact .setObj r o _ ih
  | choose q k _ ih => exact .choose q _ ih
  | halt x => exact .halt x
theorem Tame.tape {α : Type} {P : Program} {m : Sem α} (h : Tame m) : ∀ {w w' : World} {v : α}, m.run P w = .ok v w' → w'.tape = w.tape := by
  induction h with
  | pure a => intro w w' v h; cases h; rfl
  | getObj r k _ ih =>
    intro w w' v h
    simp only [Sem.run] at h
    split at h
    · cases h
    · have q := ih _ h
      exact q
    · cases h
  | setObj r o k _ ih =>
    intro w w' v h
    simp only [Sem.run] at h
    split at h
    · cases h
    · have q := ih h
      exact q
    · cases h
  | choose q k _ ih =>
    intro w w' v h
    simp only [Sem.run] at h
    split at h
    · have q := ih _ h
      exact q
    · have q := ih _ h
      exact q
  | halt x => intro w w' v h; cases h
theorem tame_get (r : Nat) : Tame (Go.getObj r) := .getObj r _ fun o => .pure o
theorem tame_set (r : Nat) (o : Obj) : Tame (Go.setObj r o) := .setObj r o _ (.pure ())
theorem tame_choose (q : Question) : Tame (Go.choose q) := .choose q _ fun n => .pure n
theorem tame_next (it : Value) (ty : TypeId) : Tame (Instr.next it false ty) := by
  unfold Instr.next
  split
  · refine Tame.bind (tame_get _) fun o => ?_
    split
    · exact absurd (by assumption) (by decide)
    · exact .pure _
    · refine Tame.bind (tame_get _) fun o => ?_
      split
      · split
        · exact .halt _
        · refine Tame.bind (tame_choose _) fun n => ?_
          split
          · exact Tame.bind (tame_set _ _) fun _ => .pure _
          · exact .pure _
          · exact .halt _
      · exact .halt _
    · exact .halt _
  · exact .halt _

def Like (w1 w : World) : Prop := w1.Alike w ∧ w1.tape = w.tape
theorem below_like {w w1 : World} (h : Like w1 w) : Below w.heap.size w w1 := ⟨h.1.2.1, h.2, h.1.2.2, by rw [h.1.1]; exact Nat.le_refl _, fun k _ => by rw [h.1.1]⟩

def lenE (f : MapEntry → Int) (x : MapEntry) : MapEntry := { x with val := .int .i64 (f x) }
theorem born_lenE (f : MapEntry → Int) (l : List MapEntry) : (l.map (lenE f)).map (·.born) = l.map (·.born) := by rw [List.map_map]; rfl

theorem sum_all (f : MapEntry → Int) (es : Array MapEntry) (seen : Array Nat) (h : (leftOf es seen).size = 0) : seenSum (es.toList.map (lenE f)) seen = (es.toList.map f).sum := by
  rw [seenSum_full seen (es.toList.map (lenE f)) (fun x hx => by
    obtain ⟨y, hy, rfl⟩ := List.mem_map.1 hx
    exact all_seen es seen h y hy), List.map_map]
  rfl
theorem wrap_sub (a b n : Int) : Value.int IntKind.i64 (wrap64 (wrap64 (a - b) - n)) = Value.int IntKind.i64 (wrap64 (a - (b + n))) := by
  congr 1
  unfold wrap64
  omega

set_option maxRecDepth 1000000 in
theorem walk (bs o : Nat) (room : Int) (bm : Nat) (es : Array MapEntry) (clock : Nat) (f : MapEntry → Int) (w : World) (hr0 : 0 ≤ room) (hr1 : room ≤ 9223372036854775807) (h0 : w.cell? ⟨bs, o, none⟩ = some (.int .i64 room)) (h1 : w.cell? ⟨bs, o + 1, none⟩ = some (.map (some bm)))
    (hb : w.heap[bm]? = some (.map es clock)) (hlt : ∀ x ∈ es.toList, x.born < clock) (hnd : (es.toList.map (·.born)).Nodup) (hv : ∀ x ∈ es.toList, ∃ b k s n c, x.val = .pointer (some ⟨b, k, none⟩) ∧ w.cell? ⟨b, k, none⟩ = some (.slice s n c) ∧ f x = (n : Int)) :
    Calls Tryz.prog 260 #[.pointer (some ⟨bs, o, none⟩)] w fun e w' => e = .returned (.int .i64 (wrap64 (room - (es.toList.map f).sum))) ∧ ∃ (w1 : World) (seen : Array Nat), Like w1 w ∧ w' = w1.alloc (.mapIter (some bm) clock seen clock) := by
  have hrg := run_range_map (P := Tryz.prog) w 104 9 195 bm es clock Tryz.underlying104 hb
  go_enter Tryz.func260, Tryz.ntmps260
  go_wp2
  go_loopw [3] (fun s w' => ∃ (w1 : World) (seen : Array Nat), Like w1 w ∧ w' = w1.alloc (.mapIter (some bm) clock seen clock) ∧ s = .int .i64 (wrap64 (room - seenSum (es.toList.map (lenE f)) seen))) (fun _ w' => (leftOf es (w'.iterSeen w.heap.size)).size)
  case atStart => exact ⟨w, #[], ⟨⟨rfl, rfl, rfl⟩, rfl⟩, rfl, by rw [seenSum_none, Int.sub_zero, IntWalk.wrap64_in room ⟨by omega, hr1⟩]⟩
  case round =>
    obtain ⟨w1, seen, hlike, rfl, rfl⟩ := hrel
    have hal := hlike.1
    have hsz : w1.heap.size = w.heap.size := by rw [hal.1]
    have hb1 : w1.heap[bm]? = some (.map es clock) := by rw [hal.1]; exact hb
    have law := run_next_map (P := Tryz.prog) w1 0 bm clock clock seen es clock hb1 hlt (Nat.le_refl _)
    rw [hsz] at law
    rcases law with ⟨h0, hrun⟩ | ⟨e, he, w2, hal2, hrun⟩
    · have hnx : ∀ ty, (Instr.next (.pointer (some ⟨w.heap.size, 0, none⟩)) false ty).run Tryz.prog (w1.alloc (.mapIter (some bm) clock seen clock)) = _ := fun _ => hrun
      go_wp2
      go_ret
      refine ⟨?_, w1, seen, hlike, rfl⟩
      rw [← sum_all f es seen h0]
      rfl
    · obtain ⟨b, k, s, n, c, hval, hcell, hf⟩ := hv e (mem_left he).1
      have htape : w2.tape = w1.tape := by
        have q := (tame_next _ _).tape hrun
        exact q
      rw [hval] at hrun
      have hnx : ∀ ty, (Instr.next (.pointer (some ⟨w.heap.size, 0, none⟩)) false ty).run Tryz.prog (w1.alloc (.mapIter (some bm) clock seen clock)) = _ := fun _ => hrun
      have hsz2 : w2.heap.size = w.heap.size := by rw [hal2.1, hal.1]
      have hb2 : w2.heap[bm]? = some (.map es clock) := by rw [hal2.1]; exact hb1
      have hen := run_entry_map (P := Tryz.prog) w2 bm clock seen es clock e hb2 (mem_left he).1 hnd
      rw [hsz2, hval] at hen
      have hal3 : w2.Alike w := ⟨hal2.1.trans hal.1, hal2.2.1.trans hal.2.1, hal2.2.2.trans hal.2.2⟩
      have hcell2 := cell_alloc hal3 (.mapIter (some bm) clock (seen.push e.born) clock) hcell
      go_wp2
      go_roundw
      case rel =>
        refine ⟨w2, seen.push e.born, ⟨hal3, htape.trans hlike.2⟩, rfl, ?_⟩
        have h6 := seenSum_push seen (lenE f e) (mem_left he).2 (es.toList.map (lenE f)) (by rw [born_lenE]; exact hnd) (List.mem_map.2 ⟨e, (mem_left he).1, rfl⟩)
        have h5 : valOf (lenE f e).val = (n : Int) := hf
        have h7 : (lenE f e).born = e.born := rfl
        rw [h7] at h6
        rw [h6, h5, wrap_sub]
      case measure =>
        rw [← hsz2, World.iterSeen_alloc, hsz2, ← hsz, World.iterSeen_alloc]
        exact left_shrinks es seen e he
theorem freeOne : Am.PrimOne Tryz.prog 260 Am.freeP := by
  refine Am.free_ok (fun as' w => Am.run_enter (by unfold Am.NamesOK; kernel_rfl) Tryz.func260 rfl as' w) ?_
  intro bs o room bm es clock g w hr0 hr1 h0 h1 hb hlt hnd hv
  refine (walk bs o room bm es clock g w hr0 hr1 h0 h1 hb hlt hnd hv).mono ?_
  rintro e w' ⟨he, w1, seen, hal, rfl⟩
  refine ⟨he, ?_⟩
  exact (below_like hal).alloc (by rw [hal.1.1]; exact Nat.le_refl _) _
end Go.Proofs.YtehhgkgeldinkaaGreatDoor.FreeWalk
