/- StoreKnown by the evaluator: where its run begins, under what the row lists, and its one run. -/
import Derived.Test.YtnabkcdchklnpaaDoorAm9
import Derived.Test.YtnabkcdchklnpaaDoorFreeWalk
import Derived.Test.YtnabkcdchklnpaaDoorNamesWalk
import Derived.Test.YtnabkcdchklnpaaDoorTrimWalk
import Derived.Test.YtnabkcdchklnpaaDoorProg
import Derived.Test.YtnabkcdchklnpaaDoorRows
import Derived.ProofKit
import Derived.KernelRfl
namespace Go.Proofs.YtnabkcdchklnpaaDoor.StoreKnownRun
open Go Go.RowKit Am
set_option linter.unusedVariables false
set_option maxRecDepth 100000

def ext (g : Nat) : Option Ext := bif Nat.beq g 92 then some .idxByte else none
theorem extOK : ExtOK Tryd.prog ext := by
  intro fid k h as' w
  unfold ext at h
  cases h1 : Nat.beq fid 92 with
  | true =>
    rw [h1] at h
    cases h
    obtain rfl := Nat.eq_of_beq_eq_true h1
    exact ext_of (e := Extern.BytealgIndexByte.indexByte) Tryd.func92 (by kernel_rfl) (by kernel_rfl) (by kernel_rfl) (by kernel_rfl) rfl as' w
  | false =>
    rw [h1] at h
    clear h1
    cases h
noncomputable def prim (g : Nat) : Option Prim := bif Nat.beq g 17 then some Am.freeP else bif Nat.beq g 22 then some (Am.namesP 9) else bif Nat.beq g 48 then some Am.trimP else none
theorem primOK : PrimOK Tryd.prog prim := by
  intro fid p h args H v H' hp
  unfold prim at h
  cases h1 : Nat.beq fid 17 with
  | true =>
    rw [h1] at h
    cases h
    obtain rfl := Nat.eq_of_beq_eq_true h1
    exact FreeWalk.freeOne args H v H' hp
  | false =>
    rw [h1] at h
    clear h1
    cases h1 : Nat.beq fid 22 with
    | true =>
      rw [h1] at h
      cases h
      obtain rfl := Nat.eq_of_beq_eq_true h1
      exact NamesWalk.namesOne args H v H' hp
    | false =>
      rw [h1] at h
      clear h1
      cases h1 : Nat.beq fid 48 with
      | true =>
        rw [h1] at h
        cases h
        obtain rfl := Nat.eq_of_beq_eq_true h1
        exact TrimWalk.trimOne args H v H' hp
      | false =>
        rw [h1] at h
        clear h1
        cases h
theorem namesOK : NamesOK Tryd.prog := by unfold NamesOK; kernel_rfl
theorem mixed : Tryd.prog.follows .mixedOrders = true := by kernel_rfl

def begin0 : List (Nat × List AV) := []

abbrev laid : List (String × DataW Unit) := [("unicode/utf8.acceptRanges", Rows.laid_unicode_utf8_acceptRanges), ("unicode/utf8.first", Rows.laid_unicode_utf8_first)]

theorem begins {W : World} (h : laidMet Tryd.prog laid W) (hsz : 3 ≤ W.heap.size) : ∃ e, RH Tryd.prog.globals.size (fun k => k < W.heap.size) W e ⟨layO (elAt W) begin0, 3⟩ W := by
  have hs : Tryd.prog.globals.size = 3 := by kernel_rfl
  rw [hs]
  let bx : Nat → Nat := fun i => 0
  let dx : Nat → Int := fun i => 0
  refine ⟨_, RH.start bx dx (by decide) (by decide) hsz ?_⟩
  intro g l hm
  cases hm

theorem runF (el : Nat → TypeId) : F.endTrue (F.runF Tryd.prog ext prim 10000 7 [] ⟨layO el begin0, 3⟩) = true := by kernel_rfl
theorem run (el : Nat → TypeId) : retTrue (callA Tryd.prog ext prim 10000 7 [] ⟨layO el begin0, 3⟩) = true := F.run_true (runF el)

theorem known {W : World} (h : laidMet Tryd.prog laid W) (hsz : 3 ≤ W.heap.size) : Calls Tryd.prog 7 #[] W fun en w' => en = .returned (.bool true) ∧ Below W.heap.size W w' := by
  obtain ⟨e, hR⟩ := begins h hsz
  exact closed_true mixed namesOK extOK primOK Tryd.func7 rfl (run _) hR
end Go.Proofs.YtnabkcdchklnpaaDoor.StoreKnownRun
