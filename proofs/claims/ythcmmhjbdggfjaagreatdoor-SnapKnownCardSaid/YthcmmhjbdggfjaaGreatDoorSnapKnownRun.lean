/- SnapKnown by the evaluator: where its run begins, under what the row lists, and its one run. -/
import Derived.Test.YthcmmhjbdggfjaaGreatDoorAm9
import Derived.Test.YthcmmhjbdggfjaaGreatDoorFreeWalk
import Derived.Test.YthcmmhjbdggfjaaGreatDoorNamesWalk
import Derived.Test.YthcmmhjbdggfjaaGreatDoorTrimWalk
import Derived.Test.YthcmmhjbdggfjaaGreatDoorProg
import Derived.Test.YthcmmhjbdggfjaaGreatDoorRows
import Derived.ProofKit
import Derived.KernelRfl
namespace Go.Proofs.YthcmmhjbdggfjaaGreatDoor.SnapKnownRun
open Go Go.RowKit Am
set_option linter.unusedVariables false
set_option maxRecDepth 100000

def ext (g : Nat) : Option Ext := bif Nat.beq g 284 then some .same else bif Nat.beq g 285 then some (.noZero 26) else bif Nat.beq g 363 then some .idxByte else bif Nat.beq g 280 then some .count else none
theorem extOK : ExtOK Tryz.prog ext := by
  intro fid k h as' w
  unfold ext at h
  cases h1 : Nat.beq fid 284 with
  | true =>
    rw [h1] at h
    cases h
    obtain rfl := Nat.eq_of_beq_eq_true h1
    exact ext_of (e := Extern.AbiNoEscape.same) Tryz.func284 (by kernel_rfl) (by kernel_rfl) (by kernel_rfl) (by kernel_rfl) rfl as' w
  | false =>
    rw [h1] at h
    clear h1
    cases h1 : Nat.beq fid 285 with
    | true =>
      rw [h1] at h
      cases h
      obtain rfl := Nat.eq_of_beq_eq_true h1
      exact ext_of (e := Extern.BytealgMakeNoZero.makeNoZero #[] #[26]) Tryz.func285 (by kernel_rfl) (by kernel_rfl) (by kernel_rfl) (by kernel_rfl) rfl as' w
    | false =>
      rw [h1] at h
      clear h1
      cases h1 : Nat.beq fid 363 with
      | true =>
        rw [h1] at h
        cases h
        obtain rfl := Nat.eq_of_beq_eq_true h1
        exact ext_of (e := Extern.BytealgIndexByte.indexByte) Tryz.func363 (by kernel_rfl) (by kernel_rfl) (by kernel_rfl) (by kernel_rfl) rfl as' w
      | false =>
        rw [h1] at h
        clear h1
        cases h1 : Nat.beq fid 280 with
        | true =>
          rw [h1] at h
          cases h
          obtain rfl := Nat.eq_of_beq_eq_true h1
          exact ext_of (e := Extern.BytealgCount.count) Tryz.func280 (by kernel_rfl) (by kernel_rfl) (by kernel_rfl) (by kernel_rfl) rfl as' w
        | false =>
          rw [h1] at h
          clear h1
          cases h
noncomputable def prim (g : Nat) : Option Prim := bif Nat.beq g 180 then some Am.freeP else bif Nat.beq g 99 then some (Am.namesP 9) else bif Nat.beq g 128 then some Am.trimP else none
theorem primOK : PrimOK Tryz.prog prim := by
  intro fid p h args H v H' hp
  unfold prim at h
  cases h1 : Nat.beq fid 180 with
  | true =>
    rw [h1] at h
    cases h
    obtain rfl := Nat.eq_of_beq_eq_true h1
    exact FreeWalk.freeOne args H v H' hp
  | false =>
    rw [h1] at h
    clear h1
    cases h1 : Nat.beq fid 99 with
    | true =>
      rw [h1] at h
      cases h
      obtain rfl := Nat.eq_of_beq_eq_true h1
      exact NamesWalk.namesOne args H v H' hp
    | false =>
      rw [h1] at h
      clear h1
      cases h1 : Nat.beq fid 128 with
      | true =>
        rw [h1] at h
        cases h
        obtain rfl := Nat.eq_of_beq_eq_true h1
        exact TrimWalk.trimOne args H v H' hp
      | false =>
        rw [h1] at h
        clear h1
        cases h
theorem namesOK : NamesOK Tryz.prog := by unfold NamesOK; kernel_rfl
theorem mixed : Tryz.prog.follows .mixedOrders = true := by kernel_rfl

def pow10 : List Int := [1, 10, 100, 1000, 10000, 100000, 1000000, 10000000, 100000000, 1000000000, 10000000000, 100000000000, 1000000000000, 10000000000000, 100000000000000, 1000000000000000, 10000000000000000, 100000000000000000, 1000000000000000000, 10000000000000000000]
def tab32 : List Int := [0, 1, 28, 2, 29, 14, 24, 3, 30, 22, 20, 15, 25, 17, 4, 8, 31, 27, 13, 23, 21, 19, 16, 7, 26, 12, 18, 6, 11, 5, 10, 9]
def tab64 : List Int := [0, 1, 56, 2, 57, 49, 28, 3, 61, 58, 42, 50, 38, 29, 17, 4, 62, 47, 59, 36, 45, 43, 51, 22, 53, 39, 33, 30, 24, 18, 12, 5, 63, 55, 48, 27, 60, 41, 37, 16, 46, 35, 44, 21, 52, 32, 23, 11, 54, 26, 40, 15, 34, 20, 31, 10, 25, 14, 19, 9, 13, 8, 7, 6]
def begin0 : List (Nat × List AV) := [(3, pow10.map (AV.int .u64)), (4, [.iface 490 (.ptr 9 0)]), (5, [.iface 490 (.ptr 8 0)]), (6, tab32.map (AV.int .u8)), (7, tab64.map (AV.int .u8))]

abbrev laid : List (String × DataW Unit) := [("math/bits.deBruijn32tab", Rows.laid_math_bits_deBruijn32tab), ("math/bits.deBruijn64tab", Rows.laid_math_bits_deBruijn64tab), ("internal/strconv.uint64pow10", Rows.laid_internal_strconv_uint64pow10), ("unicode/utf8.acceptRanges", Rows.laid_unicode_utf8_acceptRanges), ("strconv.ErrRange", Rows.laid_strconv_ErrRange), ("strconv.ErrSyntax", Rows.laid_strconv_ErrSyntax), ("unicode/utf8.first", Rows.laid_unicode_utf8_first)]

theorem star : "*" ++ "errors.errorString" = "*errors.errorString" := by decide
theorem rowErr (u : TypeId) (h : Tryz.prog.typeName? 3 u = some "*errors.errorString") : u = 490 :=
  typeName_ptr_named (nm := "errors.errorString") (by rw [star]; kernel_rfl) (by kernel_rfl) (by decide) u (by rw [star]; exact h)

theorem begins {W : World} (h : laidMet Tryz.prog laid W) : ∃ e, RH Tryz.prog.globals.size (fun k => k < W.heap.size) W e ⟨layO (elAt W) begin0, 10⟩ W := by
  have hs : Tryz.prog.globals.size = 8 := by kernel_rfl
  rw [hs]
  obtain ⟨b0, o0, t0, w0⟩ := laid_err (n := "strconv.ErrRange") (nm := "*errors.errorString") (tp := 490) (te := 492) (ts := 9) h (.tail _ (.tail _ (.tail _ (.tail _ (.head _))))) (g := 5) (ti := 247) (by kernel_rfl) (by kernel_rfl) Tryz.underlying247 rowErr Tryz.underlying490 Tryz.underlying492 rfl rfl Tryz.underlying9 (by kernel_rfl) (by kernel_rfl)
  obtain ⟨b1, o1, t1, w1⟩ := laid_err (n := "strconv.ErrSyntax") (nm := "*errors.errorString") (tp := 490) (te := 492) (ts := 9) h (.tail _ (.tail _ (.tail _ (.tail _ (.tail _ (.head _)))))) (g := 4) (ti := 247) (by kernel_rfl) (by kernel_rfl) Tryz.underlying247 rowErr Tryz.underlying490 Tryz.underlying492 rfl rfl Tryz.underlying9 (by kernel_rfl) (by kernel_rfl)
  let bx : Nat → Nat := fun i => if i = 8 then b0 else b1
  let dx : Nat → Int := fun i => if i = 8 then (o0 : Int) else (o1 : Int)
  have T3 := fun em : Em => laid_table (name := "internal/strconv.uint64pow10") (k := .u64) (zs := pow10) h (.tail _ (.tail _ (.head _))) (g := 3) (by kernel_rfl) (by kernel_rfl) Tryz.underlying457 Tryz.underlying139 (by kernel_rfl) (by kernel_rfl) (by decide) em
  have T6 := fun em : Em => laid_table (name := "math/bits.deBruijn32tab") (k := .u8) (zs := tab32) h (.head _) (g := 6) (by kernel_rfl) (by kernel_rfl) Tryz.underlying493 Tryz.underlying5 (by kernel_rfl) (by kernel_rfl) (by decide) em
  have T7 := fun em : Em => laid_table (name := "math/bits.deBruijn64tab") (k := .u8) (zs := tab64) h (.tail _ (.head _)) (g := 7) (by kernel_rfl) (by kernel_rfl) Tryz.underlying494 Tryz.underlying5 (by kernel_rfl) (by kernel_rfl) (by decide) em
  have hsz : 8 ≤ W.heap.size := by
    obtain ⟨cs, t, hw, _⟩ := T7 ⟨id, fun _ => 0, id, 0⟩
    have := (Array.getElem?_eq_some_iff.1 hw).1
    omega
  refine ⟨_, RH.start bx dx (by decide) (by decide) hsz ?_⟩
  intro g l hm
  simp only [begin0, List.mem_cons, Prod.mk.injEq, List.mem_nil_iff, or_false] at hm
  rcases hm with ⟨rfl, rfl⟩ | ⟨rfl, rfl⟩ | ⟨rfl, rfl⟩ | ⟨rfl, rfl⟩ | ⟨rfl, rfl⟩
  · exact ⟨by decide, by decide, T3 _⟩
  · refine ⟨by decide, by decide, _, t1, w1, fun k v hv => ?_⟩
    cases k with
    | zero =>
      simp only [List.getElem?_cons_zero, Option.some.injEq] at hv
      subst hv
      exact ⟨_, rfl, .iface _ _ _ (.ptr (e := Am.start W 8 10 bx dx) 9 0 o1 (show (9 : Nat) < 10 by decide) (by simp [Am.start, dx]))⟩
    | succ k => simp at hv
  · refine ⟨by decide, by decide, _, t0, w0, fun k v hv => ?_⟩
    cases k with
    | zero =>
      simp only [List.getElem?_cons_zero, Option.some.injEq] at hv
      subst hv
      exact ⟨_, rfl, .iface _ _ _ (.ptr (e := Am.start W 8 10 bx dx) 8 0 o0 (show (8 : Nat) < 10 by decide) (by simp [Am.start, dx]))⟩
    | succ k => simp at hv
  · exact ⟨by decide, by decide, T6 _⟩
  · exact ⟨by decide, by decide, T7 _⟩

theorem runF (el : Nat → TypeId) : F.endTrue (F.runF Tryz.prog ext prim 10000 5 [] ⟨layO el begin0, 10⟩) = true := by kernel_rfl
theorem run (el : Nat → TypeId) : retTrue (callA Tryz.prog ext prim 10000 5 [] ⟨layO el begin0, 10⟩) = true := F.run_true (runF el)

theorem known {W : World} (h : laidMet Tryz.prog laid W) : Calls Tryz.prog 5 #[] W fun en w' => en = .returned (.bool true) ∧ Below W.heap.size W w' := by
  obtain ⟨e, hR⟩ := begins h
  exact closed_true mixed namesOK extOK primOK Tryz.func5 rfl (run _) hR
end Go.Proofs.YthcmmhjbdggfjaaGreatDoor.SnapKnownRun
