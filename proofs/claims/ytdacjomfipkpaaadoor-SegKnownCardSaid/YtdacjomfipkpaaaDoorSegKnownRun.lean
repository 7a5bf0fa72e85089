/- SegKnown by the evaluator: where its run begins, under what the row lists, and its one run. -/
import Derived.Test.YtdacjomfipkpaaaDoorAm6
import Derived.Test.YtdacjomfipkpaaaDoorRows
import Derived.ProofKit
import Derived.KernelRfl
namespace Go.Proofs.YtdacjomfipkpaaaDoor.SegRun
open Go Go.RowKit Am
set_option linter.unusedVariables false
set_option maxRecDepth 100000

def ext (g : Nat) : Option Ext := bif Nat.beq g 88 then some .same else bif Nat.beq g 89 then some (.noZero 28) else none
theorem extOK : ExtOK Tryd.prog ext := by
  intro fid k h as' w
  unfold ext at h
  cases h1 : Nat.beq fid 88 with
  | true =>
    rw [h1] at h
    cases h
    obtain rfl := Nat.eq_of_beq_eq_true h1
    exact ext_of (e := Extern.AbiNoEscape.same) Tryd.func88 (by kernel_rfl) (by kernel_rfl) (by kernel_rfl) (by kernel_rfl) rfl as' w
  | false =>
    rw [h1] at h
    cases h2 : Nat.beq fid 89 with
    | true =>
      rw [h2] at h
      cases h
      obtain rfl := Nat.eq_of_beq_eq_true h2
      exact ext_of (e := Extern.BytealgMakeNoZero.makeNoZero #[] #[28]) Tryd.func89 (by kernel_rfl) (by kernel_rfl) (by kernel_rfl) (by kernel_rfl) rfl as' w
    | false => rw [h2] at h; cases h
theorem namesOK : NamesOK Tryd.prog := by unfold NamesOK; kernel_rfl
theorem mixed : Tryd.prog.follows .mixedOrders = true := by kernel_rfl

def pow10 : List Int := [1, 10, 100, 1000, 10000, 100000, 1000000, 10000000, 100000000, 1000000000, 10000000000, 100000000000, 1000000000000, 10000000000000, 100000000000000, 1000000000000000, 10000000000000000, 100000000000000000, 1000000000000000000, 10000000000000000000]
def tab32 : List Int := [0, 1, 28, 2, 29, 14, 24, 3, 30, 22, 20, 15, 25, 17, 4, 8, 31, 27, 13, 23, 21, 19, 16, 7, 26, 12, 18, 6, 11, 5, 10, 9]
def tab64 : List Int := [0, 1, 56, 2, 57, 49, 28, 3, 61, 58, 42, 50, 38, 29, 17, 4, 62, 47, 59, 36, 45, 43, 51, 22, 53, 39, 33, 30, 24, 18, 12, 5, 63, 55, 48, 27, 60, 41, 37, 16, 46, 35, 44, 21, 52, 32, 23, 11, 54, 26, 40, 15, 34, 20, 31, 10, 25, 14, 19, 9, 13, 8, 7, 6]
def begin0 : List (Nat × List AV) := [(0, pow10.map (AV.int .u64)), (1, [.iface 153 (.ptr 6 0)]), (2, [.iface 153 (.ptr 7 0)]), (4, tab32.map (AV.int .u8)), (5, tab64.map (AV.int .u8))]

abbrev laid : List (String × DataW Unit) := [("math/bits.deBruijn32tab", Rows.laid_math_bits_deBruijn32tab), ("math/bits.deBruijn64tab", Rows.laid_math_bits_deBruijn64tab), ("internal/strconv.uint64pow10", Rows.laid_internal_strconv_uint64pow10), ("strconv.ErrRange", Rows.laid_strconv_ErrRange), ("strconv.ErrSyntax", Rows.laid_strconv_ErrSyntax)]

theorem star : "*" ++ "errors.errorString" = "*errors.errorString" := by decide
theorem rowErr (u : TypeId) (h : Tryd.prog.typeName? 3 u = some "*errors.errorString") : u = 153 :=
  typeName_ptr_named (nm := "errors.errorString") (by rw [star]; kernel_rfl) (by kernel_rfl) (by decide) u (by rw [star]; exact h)

theorem begins {W : World} (h : laidMet Tryd.prog laid W) : ∃ e, RH Tryd.prog.globals.size (fun k => k < W.heap.size) W e ⟨layO (elAt W) begin0, 8⟩ W := by
  have hs : Tryd.prog.globals.size = 6 := by kernel_rfl
  rw [hs]
  obtain ⟨b1, o1, t1, w1⟩ := laid_err (n := "strconv.ErrSyntax") (nm := "*errors.errorString") (tp := 153) (te := 155) (ts := 9) h (.tail _ (.tail _ (.tail _ (.tail _ (.head _))))) (g := 1) (ti := 61) (by kernel_rfl) (by kernel_rfl) Tryd.underlying61 rowErr Tryd.underlying153 Tryd.underlying155 rfl rfl Tryd.underlying9 (by kernel_rfl) (by kernel_rfl)
  obtain ⟨b2, o2, t2, w2⟩ := laid_err (n := "strconv.ErrRange") (nm := "*errors.errorString") (tp := 153) (te := 155) (ts := 9) h (.tail _ (.tail _ (.tail _ (.head _)))) (g := 2) (ti := 61) (by kernel_rfl) (by kernel_rfl) Tryd.underlying61 rowErr Tryd.underlying153 Tryd.underlying155 rfl rfl Tryd.underlying9 (by kernel_rfl) (by kernel_rfl)
  let bx : Nat → Nat := fun i => if i = 6 then b1 else b2
  let dx : Nat → Int := fun i => if i = 6 then (o1 : Int) else (o2 : Int)
  have tabs := fun em : Em => laid_table (name := "math/bits.deBruijn32tab") (k := .u8) (zs := tab32) h (.head _) (g := 4) (by kernel_rfl) (by kernel_rfl) Tryd.underlying159 Tryd.underlying5 (by kernel_rfl) (by kernel_rfl) (by decide) em
  have tabs2 := fun em : Em => laid_table (name := "math/bits.deBruijn64tab") (k := .u8) (zs := tab64) h (.tail _ (.head _)) (g := 5) (by kernel_rfl) (by kernel_rfl) Tryd.underlying160 Tryd.underlying5 (by kernel_rfl) (by kernel_rfl) (by decide) em
  have tabs3 := fun em : Em => laid_table (name := "internal/strconv.uint64pow10") (k := .u64) (zs := pow10) h (.tail _ (.tail _ (.head _))) (g := 0) (by kernel_rfl) (by kernel_rfl) Tryd.underlying132 Tryd.underlying38 (by kernel_rfl) (by kernel_rfl) (by decide) em
  refine ⟨_, RH.start bx dx (by decide) (by decide) ?_ ?_⟩
  · obtain ⟨cs, t, hw, _⟩ := tabs2 ⟨id, fun _ => 0, id, 0⟩
    have := (Array.getElem?_eq_some_iff.1 hw).1
    omega
  · intro g l hm
    simp only [begin0, List.mem_cons, Prod.mk.injEq, List.mem_nil_iff, or_false] at hm
    rcases hm with ⟨rfl, rfl⟩ | ⟨rfl, rfl⟩ | ⟨rfl, rfl⟩ | ⟨rfl, rfl⟩ | ⟨rfl, rfl⟩
    · exact ⟨by decide, by decide, tabs3 _⟩
    · refine ⟨by decide, by decide, _, t1, w1, fun k v hv => ?_⟩
      cases k with
      | zero =>
        simp only [List.getElem?_cons_zero, Option.some.injEq] at hv
        subst hv
        exact ⟨_, rfl, .iface _ _ _ (.ptr (e := Am.start W 6 8 bx dx) 6 0 o1 (show (6 : Nat) < 8 by decide) (by simp [Am.start, dx]))⟩
      | succ k => simp at hv
    · refine ⟨by decide, by decide, _, t2, w2, fun k v hv => ?_⟩
      cases k with
      | zero =>
        simp only [List.getElem?_cons_zero, Option.some.injEq] at hv
        subst hv
        exact ⟨_, rfl, .iface _ _ _ (.ptr (e := Am.start W 6 8 bx dx) 7 0 o2 (show (7 : Nat) < 8 by decide) (by simp [Am.start, dx]))⟩
      | succ k => simp at hv
    · exact ⟨by decide, by decide, tabs _⟩
    · exact ⟨by decide, by decide, tabs2 _⟩

theorem run (el : Nat → TypeId) : retTrue (callA Tryd.prog ext (fun _ => none) 10000 8 [] ⟨layO el begin0, 8⟩) = true := by kernel_rfl

theorem known {W : World} (h : laidMet Tryd.prog laid W) : Calls Tryd.prog 8 #[] W fun en w' => en = .returned (.bool true) ∧ Below W.heap.size W w' := by
  obtain ⟨e, hR⟩ := begins h
  exact closed_true mixed namesOK extOK (noPrim _) Tryd.func8 rfl (run _) hR
end Go.Proofs.YtdacjomfipkpaaaDoor.SegRun
