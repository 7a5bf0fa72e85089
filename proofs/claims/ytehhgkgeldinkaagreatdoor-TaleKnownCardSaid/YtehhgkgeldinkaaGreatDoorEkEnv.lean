/- What the laws of a package stand on: the functions without a body, the contracts, the start under what the rows list, and awake, run once. -/
import Derived.Test.YtehhgkgeldinkaaGreatDoorAm9
import Derived.Test.YtehhgkgeldinkaaGreatDoorFreeWalk
import Derived.Test.YtehhgkgeldinkaaGreatDoorNamesWalk
import Derived.Test.YtehhgkgeldinkaaGreatDoorTrimWalk
import Derived.Test.YtehhgkgeldinkaaGreatDoorProg
import Derived.Test.YtehhgkgeldinkaaGreatDoorRows
import Derived.ProofKit
import Derived.ChangeMade
import Derived.KernelRfl
namespace Go.Proofs.YtehhgkgeldinkaaGreatDoor.EkEnv
open Go Go.RowKit Am
set_option linter.unusedVariables false
set_option maxRecDepth 100000

def ext (g : Nat) : Option Ext := bif Nat.beq g 45 then some .same else bif Nat.beq g 169 then some (.noZero 48) else bif Nat.beq g 159 then some .idxByte else bif Nat.beq g 58 then some .count else none
theorem extOK : ExtOK Tryz.prog ext := by
  intro fid k h as' w
  unfold ext at h
  cases h1 : Nat.beq fid 45 with
  | true =>
    rw [h1] at h
    cases h
    obtain rfl := Nat.eq_of_beq_eq_true h1
    exact ext_of (e := Extern.AbiNoEscape.same) Tryz.func45 (by kernel_rfl) (by kernel_rfl) (by kernel_rfl) (by kernel_rfl) rfl as' w
  | false =>
    rw [h1] at h
    clear h1
    cases h1 : Nat.beq fid 169 with
    | true =>
      rw [h1] at h
      cases h
      obtain rfl := Nat.eq_of_beq_eq_true h1
      exact ext_of (e := Extern.BytealgMakeNoZero.makeNoZero #[] #[48]) Tryz.func169 (by kernel_rfl) (by kernel_rfl) (by kernel_rfl) (by kernel_rfl) rfl as' w
    | false =>
      rw [h1] at h
      clear h1
      cases h1 : Nat.beq fid 159 with
      | true =>
        rw [h1] at h
        cases h
        obtain rfl := Nat.eq_of_beq_eq_true h1
        exact ext_of (e := Extern.BytealgIndexByte.indexByte) Tryz.func159 (by kernel_rfl) (by kernel_rfl) (by kernel_rfl) (by kernel_rfl) rfl as' w
      | false =>
        rw [h1] at h
        clear h1
        cases h1 : Nat.beq fid 58 with
        | true =>
          rw [h1] at h
          cases h
          obtain rfl := Nat.eq_of_beq_eq_true h1
          exact ext_of (e := Extern.BytealgCount.count) Tryz.func58 (by kernel_rfl) (by kernel_rfl) (by kernel_rfl) (by kernel_rfl) rfl as' w
        | false =>
          rw [h1] at h
          clear h1
          cases h
noncomputable def prim0 (g : Nat) : Option Prim := bif Nat.beq g 260 then some Am.freeP else bif Nat.beq g 66 then some (Am.namesP 9) else bif Nat.beq g 60 then some Am.trimP else none
theorem prim0OK : PrimOK Tryz.prog prim0 := by
  intro fid p h args H v H' hp
  unfold prim0 at h
  cases h1 : Nat.beq fid 260 with
  | true =>
    rw [h1] at h
    cases h
    obtain rfl := Nat.eq_of_beq_eq_true h1
    exact FreeWalk.freeOne args H v H' hp
  | false =>
    rw [h1] at h
    clear h1
    cases h1 : Nat.beq fid 66 with
    | true =>
      rw [h1] at h
      cases h
      obtain rfl := Nat.eq_of_beq_eq_true h1
      exact NamesWalk.namesOne args H v H' hp
    | false =>
      rw [h1] at h
      clear h1
      cases h1 : Nat.beq fid 60 with
      | true =>
        rw [h1] at h
        cases h
        obtain rfl := Nat.eq_of_beq_eq_true h1
        exact TrimWalk.trimOne args H v H' hp
      | false =>
        rw [h1] at h
        clear h1
        cases h
theorem namesOK : NamesOK Tryz.prog := by unfold NamesOK; kernel_rfl
theorem mixed : Tryz.prog.follows .mixedOrders = true := by kernel_rfl

def pow10 : List Int := [1, 10, 100, 1000, 10000, 100000, 1000000, 10000000, 100000000, 1000000000, 10000000000, 100000000000, 1000000000000, 10000000000000, 100000000000000, 1000000000000000, 10000000000000000, 100000000000000000, 1000000000000000000, 10000000000000000000]
def tab32 : List Int := [0, 1, 28, 2, 29, 14, 24, 3, 30, 22, 20, 15, 25, 17, 4, 8, 31, 27, 13, 23, 21, 19, 16, 7, 26, 12, 18, 6, 11, 5, 10, 9]
def tab64 : List Int := [0, 1, 56, 2, 57, 49, 28, 3, 61, 58, 42, 50, 38, 29, 17, 4, 62, 47, 59, 36, 45, 43, 51, 22, 53, 39, 33, 30, 24, 18, 12, 5, 63, 55, 48, 27, 60, 41, 37, 16, 46, 35, 44, 21, 52, 32, 23, 11, 54, 26, 40, 15, 34, 20, 31, 10, 25, 14, 19, 9, 13, 8, 7, 6]
def begin0 : List (Nat × List AV) := [(3, pow10.map (AV.int .u64)), (4, [.iface 352 (.ptr 10 0)]), (5, [.iface 352 (.ptr 9 0)]), (6, tab32.map (AV.int .u8)), (7, tab64.map (AV.int .u8))]

abbrev laid : List (String × DataW Unit) := [("math/bits.deBruijn32tab", Rows.laid_math_bits_deBruijn32tab), ("math/bits.deBruijn64tab", Rows.laid_math_bits_deBruijn64tab), ("internal/strconv.uint64pow10", Rows.laid_internal_strconv_uint64pow10), ("unicode/utf8.acceptRanges", Rows.laid_unicode_utf8_acceptRanges), ("strconv.ErrRange", Rows.laid_strconv_ErrRange), ("strconv.ErrSyntax", Rows.laid_strconv_ErrSyntax), ("unicode/utf8.first", Rows.laid_unicode_utf8_first)]

theorem star : "*" ++ "errors.errorString" = "*errors.errorString" := by decide
theorem rowErr (u : TypeId) (h : Tryz.prog.typeName? 3 u = some "*errors.errorString") : u = 352 :=
  typeName_ptr_named (nm := "errors.errorString") (by rw [star]; kernel_rfl) (by kernel_rfl) (by decide) u (by rw [star]; exact h)

theorem begins {W : World} (h : laidMet Tryz.prog laid W) (hsz : 8 ≤ W.heap.size) (bx : Nat → Nat) (dx : Nat → Int) (nx : Nat → Nat) {N : Nat} (hN : 11 ≤ N) {PO : List (Nat × AO)}
    (hP : ∀ i o, (i, o) ∈ PO → 11 ≤ i ∧ i < N ∧ wr o = false ∧ ∃ ob, W.heap[bx i]? = some ob ∧ ∀ e : Em, e.N = N → (∀ j, 11 ≤ j → e.b j = bx j ∧ e.d j = dx j ∧ e.n j = nx j) → OR e i o ob) :
    ∃ e, RH Tryz.prog.globals.size (fun k => k < W.heap.size) W e ⟨layP PO (layO (elAt W) begin0), N⟩ W ∧ e.N = N ∧ ∀ j, 11 ≤ j → e.b j = bx j ∧ e.d j = dx j ∧ e.n j = nx j := by
  have hs : Tryz.prog.globals.size = 8 := by kernel_rfl
  rw [hs]
  obtain ⟨b0, o0, t0, w0⟩ := laid_err (n := "strconv.ErrRange") (nm := "*errors.errorString") (tp := 352) (te := 354) (ts := 9) h (.tail _ (.tail _ (.tail _ (.tail _ (.head _))))) (g := 5) (ti := 52) (by kernel_rfl) (by kernel_rfl) Tryz.underlying52 rowErr Tryz.underlying352 Tryz.underlying354 rfl rfl Tryz.underlying9 (by kernel_rfl) (by kernel_rfl)
  obtain ⟨b1, o1, t1, w1⟩ := laid_err (n := "strconv.ErrSyntax") (nm := "*errors.errorString") (tp := 352) (te := 354) (ts := 9) h (.tail _ (.tail _ (.tail _ (.tail _ (.tail _ (.head _)))))) (g := 4) (ti := 52) (by kernel_rfl) (by kernel_rfl) Tryz.underlying52 rowErr Tryz.underlying352 Tryz.underlying354 rfl rfl Tryz.underlying9 (by kernel_rfl) (by kernel_rfl)
  let bz : Nat → Nat := fun i => if i = 9 then b0 else if i = 10 then b1 else bx i
  let dz : Nat → Int := fun i => if i = 9 then (o0 : Int) else if i = 10 then (o1 : Int) else dx i
  have T3 := fun em : Em => laid_table (name := "internal/strconv.uint64pow10") (k := .u64) (zs := pow10) h (.tail _ (.tail _ (.head _))) (g := 3) (by kernel_rfl) (by kernel_rfl) Tryz.underlying270 Tryz.underlying125 (by kernel_rfl) (by kernel_rfl) (by decide) em
  have T6 := fun em : Em => laid_table (name := "math/bits.deBruijn32tab") (k := .u8) (zs := tab32) h (.head _) (g := 6) (by kernel_rfl) (by kernel_rfl) Tryz.underlying372 Tryz.underlying5 (by kernel_rfl) (by kernel_rfl) (by decide) em
  have T7 := fun em : Em => laid_table (name := "math/bits.deBruijn64tab") (k := .u8) (zs := tab64) h (.tail _ (.head _)) (g := 7) (by kernel_rfl) (by kernel_rfl) Tryz.underlying373 Tryz.underlying5 (by kernel_rfl) (by kernel_rfl) (by decide) em
  have hj : ∀ j, 11 ≤ j → (Am.start W 8 N bz dz nx).b j = bx j ∧ (Am.start W 8 N bz dz nx).d j = dx j ∧ (Am.start W 8 N bz dz nx).n j = nx j := by
    intro j hj
    refine ⟨?_, ?_, ?_⟩ <;> simp only [Am.start, bz, dz] <;> (repeat rw [if_neg (by omega)])
  refine ⟨Am.start W 8 N bz dz nx, RH.start bz dz nx (by omega) (by decide) hsz ?_ ?_, rfl, hj⟩
  · intro g l hm
    simp only [begin0, List.mem_cons, Prod.mk.injEq, List.mem_nil_iff, or_false] at hm
    rcases hm with ⟨rfl, rfl⟩ | ⟨rfl, rfl⟩ | ⟨rfl, rfl⟩ | ⟨rfl, rfl⟩ | ⟨rfl, rfl⟩
    · exact ⟨by decide, by decide, T3 _⟩
    · refine ⟨by decide, by decide, _, t1, w1, fun k v hv => ?_⟩
      cases k with
      | zero =>
        simp only [List.getElem?_cons_zero, Option.some.injEq] at hv
        subst hv
        exact ⟨_, rfl, .iface _ _ _ (.ptr (e := Am.start W 8 N bz dz nx) 10 0 o1 (show (10 : Nat) < N by omega) (by simp [Am.start, dz]))⟩
      | succ k => simp at hv
    · refine ⟨by decide, by decide, _, t0, w0, fun k v hv => ?_⟩
      cases k with
      | zero =>
        simp only [List.getElem?_cons_zero, Option.some.injEq] at hv
        subst hv
        exact ⟨_, rfl, .iface _ _ _ (.ptr (e := Am.start W 8 N bz dz nx) 9 0 o0 (show (9 : Nat) < N by omega) (by simp [Am.start, dz]))⟩
      | succ k => simp at hv
    · exact ⟨by decide, by decide, T6 _⟩
    · exact ⟨by decide, by decide, T7 _⟩
  · intro i o hm
    obtain ⟨h1, h2, h3, ob, h4, h5⟩ := hP i o hm
    exact ⟨by omega, h2, h3, ob, by have := (hj i h1).1; simp only [Am.start, if_neg (show ¬ i < 8 by omega)] at this; rw [this]; exact h4, h5 _ rfl hj⟩

theorem gsize : Tryz.prog.globals.size < 11 := by
  have hs : Tryz.prog.globals.size = 8 := by kernel_rfl
  omega
noncomputable def prim1 (g : Nat) : Option Prim := prim0 g
theorem prim1OK : PrimOK Tryz.prog prim1 := by
  intro fid p h args H v H' hp
  unfold prim1 at h
  exact prim0OK fid p h args H v H' hp
noncomputable def prim (g : Nat) : Option Prim := prim1 g
theorem primOK : PrimOK Tryz.prog prim := by
  intro fid p h args H v H' hp
  unfold prim at h
  exact prim1OK fid p h args H v H' hp

end Go.Proofs.YtehhgkgeldinkaaGreatDoor.EkEnv
