/- What the laws of a package stand on: the functions without a body, the contracts, the start under what the rows list, and awake, run once. -/
import Derived.Test.YtlomlkoimmpemaaGreatDoorAm14
import Derived.Test.YtlomlkoimmpemaaGreatDoorFreeWalk
import Derived.Test.YtlomlkoimmpemaaGreatDoorNamesWalk
import Derived.Test.YtlomlkoimmpemaaGreatDoorTrimWalk
import Derived.Test.YtlomlkoimmpemaaGreatDoorProg
import Derived.Test.YtlomlkoimmpemaaGreatDoorRows
import Derived.ProofKit
import Derived.KernelRfl
namespace Go.Proofs.YtlomlkoimmpemaaGreatDoor.EkEnv
open Go Go.RowKit Am
set_option linter.unusedVariables false
set_option maxRecDepth 100000

def ext (g : Nat) : Option Ext := bif Nat.beq g 321 then some .same else bif Nat.beq g 322 then some (.noZero 80) else bif Nat.beq g 400 then some .idxByte else bif Nat.beq g 376 then some .count else none
theorem extOK : ExtOK Tryz.prog ext := by
  intro fid k h as' w
  unfold ext at h
  cases h1 : Nat.beq fid 321 with
  | true =>
    rw [h1] at h
    cases h
    obtain rfl := Nat.eq_of_beq_eq_true h1
    exact ext_of (e := Extern.AbiNoEscape.same) Tryz.func321 (by kernel_rfl) (by kernel_rfl) (by kernel_rfl) (by kernel_rfl) rfl as' w
  | false =>
    rw [h1] at h
    clear h1
    cases h1 : Nat.beq fid 322 with
    | true =>
      rw [h1] at h
      cases h
      obtain rfl := Nat.eq_of_beq_eq_true h1
      exact ext_of (e := Extern.BytealgMakeNoZero.makeNoZero #[] #[80]) Tryz.func322 (by kernel_rfl) (by kernel_rfl) (by kernel_rfl) (by kernel_rfl) rfl as' w
    | false =>
      rw [h1] at h
      clear h1
      cases h1 : Nat.beq fid 400 with
      | true =>
        rw [h1] at h
        cases h
        obtain rfl := Nat.eq_of_beq_eq_true h1
        exact ext_of (e := Extern.BytealgIndexByte.indexByte) Tryz.func400 (by kernel_rfl) (by kernel_rfl) (by kernel_rfl) (by kernel_rfl) rfl as' w
      | false =>
        rw [h1] at h
        clear h1
        cases h1 : Nat.beq fid 376 with
        | true =>
          rw [h1] at h
          cases h
          obtain rfl := Nat.eq_of_beq_eq_true h1
          exact ext_of (e := Extern.BytealgCount.count) Tryz.func376 (by kernel_rfl) (by kernel_rfl) (by kernel_rfl) (by kernel_rfl) rfl as' w
        | false =>
          rw [h1] at h
          clear h1
          cases h
noncomputable def prim0 (g : Nat) : Option Prim := bif Nat.beq g 107 then some Am.freeP else bif Nat.beq g 40 then some (Am.namesP 9) else bif Nat.beq g 171 then some Am.trimP else none
theorem prim0OK : PrimOK Tryz.prog prim0 := by
  intro fid p h args H v H' hp
  unfold prim0 at h
  cases h1 : Nat.beq fid 107 with
  | true =>
    rw [h1] at h
    cases h
    obtain rfl := Nat.eq_of_beq_eq_true h1
    exact FreeWalk.freeOne args H v H' hp
  | false =>
    rw [h1] at h
    clear h1
    cases h1 : Nat.beq fid 40 with
    | true =>
      rw [h1] at h
      cases h
      obtain rfl := Nat.eq_of_beq_eq_true h1
      exact NamesWalk.namesOne args H v H' hp
    | false =>
      rw [h1] at h
      clear h1
      cases h1 : Nat.beq fid 171 with
      | true =>
        rw [h1] at h
        cases h
        obtain rfl := Nat.eq_of_beq_eq_true h1
        exact TrimWalk.trimOne args H v H' hp
      | false =>
        rw [h1] at h
        clear h1
        cases h
theorem namesOK : NamesOK Tryz.prog := by unfold NamesOK; kernel_rfl
theorem mixed : Tryz.prog.follows .mixedOrders = true := by kernel_rfl

def pow10 : List Int := [1, 10, 100, 1000, 10000, 100000, 1000000, 10000000, 100000000, 1000000000, 10000000000, 100000000000, 1000000000000, 10000000000000, 100000000000000, 1000000000000000, 10000000000000000, 100000000000000000, 1000000000000000000, 10000000000000000000]
def tab32 : List Int := [0, 1, 28, 2, 29, 14, 24, 3, 30, 22, 20, 15, 25, 17, 4, 8, 31, 27, 13, 23, 21, 19, 16, 7, 26, 12, 18, 6, 11, 5, 10, 9]
def tab64 : List Int := [0, 1, 56, 2, 57, 49, 28, 3, 61, 58, 42, 50, 38, 29, 17, 4, 62, 47, 59, 36, 45, 43, 51, 22, 53, 39, 33, 30, 24, 18, 12, 5, 63, 55, 48, 27, 60, 41, 37, 16, 46, 35, 44, 21, 52, 32, 23, 11, 54, 26, 40, 15, 34, 20, 31, 10, 25, 14, 19, 9, 13, 8, 7, 6]
def begin0 : List (Nat × List AV) := [(0, pow10.map (AV.int .u64)), (2, [.iface 477 (.ptr 10 0)]), (3, [.iface 477 (.ptr 9 0)]), (6, tab32.map (AV.int .u8)), (7, tab64.map (AV.int .u8))]

abbrev laid : List (String × DataW Unit) := [("math/bits.deBruijn32tab", Rows.laid_math_bits_deBruijn32tab), ("math/bits.deBruijn64tab", Rows.laid_math_bits_deBruijn64tab), ("internal/strconv.uint64pow10", Rows.laid_internal_strconv_uint64pow10), ("unicode/utf8.acceptRanges", Rows.laid_unicode_utf8_acceptRanges), ("strconv.ErrRange", Rows.laid_strconv_ErrRange), ("strconv.ErrSyntax", Rows.laid_strconv_ErrSyntax), ("unicode/utf8.first", Rows.laid_unicode_utf8_first)]

theorem star : "*" ++ "errors.errorString" = "*errors.errorString" := by decide
theorem rowErr (u : TypeId) (h : Tryz.prog.typeName? 3 u = some "*errors.errorString") : u = 477 :=
  typeName_ptr_named (nm := "errors.errorString") (by rw [star]; kernel_rfl) (by kernel_rfl) (by decide) u (by rw [star]; exact h)

theorem begins {W : World} (h : laidMet Tryz.prog laid W) (hsz : 8 ≤ W.heap.size) (bx : Nat → Nat) (dx : Nat → Int) (nx : Nat → Nat) {N : Nat} (hN : 11 ≤ N) {PO : List (Nat × AO)}
    (hP : ∀ i o, (i, o) ∈ PO → 11 ≤ i ∧ i < N ∧ wr o = false ∧ ∃ ob, W.heap[bx i]? = some ob ∧ ∀ e : Em, e.N = N → (∀ j, 11 ≤ j → e.b j = bx j ∧ e.d j = dx j ∧ e.n j = nx j) → OR e i o ob) :
    ∃ e, RH Tryz.prog.globals.size (fun k => k < W.heap.size) W e ⟨layP PO (layO (elAt W) begin0), N⟩ W ∧ e.N = N ∧ ∀ j, 11 ≤ j → e.b j = bx j ∧ e.d j = dx j ∧ e.n j = nx j := by
  have hs : Tryz.prog.globals.size = 8 := by kernel_rfl
  rw [hs]
  obtain ⟨b0, o0, t0, w0⟩ := laid_err (n := "strconv.ErrRange") (nm := "*errors.errorString") (tp := 477) (te := 479) (ts := 9) h (.tail _ (.tail _ (.tail _ (.tail _ (.head _))))) (g := 3) (ti := 280) (by kernel_rfl) (by kernel_rfl) Tryz.underlying280 rowErr Tryz.underlying477 Tryz.underlying479 rfl rfl Tryz.underlying9 (by kernel_rfl) (by kernel_rfl)
  obtain ⟨b1, o1, t1, w1⟩ := laid_err (n := "strconv.ErrSyntax") (nm := "*errors.errorString") (tp := 477) (te := 479) (ts := 9) h (.tail _ (.tail _ (.tail _ (.tail _ (.tail _ (.head _)))))) (g := 2) (ti := 280) (by kernel_rfl) (by kernel_rfl) Tryz.underlying280 rowErr Tryz.underlying477 Tryz.underlying479 rfl rfl Tryz.underlying9 (by kernel_rfl) (by kernel_rfl)
  let bz : Nat → Nat := fun i => if i = 9 then b0 else if i = 10 then b1 else bx i
  let dz : Nat → Int := fun i => if i = 9 then (o0 : Int) else if i = 10 then (o1 : Int) else dx i
  have T0 := fun em : Em => laid_table (name := "internal/strconv.uint64pow10") (k := .u64) (zs := pow10) h (.tail _ (.tail _ (.head _))) (g := 0) (by kernel_rfl) (by kernel_rfl) Tryz.underlying455 Tryz.underlying89 (by kernel_rfl) (by kernel_rfl) (by decide) em
  have T6 := fun em : Em => laid_table (name := "math/bits.deBruijn32tab") (k := .u8) (zs := tab32) h (.head _) (g := 6) (by kernel_rfl) (by kernel_rfl) Tryz.underlying483 Tryz.underlying5 (by kernel_rfl) (by kernel_rfl) (by decide) em
  have T7 := fun em : Em => laid_table (name := "math/bits.deBruijn64tab") (k := .u8) (zs := tab64) h (.tail _ (.head _)) (g := 7) (by kernel_rfl) (by kernel_rfl) Tryz.underlying484 Tryz.underlying5 (by kernel_rfl) (by kernel_rfl) (by decide) em
  have hj : ∀ j, 11 ≤ j → (Am.start W 8 N bz dz nx).b j = bx j ∧ (Am.start W 8 N bz dz nx).d j = dx j ∧ (Am.start W 8 N bz dz nx).n j = nx j := by
    intro j hj
    refine ⟨?_, ?_, ?_⟩ <;> simp only [Am.start, bz, dz] <;> (repeat rw [if_neg (by omega)])
  refine ⟨Am.start W 8 N bz dz nx, RH.start bz dz nx (by omega) (by decide) hsz ?_ ?_, rfl, hj⟩
  · intro g l hm
    simp only [begin0, List.mem_cons, Prod.mk.injEq, List.mem_nil_iff, or_false] at hm
    rcases hm with ⟨rfl, rfl⟩ | ⟨rfl, rfl⟩ | ⟨rfl, rfl⟩ | ⟨rfl, rfl⟩ | ⟨rfl, rfl⟩
    · exact ⟨by decide, by decide, T0 _⟩
    · refine ⟨by decide, by decide, _, t1, w1, fun k v hv => ?_⟩
      cases k with
      | zero =>
        simp only [List.getElem?_cons_zero, Option.some.injEq] at hv
        subst hv
        exact ⟨_, rfl, .iface _ _ _ (.ptr (e := Am.start W 8 N bz dz nx) 10 0 o1 (show (10 : Nat) < N by omega) (by simp [Am.start, dz]))⟩
      | succ k => simp at hv
    · refine ⟨by decide, by decide, _, t0, w0, fun k v hv => ?_⟩
      cases k with
      | zero =>
        simp only [List.getElem?_cons_zero, Option.some.injEq] at hv
        subst hv
        exact ⟨_, rfl, .iface _ _ _ (.ptr (e := Am.start W 8 N bz dz nx) 9 0 o0 (show (9 : Nat) < N by omega) (by simp [Am.start, dz]))⟩
      | succ k => simp at hv
    · exact ⟨by decide, by decide, T6 _⟩
    · exact ⟨by decide, by decide, T7 _⟩
  · intro i o hm
    obtain ⟨h1, h2, h3, ob, h4, h5⟩ := hP i o hm
    exact ⟨by omega, h2, h3, ob, by have := (hj i h1).1; simp only [Am.start, if_neg (show ¬ i < 8 by omega)] at this; rw [this]; exact h4, h5 _ rfl hj⟩

theorem gsize : Tryz.prog.globals.size < 11 := by
  have hs : Tryz.prog.globals.size = 8 := by kernel_rfl
  omega
noncomputable def prim1 (g : Nat) : Option Prim := prim0 g
theorem prim1OK : PrimOK Tryz.prog prim1 := by
  intro fid p h args H v H' hp
  unfold prim1 at h
  exact prim0OK fid p h args H v H' hp
noncomputable def prim (g : Nat) : Option Prim := prim1 g
theorem primOK : PrimOK Tryz.prog prim := by
  intro fid p h args H v H' hp
  unfold prim at h
  exact prim1OK fid p h args H v H' hp

/-- what is shown of a law over the symbolic heap holds of the model's run -/
theorem lawRun {Q : Type} {enc : TypeId × Value → Q} {g : Nat} {fn : Func} {b : Code} (hf : Tryz.prog.funcs[g]? = some fn) (hb : fn.body = some b) (an : Nat → K.An) {W : World} (hL : laidMet Tryz.prog laid W) (hsz : 8 ≤ W.heap.size) {base : Nat} {spare : Nat → Bool} {held : Bool} (hsp : ∀ b, spare b = true) {tys : List K.Ty} {vs : List Value}
    (ha : K.ArgsOf enc Tryz.prog W base spare held tys vs) (law : ∀ H as' ds, K.ArgsIs H tys as' ds → hasT H begin0 → 11 ≤ H.next → ∃ H', K.CK Tryz.prog (K.regK Tryz.prog) ext prim an (.func (.func g) [] []) as' H = some (.bool true, H')) :
    Calls Tryz.prog g vs.toArray W fun en w' => en = .returned (.bool true) ∧ Below W.heap.size W w' := by
  obtain ⟨as', os, ds, a1, a2, a3, a4⟩ := K.open_args hsp ha 11
  have hs : Tryz.prog.globals.size = 8 := by kernel_rfl
  obtain ⟨e, hR, hN, hj⟩ := begins hL hsz (fun i => ((os[i - 11]?).map (·.b)).getD 0) (fun _ => 0) (fun i => ((os[i - 11]?).map (·.n)).getD 0) (N := 11 + os.length) (by omega) (PO := K.poOf 11 os) (by
    intro i o hm
    obtain ⟨j, ob, h1, rfl, rfl⟩ := K.poOf_mem os 11 i o hm
    have hjl := (List.getElem?_eq_some_iff.1 h1).1
    have hfits : ∀ e : Em, e.N = 11 + os.length → (∀ j, 11 ≤ j → e.b j = ((os[j - 11]?).map (·.b)).getD 0 ∧ e.d j = 0 ∧ e.n j = ((os[j - 11]?).map (·.n)).getD 0) → K.Fits e 11 os := by
      intro e he hj
      refine ⟨by omega, fun j o ho => ?_⟩
      obtain ⟨x, y, z⟩ := hj (11 + j) (by omega)
      rw [Nat.add_sub_cancel_left, ho] at x z
      exact ⟨x, y, z⟩
    have hex : ∃ ow, W.heap[ob.b]? = some ow := by
      let e0 : Em := ⟨fun j => ((os[j - 11]?).map (·.b)).getD 0, fun _ => 0, fun j => ((os[j - 11]?).map (·.n)).getD 0, 11 + os.length⟩
      obtain ⟨ow, h, _⟩ := a2 e0 (hfits e0 rfl fun j _ => ⟨rfl, rfl, rfl⟩) j ob h1
      exact ⟨ow, h⟩
    obtain ⟨ow, how⟩ := hex
    refine ⟨by omega, by omega, a3 ob (List.mem_of_getElem? h1), ow, ?_, fun e he hj => ?_⟩
    · rw [Nat.add_sub_cancel_left, h1]; exact how
    · obtain ⟨ow2, h, h2⟩ := a2 e (hfits e he hj) j ob h1
      rw [how] at h; cases h
      exact h2)
  have hfit : K.Fits e 11 os := by
    refine ⟨by omega, fun j o ho => ?_⟩
    obtain ⟨x, y, z⟩ := hj (11 + j) (by omega)
    rw [Nat.add_sub_cancel_left, ho] at x z
    exact ⟨x, y, z⟩
  have hhas : K.Has ⟨layP (K.poOf 11 os) (layO (elAt W) begin0), 11 + os.length⟩ 11 os := ⟨Nat.le_refl _, fun j o ho => K.layP_poOf os 11 _ j o ho⟩
  have hT : hasT ⟨layP (K.poOf 11 os) (layO (elAt W) begin0), 11 + os.length⟩ begin0 := by
    refine ⟨elAt W, fun g l hm => ?_⟩
    have hg : g < 11 := by
      simp only [begin0, List.mem_cons, Prod.mk.injEq, List.mem_nil_iff, or_false] at hm; rcases hm with ⟨rfl, rfl⟩ | ⟨rfl, rfl⟩ | ⟨rfl, rfl⟩ | ⟨rfl, rfl⟩ | ⟨rfl, rfl⟩ <;> decide
    show (layP _ _).get g = _
    rw [K.layP_below os 11 _ g hg]
    exact K.layO_has _ _ (by decide) g l hm
  obtain ⟨H', hk⟩ := law _ as' ds (a4 _ hhas) hT (Nat.le_add_right _ _)
  refine (K.CK_calls mixed namesOK extOK primOK K.regK_sound hk hf hb hR (as' := vs.toArray) (by simpa using a1 e hfit)).mono fun en w' ⟨e', v', h1, _, hR', hv⟩ => ?_
  have := hv.bool_inv
  subst this
  exact ⟨h1, ⟨hR'.os, hR'.tape, hR'.output, hR'.size, fun k hk => (hR'.frame k hk).2⟩⟩
end Go.Proofs.YtlomlkoimmpemaaGreatDoor.EkEnv
