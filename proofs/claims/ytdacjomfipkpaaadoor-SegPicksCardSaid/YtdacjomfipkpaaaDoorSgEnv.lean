/- What the laws of a package stand on: the functions without a body, the contracts, the start under what the rows list, and awake, run once. -/
import Derived.Test.YtdacjomfipkpaaaDoorAm14
import Derived.Test.YtdacjomfipkpaaaDoorSegPrim
import Derived.Test.YtdacjomfipkpaaaDoorSegSort
import Derived.Test.YtdacjomfipkpaaaDoorProg
import Derived.Test.YtdacjomfipkpaaaDoorRows
import Derived.ProofKit
import Derived.KernelRfl
namespace Go.Proofs.YtdacjomfipkpaaaDoor.SgEnv
open Go Go.RowKit Am
set_option linter.unusedVariables false
set_option maxRecDepth 100000

def ext (g : Nat) : Option Ext := bif Nat.beq g 88 then some .same else bif Nat.beq g 89 then some (.noZero 28) else none
theorem extOK : ExtOK Tryd.prog ext := by
  intro fid k h as' w
  unfold ext at h
  cases h1 : Nat.beq fid 88 with
  | true =>
    rw [h1] at h
    cases h
    obtain rfl := Nat.eq_of_beq_eq_true h1
    exact ext_of (e := Extern.AbiNoEscape.same) Tryd.func88 (by kernel_rfl) (by kernel_rfl) (by kernel_rfl) (by kernel_rfl) rfl as' w
  | false =>
    rw [h1] at h
    clear h1
    cases h1 : Nat.beq fid 89 with
    | true =>
      rw [h1] at h
      cases h
      obtain rfl := Nat.eq_of_beq_eq_true h1
      exact ext_of (e := Extern.BytealgMakeNoZero.makeNoZero #[] #[28]) Tryd.func89 (by kernel_rfl) (by kernel_rfl) (by kernel_rfl) (by kernel_rfl) rfl as' w
    | false =>
      rw [h1] at h
      clear h1
      cases h
noncomputable def prim0 (g : Nat) : Option Prim := none
theorem prim0OK : PrimOK Tryd.prog prim0 := by
  intro fid p h args H v H' hp
  unfold prim0 at h
  cases h
theorem namesOK : NamesOK Tryd.prog := by unfold NamesOK; kernel_rfl
theorem mixed : Tryd.prog.follows .mixedOrders = true := by kernel_rfl

def pow10 : List Int := [1, 10, 100, 1000, 10000, 100000, 1000000, 10000000, 100000000, 1000000000, 10000000000, 100000000000, 1000000000000, 10000000000000, 100000000000000, 1000000000000000, 10000000000000000, 100000000000000000, 1000000000000000000, 10000000000000000000]
def tab32 : List Int := [0, 1, 28, 2, 29, 14, 24, 3, 30, 22, 20, 15, 25, 17, 4, 8, 31, 27, 13, 23, 21, 19, 16, 7, 26, 12, 18, 6, 11, 5, 10, 9]
def tab64 : List Int := [0, 1, 56, 2, 57, 49, 28, 3, 61, 58, 42, 50, 38, 29, 17, 4, 62, 47, 59, 36, 45, 43, 51, 22, 53, 39, 33, 30, 24, 18, 12, 5, 63, 55, 48, 27, 60, 41, 37, 16, 46, 35, 44, 21, 52, 32, 23, 11, 54, 26, 40, 15, 34, 20, 31, 10, 25, 14, 19, 9, 13, 8, 7, 6]
def begin0 : List (Nat × List AV) := [(0, pow10.map (AV.int .u64)), (1, [.iface 153 (.ptr 8 0)]), (2, [.iface 153 (.ptr 7 0)]), (4, tab32.map (AV.int .u8)), (5, tab64.map (AV.int .u8))]

abbrev laid : List (String × DataW Unit) := [("math/bits.deBruijn32tab", Rows.laid_math_bits_deBruijn32tab), ("math/bits.deBruijn64tab", Rows.laid_math_bits_deBruijn64tab), ("internal/strconv.uint64pow10", Rows.laid_internal_strconv_uint64pow10), ("strconv.ErrRange", Rows.laid_strconv_ErrRange), ("strconv.ErrSyntax", Rows.laid_strconv_ErrSyntax)]

theorem star : "*" ++ "errors.errorString" = "*errors.errorString" := by decide
theorem rowErr (u : TypeId) (h : Tryd.prog.typeName? 3 u = some "*errors.errorString") : u = 153 :=
  typeName_ptr_named (nm := "errors.errorString") (by rw [star]; kernel_rfl) (by kernel_rfl) (by decide) u (by rw [star]; exact h)

theorem begins {W : World} (h : laidMet Tryd.prog laid W) (hsz : 6 ≤ W.heap.size) (bx : Nat → Nat) (dx : Nat → Int) (nx : Nat → Nat) {N : Nat} (hN : 9 ≤ N) {PO : List (Nat × AO)}
    (hP : ∀ i o, (i, o) ∈ PO → 9 ≤ i ∧ i < N ∧ wr o = false ∧ ∃ ob, W.heap[bx i]? = some ob ∧ ∀ e : Em, e.N = N → (∀ j, 9 ≤ j → e.b j = bx j ∧ e.d j = dx j ∧ e.n j = nx j) → OR e i o ob) :
    ∃ e, RH Tryd.prog.globals.size (fun k => k < W.heap.size) W e ⟨layP PO (layO (elAt W) begin0), N⟩ W ∧ e.N = N ∧ ∀ j, 9 ≤ j → e.b j = bx j ∧ e.d j = dx j ∧ e.n j = nx j := by
  have hs : Tryd.prog.globals.size = 6 := by kernel_rfl
  rw [hs]
  obtain ⟨b0, o0, t0, w0⟩ := laid_err (n := "strconv.ErrRange") (nm := "*errors.errorString") (tp := 153) (te := 155) (ts := 9) h (.tail _ (.tail _ (.tail _ (.head _)))) (g := 2) (ti := 61) (by kernel_rfl) (by kernel_rfl) Tryd.underlying61 rowErr Tryd.underlying153 Tryd.underlying155 rfl rfl Tryd.underlying9 (by kernel_rfl) (by kernel_rfl)
  obtain ⟨b1, o1, t1, w1⟩ := laid_err (n := "strconv.ErrSyntax") (nm := "*errors.errorString") (tp := 153) (te := 155) (ts := 9) h (.tail _ (.tail _ (.tail _ (.tail _ (.head _))))) (g := 1) (ti := 61) (by kernel_rfl) (by kernel_rfl) Tryd.underlying61 rowErr Tryd.underlying153 Tryd.underlying155 rfl rfl Tryd.underlying9 (by kernel_rfl) (by kernel_rfl)
  let bz : Nat → Nat := fun i => if i = 7 then b0 else if i = 8 then b1 else bx i
  let dz : Nat → Int := fun i => if i = 7 then (o0 : Int) else if i = 8 then (o1 : Int) else dx i
  have T0 := fun em : Em => laid_table (name := "internal/strconv.uint64pow10") (k := .u64) (zs := pow10) h (.tail _ (.tail _ (.head _))) (g := 0) (by kernel_rfl) (by kernel_rfl) Tryd.underlying132 Tryd.underlying38 (by kernel_rfl) (by kernel_rfl) (by decide) em
  have T4 := fun em : Em => laid_table (name := "math/bits.deBruijn32tab") (k := .u8) (zs := tab32) h (.head _) (g := 4) (by kernel_rfl) (by kernel_rfl) Tryd.underlying159 Tryd.underlying5 (by kernel_rfl) (by kernel_rfl) (by decide) em
  have T5 := fun em : Em => laid_table (name := "math/bits.deBruijn64tab") (k := .u8) (zs := tab64) h (.tail _ (.head _)) (g := 5) (by kernel_rfl) (by kernel_rfl) Tryd.underlying160 Tryd.underlying5 (by kernel_rfl) (by kernel_rfl) (by decide) em
  have hj : ∀ j, 9 ≤ j → (Am.start W 6 N bz dz nx).b j = bx j ∧ (Am.start W 6 N bz dz nx).d j = dx j ∧ (Am.start W 6 N bz dz nx).n j = nx j := by
    intro j hj
    refine ⟨?_, ?_, ?_⟩ <;> simp only [Am.start, bz, dz] <;> (repeat rw [if_neg (by omega)])
  refine ⟨Am.start W 6 N bz dz nx, RH.start bz dz nx (by omega) (by decide) hsz ?_ ?_, rfl, hj⟩
  · intro g l hm
    simp only [begin0, List.mem_cons, Prod.mk.injEq, List.mem_nil_iff, or_false] at hm
    rcases hm with ⟨rfl, rfl⟩ | ⟨rfl, rfl⟩ | ⟨rfl, rfl⟩ | ⟨rfl, rfl⟩ | ⟨rfl, rfl⟩
    · exact ⟨by decide, by decide, T0 _⟩
    · refine ⟨by decide, by decide, _, t1, w1, fun k v hv => ?_⟩
      cases k with
      | zero =>
        simp only [List.getElem?_cons_zero, Option.some.injEq] at hv
        subst hv
        exact ⟨_, rfl, .iface _ _ _ (.ptr (e := Am.start W 6 N bz dz nx) 8 0 o1 (show (8 : Nat) < N by omega) (by simp [Am.start, dz]))⟩
      | succ k => simp at hv
    · refine ⟨by decide, by decide, _, t0, w0, fun k v hv => ?_⟩
      cases k with
      | zero =>
        simp only [List.getElem?_cons_zero, Option.some.injEq] at hv
        subst hv
        exact ⟨_, rfl, .iface _ _ _ (.ptr (e := Am.start W 6 N bz dz nx) 7 0 o0 (show (7 : Nat) < N by omega) (by simp [Am.start, dz]))⟩
      | succ k => simp at hv
    · exact ⟨by decide, by decide, T4 _⟩
    · exact ⟨by decide, by decide, T5 _⟩
  · intro i o hm
    obtain ⟨h1, h2, h3, ob, h4, h5⟩ := hP i o hm
    exact ⟨by omega, h2, h3, ob, by have := (hj i h1).1; simp only [Am.start, if_neg (show ¬ i < 6 by omega)] at this; rw [this]; exact h4, h5 _ rfl hj⟩

theorem awakeF (el : Nat → TypeId) : F.endTrue (F.runF Tryd.prog ext prim0 20000 9 [] ⟨layO el begin0, 9⟩) = true := by kernel_rfl
theorem gsize : Tryd.prog.globals.size < 9 := by
  have hs : Tryd.prog.globals.size = 6 := by kernel_rfl
  omega
theorem awakeOne : PrimOne Tryd.prog 9 (oneP begin0 9) :=
  one_ok mixed namesOK extOK prim0OK Tryd.func9 rfl gsize
    (by
      have hs : Tryd.prog.globals.size = 6 := by kernel_rfl
      rw [hs]
      intro g l hm
      simp only [begin0, List.mem_cons, Prod.mk.injEq, List.mem_nil_iff, or_false] at hm; rcases hm with ⟨rfl, rfl⟩ | ⟨rfl, rfl⟩ | ⟨rfl, rfl⟩ | ⟨rfl, rfl⟩ | ⟨rfl, rfl⟩ <;> exact ⟨by decide, by decide, by decide, by decide⟩) fun el => F.run_true (awakeF el)
noncomputable def prim1 (g : Nat) : Option Prim := bif Nat.beq g 10 then some SegPrim.nameP else bif Nat.beq g 11 then some SegPrim.parseP else bif Nat.beq g 36 then some SegSort.sortP else prim0 g
theorem prim1OK : PrimOK Tryd.prog prim1 := by
  intro fid p h args H v H' hp
  unfold prim1 at h
  cases h1 : Nat.beq fid 10 with
  | true =>
    rw [h1] at h
    cases h
    obtain rfl := Nat.eq_of_beq_eq_true h1
    exact SegPrim.nameOne args H v H' hp
  | false =>
    rw [h1] at h
    clear h1
    cases h1 : Nat.beq fid 11 with
    | true =>
      rw [h1] at h
      cases h
      obtain rfl := Nat.eq_of_beq_eq_true h1
      exact SegPrim.parseOne args H v H' hp
    | false =>
      rw [h1] at h
      clear h1
      cases h1 : Nat.beq fid 36 with
      | true =>
        rw [h1] at h
        cases h
        obtain rfl := Nat.eq_of_beq_eq_true h1
        exact SegSort.sortOne args H v H' hp
      | false =>
        rw [h1] at h
        clear h1
        exact prim0OK fid p h args H v H' hp
noncomputable def prim (g : Nat) : Option Prim := bif Nat.beq g 9 then some (oneP begin0 9) else prim1 g
theorem primOK : PrimOK Tryd.prog prim := by
  intro fid p h args H v H' hp
  unfold prim at h
  cases h1 : Nat.beq fid 9 with
  | true =>
    rw [h1] at h
    cases h
    obtain rfl := Nat.eq_of_beq_eq_true h1
    exact awakeOne args H v H' hp
  | false =>
    rw [h1] at h
    exact prim1OK fid p h args H v H' hp

/-- what is shown of a law over the symbolic heap holds of the model's run -/
theorem lawRun {Q : Type} {enc : TypeId × Value → Q} {g : Nat} {fn : Func} {b : Code} (hf : Tryd.prog.funcs[g]? = some fn) (hb : fn.body = some b) (an : Nat → K.An) {W : World} (hL : laidMet Tryd.prog laid W) (hsz : 6 ≤ W.heap.size) {base : Nat} {spare : Nat → Bool} {held : Bool} (hsp : ∀ b, spare b = true) {tys : List K.Ty} {vs : List Value}
    (ha : K.ArgsOf enc Tryd.prog W base spare held tys vs) (law : ∀ H as' ds, K.ArgsIs H tys as' ds → hasT H begin0 → 9 ≤ H.next → ∃ H', K.CK Tryd.prog (K.regK Tryd.prog) ext prim an (.func (.func g) [] []) as' H = some (.bool true, H')) :
    Calls Tryd.prog g vs.toArray W fun en w' => en = .returned (.bool true) ∧ Below W.heap.size W w' := by
  obtain ⟨as', os, ds, a1, a2, a3, a4⟩ := K.open_args hsp ha 9
  have hs : Tryd.prog.globals.size = 6 := by kernel_rfl
  obtain ⟨e, hR, hN, hj⟩ := begins hL hsz (fun i => ((os[i - 9]?).map (·.b)).getD 0) (fun _ => 0) (fun i => ((os[i - 9]?).map (·.n)).getD 0) (N := 9 + os.length) (by omega) (PO := K.poOf 9 os) (by
    intro i o hm
    obtain ⟨j, ob, h1, rfl, rfl⟩ := K.poOf_mem os 9 i o hm
    have hjl := (List.getElem?_eq_some_iff.1 h1).1
    have hfits : ∀ e : Em, e.N = 9 + os.length → (∀ j, 9 ≤ j → e.b j = ((os[j - 9]?).map (·.b)).getD 0 ∧ e.d j = 0 ∧ e.n j = ((os[j - 9]?).map (·.n)).getD 0) → K.Fits e 9 os := by
      intro e he hj
      refine ⟨by omega, fun j o ho => ?_⟩
      obtain ⟨x, y, z⟩ := hj (9 + j) (by omega)
      rw [Nat.add_sub_cancel_left, ho] at x z
      exact ⟨x, y, z⟩
    have hex : ∃ ow, W.heap[ob.b]? = some ow := by
      let e0 : Em := ⟨fun j => ((os[j - 9]?).map (·.b)).getD 0, fun _ => 0, fun j => ((os[j - 9]?).map (·.n)).getD 0, 9 + os.length⟩
      obtain ⟨ow, h, _⟩ := a2 e0 (hfits e0 rfl fun j _ => ⟨rfl, rfl, rfl⟩) j ob h1
      exact ⟨ow, h⟩
    obtain ⟨ow, how⟩ := hex
    refine ⟨by omega, by omega, a3 ob (List.mem_of_getElem? h1), ow, ?_, fun e he hj => ?_⟩
    · rw [Nat.add_sub_cancel_left, h1]; exact how
    · obtain ⟨ow2, h, h2⟩ := a2 e (hfits e he hj) j ob h1
      rw [how] at h; cases h
      exact h2)
  have hfit : K.Fits e 9 os := by
    refine ⟨by omega, fun j o ho => ?_⟩
    obtain ⟨x, y, z⟩ := hj (9 + j) (by omega)
    rw [Nat.add_sub_cancel_left, ho] at x z
    exact ⟨x, y, z⟩
  have hhas : K.Has ⟨layP (K.poOf 9 os) (layO (elAt W) begin0), 9 + os.length⟩ 9 os := ⟨Nat.le_refl _, fun j o ho => K.layP_poOf os 9 _ j o ho⟩
  have hT : hasT ⟨layP (K.poOf 9 os) (layO (elAt W) begin0), 9 + os.length⟩ begin0 := by
    refine ⟨elAt W, fun g l hm => ?_⟩
    have hg : g < 9 := by
      simp only [begin0, List.mem_cons, Prod.mk.injEq, List.mem_nil_iff, or_false] at hm; rcases hm with ⟨rfl, rfl⟩ | ⟨rfl, rfl⟩ | ⟨rfl, rfl⟩ | ⟨rfl, rfl⟩ | ⟨rfl, rfl⟩ <;> decide
    show (layP _ _).get g = _
    rw [K.layP_below os 9 _ g hg]
    exact K.layO_has _ _ (by decide) g l hm
  obtain ⟨H', hk⟩ := law _ as' ds (a4 _ hhas) hT (Nat.le_add_right _ _)
  refine (K.CK_calls mixed namesOK extOK primOK K.regK_sound hk hf hb hR (as' := vs.toArray) (by simpa using a1 e hfit)).mono fun en w' ⟨e', v', h1, _, hR', hv⟩ => ?_
  have := hv.bool_inv
  subst this
  exact ⟨h1, ⟨hR'.os, hR'.tape, hR'.output, hR'.size, fun k hk => (hR'.frame k hk).2⟩⟩
/-- awake, from whatever heap has the listed variables -/
theorem awake_c (an : Nat → K.An) {H : Hp} (hT : hasT H begin0) (hn : 9 ≤ H.next) : K.CK Tryd.prog (K.regK Tryd.prog) ext prim an (.func (.func 9) [] []) [] H = some (.bool true, H) := by
  refine K.ck_prim (p := oneP begin0 9) (by unfold prim; rw [Nat.beq_refl]; rfl) ?_
  unfold oneP
  rw [if_pos ⟨rfl, hT, hn⟩]
end Go.Proofs.YtdacjomfipkpaaaDoor.SgEnv
