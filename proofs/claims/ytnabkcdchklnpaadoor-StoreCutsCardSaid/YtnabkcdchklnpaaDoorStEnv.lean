/- What the laws of a package stand on: the functions without a body, the contracts, the start under what the rows list, and awake, run once. -/
import Derived.Test.YtnabkcdchklnpaaDoorAm14
import Derived.Test.YtnabkcdchklnpaaDoorFreeWalk
import Derived.Test.YtnabkcdchklnpaaDoorNamesWalk
import Derived.Test.YtnabkcdchklnpaaDoorTrimWalk
import Derived.Test.YtnabkcdchklnpaaDoorProg
import Derived.Test.YtnabkcdchklnpaaDoorRows
import Derived.ProofKit
import Derived.KernelRfl
namespace Go.Proofs.YtnabkcdchklnpaaDoor.StEnv
open Go Go.RowKit Am
set_option linter.unusedVariables false
set_option maxRecDepth 100000

def ext (g : Nat) : Option Ext := bif Nat.beq g 92 then some .idxByte else none
theorem extOK : ExtOK Tryd.prog ext := by
  intro fid k h as' w
  unfold ext at h
  cases h1 : Nat.beq fid 92 with
  | true =>
    rw [h1] at h
    cases h
    obtain rfl := Nat.eq_of_beq_eq_true h1
    exact ext_of (e := Extern.BytealgIndexByte.indexByte) Tryd.func92 (by kernel_rfl) (by kernel_rfl) (by kernel_rfl) (by kernel_rfl) rfl as' w
  | false =>
    rw [h1] at h
    clear h1
    cases h
noncomputable def prim0 (g : Nat) : Option Prim := bif Nat.beq g 17 then some Am.freeP else bif Nat.beq g 22 then some (Am.namesP 9) else bif Nat.beq g 48 then some Am.trimP else none
theorem prim0OK : PrimOK Tryd.prog prim0 := by
  intro fid p h args H v H' hp
  unfold prim0 at h
  cases h1 : Nat.beq fid 17 with
  | true =>
    rw [h1] at h
    cases h
    obtain rfl := Nat.eq_of_beq_eq_true h1
    exact FreeWalk.freeOne args H v H' hp
  | false =>
    rw [h1] at h
    clear h1
    cases h1 : Nat.beq fid 22 with
    | true =>
      rw [h1] at h
      cases h
      obtain rfl := Nat.eq_of_beq_eq_true h1
      exact NamesWalk.namesOne args H v H' hp
    | false =>
      rw [h1] at h
      clear h1
      cases h1 : Nat.beq fid 48 with
      | true =>
        rw [h1] at h
        cases h
        obtain rfl := Nat.eq_of_beq_eq_true h1
        exact TrimWalk.trimOne args H v H' hp
      | false =>
        rw [h1] at h
        clear h1
        cases h
theorem namesOK : NamesOK Tryd.prog := by unfold NamesOK; kernel_rfl
theorem mixed : Tryd.prog.follows .mixedOrders = true := by kernel_rfl

def begin0 : List (Nat × List AV) := []

abbrev laid : List (String × DataW Unit) := [("unicode/utf8.acceptRanges", Rows.laid_unicode_utf8_acceptRanges), ("unicode/utf8.first", Rows.laid_unicode_utf8_first)]

theorem begins {W : World} (h : laidMet Tryd.prog laid W) (hsz : 3 ≤ W.heap.size) (bx : Nat → Nat) (dx : Nat → Int) (nx : Nat → Nat) {N : Nat} (hN : 4 ≤ N) {PO : List (Nat × AO)}
    (hP : ∀ i o, (i, o) ∈ PO → 4 ≤ i ∧ i < N ∧ wr o = false ∧ ∃ ob, W.heap[bx i]? = some ob ∧ ∀ e : Em, e.N = N → (∀ j, 4 ≤ j → e.b j = bx j ∧ e.d j = dx j ∧ e.n j = nx j) → OR e i o ob) :
    ∃ e, RH Tryd.prog.globals.size (fun k => k < W.heap.size) W e ⟨layP PO (layO (elAt W) begin0), N⟩ W ∧ e.N = N ∧ ∀ j, 4 ≤ j → e.b j = bx j ∧ e.d j = dx j ∧ e.n j = nx j := by
  have hs : Tryd.prog.globals.size = 3 := by kernel_rfl
  rw [hs]
  let bz : Nat → Nat := fun i => bx i
  let dz : Nat → Int := fun i => dx i
  have hj : ∀ j, 4 ≤ j → (Am.start W 3 N bz dz nx).b j = bx j ∧ (Am.start W 3 N bz dz nx).d j = dx j ∧ (Am.start W 3 N bz dz nx).n j = nx j := by
    intro j hj
    refine ⟨?_, ?_, ?_⟩ <;> simp only [Am.start, bz, dz] <;> (repeat rw [if_neg (by omega)])
  refine ⟨Am.start W 3 N bz dz nx, RH.start bz dz nx (by omega) (by decide) hsz ?_ ?_, rfl, hj⟩
  · intro g l hm
    cases hm
  · intro i o hm
    obtain ⟨h1, h2, h3, ob, h4, h5⟩ := hP i o hm
    exact ⟨by omega, h2, h3, ob, by have := (hj i h1).1; simp only [Am.start, if_neg (show ¬ i < 3 by omega)] at this; rw [this]; exact h4, h5 _ rfl hj⟩

theorem awakeF (el : Nat → TypeId) : F.endTrue (F.runF Tryd.prog ext prim0 10000 9 [] ⟨layO el begin0, 4⟩) = true := by kernel_rfl
theorem gsize : Tryd.prog.globals.size < 4 := by
  have hs : Tryd.prog.globals.size = 3 := by kernel_rfl
  omega
theorem awakeOne : PrimOne Tryd.prog 9 (oneP begin0 4) :=
  one_ok mixed namesOK extOK prim0OK Tryd.func9 rfl gsize
    (by
      have hs : Tryd.prog.globals.size = 3 := by kernel_rfl
      rw [hs]
      intro g l hm
      cases hm) fun el => F.run_true (awakeF el)
noncomputable def prim (g : Nat) : Option Prim := bif Nat.beq g 9 then some (oneP begin0 4) else prim0 g
theorem primOK : PrimOK Tryd.prog prim := by
  intro fid p h args H v H' hp
  unfold prim at h
  cases h1 : Nat.beq fid 9 with
  | true =>
    rw [h1] at h
    cases h
    obtain rfl := Nat.eq_of_beq_eq_true h1
    exact awakeOne args H v H' hp
  | false =>
    rw [h1] at h
    exact prim0OK fid p h args H v H' hp

/-- what is shown of a law over the symbolic heap holds of the model's run -/
theorem lawRun {Q : Type} {enc : TypeId × Value → Q} {g : Nat} {fn : Func} {b : Code} (hf : Tryd.prog.funcs[g]? = some fn) (hb : fn.body = some b) (an : Nat → K.An) {W : World} (hL : laidMet Tryd.prog laid W) (hsz : 3 ≤ W.heap.size) {base : Nat} {spare : Nat → Bool} {held : Bool} (hsp : ∀ b, spare b = true) {tys : List K.Ty} {vs : List Value}
    (ha : K.ArgsOf enc Tryd.prog W base spare held tys vs) (law : ∀ H as' ds, K.ArgsIs H tys as' ds → hasT H begin0 → 4 ≤ H.next → ∃ H', K.CK Tryd.prog (K.regK Tryd.prog) ext prim an (.func (.func g) [] []) as' H = some (.bool true, H')) :
    Calls Tryd.prog g vs.toArray W fun en w' => en = .returned (.bool true) ∧ Below W.heap.size W w' := by
  obtain ⟨as', os, ds, a1, a2, a3, a4⟩ := K.open_args hsp ha 4
  have hs : Tryd.prog.globals.size = 3 := by kernel_rfl
  obtain ⟨e, hR, hN, hj⟩ := begins hL hsz (fun i => ((os[i - 4]?).map (·.b)).getD 0) (fun _ => 0) (fun i => ((os[i - 4]?).map (·.n)).getD 0) (N := 4 + os.length) (by omega) (PO := K.poOf 4 os) (by
    intro i o hm
    obtain ⟨j, ob, h1, rfl, rfl⟩ := K.poOf_mem os 4 i o hm
    have hjl := (List.getElem?_eq_some_iff.1 h1).1
    have hfits : ∀ e : Em, e.N = 4 + os.length → (∀ j, 4 ≤ j → e.b j = ((os[j - 4]?).map (·.b)).getD 0 ∧ e.d j = 0 ∧ e.n j = ((os[j - 4]?).map (·.n)).getD 0) → K.Fits e 4 os := by
      intro e he hj
      refine ⟨by omega, fun j o ho => ?_⟩
      obtain ⟨x, y, z⟩ := hj (4 + j) (by omega)
      rw [Nat.add_sub_cancel_left, ho] at x z
      exact ⟨x, y, z⟩
    have hex : ∃ ow, W.heap[ob.b]? = some ow := by
      let e0 : Em := ⟨fun j => ((os[j - 4]?).map (·.b)).getD 0, fun _ => 0, fun j => ((os[j - 4]?).map (·.n)).getD 0, 4 + os.length⟩
      obtain ⟨ow, h, _⟩ := a2 e0 (hfits e0 rfl fun j _ => ⟨rfl, rfl, rfl⟩) j ob h1
      exact ⟨ow, h⟩
    obtain ⟨ow, how⟩ := hex
    refine ⟨by omega, by omega, a3 ob (List.mem_of_getElem? h1), ow, ?_, fun e he hj => ?_⟩
    · rw [Nat.add_sub_cancel_left, h1]; exact how
    · obtain ⟨ow2, h, h2⟩ := a2 e (hfits e he hj) j ob h1
      rw [how] at h; cases h
      exact h2)
  have hfit : K.Fits e 4 os := by
    refine ⟨by omega, fun j o ho => ?_⟩
    obtain ⟨x, y, z⟩ := hj (4 + j) (by omega)
    rw [Nat.add_sub_cancel_left, ho] at x z
    exact ⟨x, y, z⟩
  have hhas : K.Has ⟨layP (K.poOf 4 os) (layO (elAt W) begin0), 4 + os.length⟩ 4 os := ⟨Nat.le_refl _, fun j o ho => K.layP_poOf os 4 _ j o ho⟩
  have hT : hasT ⟨layP (K.poOf 4 os) (layO (elAt W) begin0), 4 + os.length⟩ begin0 := by
    refine ⟨elAt W, fun g l hm => ?_⟩
    have hg : g < 4 := by
      cases hm
    show (layP _ _).get g = _
    rw [K.layP_below os 4 _ g hg]
    exact K.layO_has _ _ (by decide) g l hm
  obtain ⟨H', hk⟩ := law _ as' ds (a4 _ hhas) hT (Nat.le_add_right _ _)
  refine (K.CK_calls mixed namesOK extOK primOK K.regK_sound hk hf hb hR (as' := vs.toArray) (by simpa using a1 e hfit)).mono fun en w' ⟨e', v', h1, _, hR', hv⟩ => ?_
  have := hv.bool_inv
  subst this
  exact ⟨h1, ⟨hR'.os, hR'.tape, hR'.output, hR'.size, fun k hk => (hR'.frame k hk).2⟩⟩
/-- awake, from whatever heap has the listed variables -/
theorem awake_c (an : Nat → K.An) {H : Hp} (hT : hasT H begin0) (hn : 4 ≤ H.next) : K.CK Tryd.prog (K.regK Tryd.prog) ext prim an (.func (.func 9) [] []) [] H = some (.bool true, H) := by
  refine K.ck_prim (p := oneP begin0 4) (by unfold prim; rw [Nat.beq_refl]; rfl) ?_
  unfold oneP
  rw [if_pos ⟨rfl, hT, hn⟩]
end Go.Proofs.YtnabkcdchklnpaaDoor.StEnv
