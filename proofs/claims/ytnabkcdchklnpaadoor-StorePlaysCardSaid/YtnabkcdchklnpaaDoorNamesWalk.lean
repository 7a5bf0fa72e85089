/- (*store.Store).Names, in whatever order the map is walked: a new slice that holds the files' names, sorted. Conditions: what the store's cells hold, as stated. -/
import Derived.Test.YtnabkcdchklnpaaDoorAm9
import Derived.Test.YtnabkcdchklnpaaDoorShelf
import Derived.Shelf.SlIter.Nil
import Derived.Shelf.SortM.Plain
import Derived.Shelf.SortM.SortNone
import Derived.Ground.GgzProg
import Derived.Ground.SlgmProg
import Derived.Tactics
import Derived.Tactics2
import Derived.StillTactics
import Derived.WalkKit
import Derived.Test.YtnabkcdchklnpaaDoorProg
import Derived.ProofKit
import Derived.Test.YtnabkcdchklnpaaDoorAm14
import Derived.Test.YtnabkcdchklnpaaDoorFreeWalk
import Derived.Test.YtnabkcdchklnpaaDoorRows
import Derived.KernelRfl
import Derived.Test.YtnabkcdchklnpaaDoorAm13
set_option linter.unusedVariables false
set_option linter.unusedSimpArgs false
namespace Go.Proofs
open Go.RowKit Go.Maps Go.Sort Go.Shelf


theorem Tryd.sorts41 (m : Nat) : AnyZ.SortsIn Tryd.prog Tryd.sorted41_ren Fence.wide m :=
  ⟨fun blk off cap ss W hH hblk hsz => callsIn_wide.2 (AnyM.slices_Sort_string Tryd.sort50 blk off cap ss W hH hblk hsz),
   fun p cap W => callsIn_wide.2 (AnyM.slices_Sort_string_none Tryd.sort50 p cap W)⟩

theorem Tryd.maps_Keys_42 (mb : Option Nat) (W : World) : CallsIn Fence.wide 5 Tryd.prog 42 #[.map mb] W fun e w' => e = .returned (.func (.func 51) #[] #[.pointer (some ⟨W.heap.size, 0, none⟩)]) ∧ w' = W.alloc (.cells #[.map mb] 59) :=
  AnyZ.keys_in Tryd.keys42 Fence.wide 5 trivial rfl mb W

set_option maxHeartbeats 1000000 in
theorem Tryd.slices_Sorted_keys_41_42 {H : Type} (b nn : Nat) (D0 : DataW H) (R : Value → Option (DataW H × List MemPlace)) (w : World) (hown : w.ownsMap Tryd.prog 9 R b nn D0) (hmax : Maps.size D0 ≤ maxLen) (hbytes : Maps.size D0 * 16 ≤ 140737488355328) :
    CallsIn Fence.wide 5 Tryd.prog 41 #[.func (.func 51) #[] #[.pointer (some ⟨w.heap.size, 0, none⟩)]] (w.alloc (.cells #[.map (some b)] 59)) fun e w' => ∃ (v : Value) (ss : List (List UInt8)), e = .returned v ∧ ss.Perm (strKeys D0) ∧
      w'.ownsRow (w.alloc (.cells #[.map (some b)] 59)).heap.size 9 1 v ss.length ((ss.mergeSort (fun x y => decide (x ≤ y))).map encStr) ∧ (v = .slice none 0 0 ↔ ss = []) ∧ Below (w.alloc (.cells #[.map (some b)] 59)).heap.size (w.alloc (.cells #[.map (some b)] 59)) w' := by
  have hbl := hown.lt
  have hseq : SeqGives Fence.wide 2 Tryd.prog 51 #[.pointer (some ⟨w.heap.size, 0, none⟩)] encStr (fun ss => ss.Perm (strKeys D0)) (Maps.size D0) (w.alloc (.cells #[.map (some b)] 59)) :=
    AnyZ.keys_gives (ρ := Tryd.keys42_ren) { Tryd.keys42 with } Fence.wide _ trivial rfl (by omega) w.heap.size b nn D0 _ (by simp) (by simp) (by
      obtain ⟨es, clock, hb, Ft, hs, hD⟩ := hown
      exact ⟨es, clock, (Below.heap_alloc _ _ b hbl).trans hb, Ft, hs, hD⟩)
  exact AnyZ.sorted_in Tryd.sorted41 Fence.wide 5 trivial trivial trivial trivial rfl (by omega) (Tryd.sorts41 _) (enters_of Tryd.func50 (by kernel_rfl) rfl) 51 #[.pointer (some ⟨w.heap.size, 0, none⟩)] trivial (enters_of Tryd.func51 (by kernel_rfl) rfl) _ _ hmax hbytes _ hseq

end Go.Proofs
namespace Go.Proofs.YtnabkcdchklnpaaDoor.NamesWalk
open Go Go.Proofs Go.RowKit Go.Maps Go.Sort Go.Shelf
set_option maxHeartbeats 1000000 in
theorem walk (bs o bm nn : Nat) (D0 : DataW Unit) (R : Value → Option (DataW Unit × List MemPlace)) (w : World) (h1 : w.cell? ⟨bs, o + 1, none⟩ = some (.map (some bm))) (hown : w.ownsMap Tryd.prog 9 R bm nn D0) (hmax : Maps.size D0 ≤ maxLen) (hbytes : Maps.size D0 * 16 ≤ 140737488355328) :
    Calls Tryd.prog 22 #[.pointer (some ⟨bs, o, none⟩)] w fun e w' => ∃ (v : Value) (ss : List (List UInt8)), e = .returned v ∧ ss.Perm (strKeys D0) ∧
      w'.ownsRow w.heap.size 9 1 v ss.length ((ss.mergeSort (fun x y => decide (x ≤ y))).map encStr) ∧ (v = .slice none 0 0 ↔ ss = []) ∧ Below w.heap.size w w' := by
  refine (callsIn_wide (n := 6)).1 ?_
  have hfK : Fence.wide.fn 42 := trivial
  have hfS : Fence.wide.fn 41 := trivial
  refine callsIn_of_wp Tryd.func22 rfl trivial ?_ rfl
  simp only [Tryd.ntmps22, List.size_toArray, List.length_cons, List.length_nil, Nat.reduceAdd, Nat.reduceSub, Array.replicate_succ, Array.replicate_zero, List.push_toArray, List.append_toArray, List.nil_append, List.cons_append]
  gi_wp2_with (first
    | (gi_at_call 42; refine (Tryd.maps_Keys_42 _ _).mono ?_; rintro e w' ⟨rfl, rfl⟩)
    | (gi_at_call 41; refine (Tryd.slices_Sorted_keys_41_42 bm nn D0 R w hown hmax hbytes).mono ?_; rintro e w' ⟨v, ss, rfl, hS, hrow, hnil, hb⟩))
  go_ret
  exact ⟨v, ss, rfl, hS, ownsRow_base_a hrow (by simp), hnil, ((Below.refl _ w).alloc (Nat.le_refl _) _).trans (hb.mono (by simp))⟩

theorem namesOne : Am.PrimOne Tryd.prog 22 (Am.namesP 9) := by
  refine Am.names_ok (fun as' w => Am.run_enter (by unfold Am.NamesOK; kernel_rfl) Tryd.func22 rfl as' w) Tryd.underlying9 ?_
  intro bs o bm nn D0 R w h1 hown hmax hbytes
  exact walk bs o bm nn D0 R w h1 hown hmax hbytes
end Go.Proofs.YtnabkcdchklnpaaDoor.NamesWalk
namespace Go.Proofs.YtnabkcdchklnpaaDoor.TrimWalk
open Go Go.Proofs Go.RowKit Go.Shelf
set_option maxRecDepth 100000
theorem trimOne : Am.PrimOne Tryd.prog 48 Am.trimP := by
  refine Am.trim_ok (fun as' w => Am.run_enter (by unfold Am.NamesOK; kernel_rfl) Tryd.func48 rfl as' w) ?_
  intro s c w hs hc ha
  exact Any.strings_Trim_laid Tryd.lays160 (by kernel_rfl) s c w hs hc ha
end Go.Proofs.YtnabkcdchklnpaaDoor.TrimWalk
namespace Go.Proofs.YtnabkcdchklnpaaDoor.StEnv
open Go Go.RowKit Am
set_option linter.unusedVariables false
set_option maxRecDepth 100000

def ext (g : Nat) : Option Ext := bif Nat.beq g 92 then some .idxByte else none
theorem extOK : ExtOK Tryd.prog ext := by
  intro fid k h as' w
  unfold ext at h
  cases h1 : Nat.beq fid 92 with
  | true =>
    rw [h1] at h
    cases h
    obtain rfl := Nat.eq_of_beq_eq_true h1
    exact ext_of (e := Extern.BytealgIndexByte.indexByte) Tryd.func92 (by kernel_rfl) (by kernel_rfl) (by kernel_rfl) (by kernel_rfl) rfl as' w
  | false =>
    rw [h1] at h
    clear h1
    cases h
noncomputable def prim0 (g : Nat) : Option Prim := bif Nat.beq g 17 then some Am.freeP else bif Nat.beq g 22 then some (Am.namesP 9) else bif Nat.beq g 48 then some Am.trimP else none
theorem prim0OK : PrimOK Tryd.prog prim0 := by
  intro fid p h args H v H' hp
  unfold prim0 at h
  cases h1 : Nat.beq fid 17 with
  | true =>
    rw [h1] at h
    cases h
    obtain rfl := Nat.eq_of_beq_eq_true h1
    exact FreeWalk.freeOne args H v H' hp
  | false =>
    rw [h1] at h
    clear h1
    cases h1 : Nat.beq fid 22 with
    | true =>
      rw [h1] at h
      cases h
      obtain rfl := Nat.eq_of_beq_eq_true h1
      exact NamesWalk.namesOne args H v H' hp
    | false =>
      rw [h1] at h
      clear h1
      cases h1 : Nat.beq fid 48 with
      | true =>
        rw [h1] at h
        cases h
        obtain rfl := Nat.eq_of_beq_eq_true h1
        exact TrimWalk.trimOne args H v H' hp
      | false =>
        rw [h1] at h
        clear h1
        cases h
theorem namesOK : NamesOK Tryd.prog := by unfold NamesOK; kernel_rfl
theorem mixed : Tryd.prog.follows .mixedOrders = true := by kernel_rfl

def begin0 : List (Nat × List AV) := []

abbrev laid : List (String × DataW Unit) := [("unicode/utf8.acceptRanges", Rows.laid_unicode_utf8_acceptRanges), ("unicode/utf8.first", Rows.laid_unicode_utf8_first)]

theorem begins {W : World} (h : laidMet Tryd.prog laid W) (hsz : 3 ≤ W.heap.size) (bx : Nat → Nat) (dx : Nat → Int) (nx : Nat → Nat) {N : Nat} (hN : 4 ≤ N) {PO : List (Nat × AO)}
    (hP : ∀ i o, (i, o) ∈ PO → 4 ≤ i ∧ i < N ∧ wr o = false ∧ ∃ ob, W.heap[bx i]? = some ob ∧ ∀ e : Em, e.N = N → (∀ j, 4 ≤ j → e.b j = bx j ∧ e.d j = dx j ∧ e.n j = nx j) → OR e i o ob) :
    ∃ e, RH Tryd.prog.globals.size (fun k => k < W.heap.size) W e ⟨layP PO (layO (elAt W) begin0), N⟩ W ∧ e.N = N ∧ ∀ j, 4 ≤ j → e.b j = bx j ∧ e.d j = dx j ∧ e.n j = nx j := by
  have hs : Tryd.prog.globals.size = 3 := by kernel_rfl
  rw [hs]
  let bz : Nat → Nat := fun i => bx i
  let dz : Nat → Int := fun i => dx i
  have hj : ∀ j, 4 ≤ j → (Am.start W 3 N bz dz nx).b j = bx j ∧ (Am.start W 3 N bz dz nx).d j = dx j ∧ (Am.start W 3 N bz dz nx).n j = nx j := by
    intro j hj
    refine ⟨?_, ?_, ?_⟩ <;> simp only [Am.start, bz, dz] <;> (repeat rw [if_neg (by omega)])
  refine ⟨Am.start W 3 N bz dz nx, RH.start bz dz nx (by omega) (by decide) hsz ?_ ?_, rfl, hj⟩
  · intro g l hm
    cases hm
  · intro i o hm
    obtain ⟨h1, h2, h3, ob, h4, h5⟩ := hP i o hm
    exact ⟨by omega, h2, h3, ob, by have := (hj i h1).1; simp only [Am.start, if_neg (show ¬ i < 3 by omega)] at this; rw [this]; exact h4, h5 _ rfl hj⟩

theorem gsize : Tryd.prog.globals.size < 4 := by
  have hs : Tryd.prog.globals.size = 3 := by kernel_rfl
  omega
theorem awakeF (el : Nat → TypeId) : retTrue (callA (Tryd.prog) ext prim0 20000 9 [] ⟨layO el begin0, 4⟩) = true := by kernel_rfl
theorem awakeOne : PrimOne Tryd.prog 9 (oneP begin0 4) :=
  one_ok mixed namesOK extOK prim0OK Tryd.func9 rfl gsize
    (by
      have hs : Tryd.prog.globals.size = 3 := by kernel_rfl
      rw [hs]
      intro g l hm
      cases hm) fun el => awakeF el
noncomputable def prim1 (g : Nat) : Option Prim := prim0 g
theorem prim1OK : PrimOK Tryd.prog prim1 := by
  intro fid p h args H v H' hp
  unfold prim1 at h
  exact prim0OK fid p h args H v H' hp
noncomputable def prim (g : Nat) : Option Prim := bif Nat.beq g 9 then some (oneP begin0 4) else prim1 g
theorem primOK : PrimOK Tryd.prog prim := by
  intro fid p h args H v H' hp
  unfold prim at h
  cases h1 : Nat.beq fid 9 with
  | true =>
    rw [h1] at h
    cases h
    obtain rfl := Nat.eq_of_beq_eq_true h1
    exact awakeOne args H v H' hp
  | false =>
    rw [h1] at h
    clear h1
    exact prim1OK fid p h args H v H' hp

/-- what is shown of a law over the symbolic heap holds of the model's run -/
theorem lawRun {Q : Type} {enc : TypeId × Value → Q} {g : Nat} {fn : Func} {b : Code} (hf : Tryd.prog.funcs[g]? = some fn) (hb : fn.body = some b) (an : Nat → K.An) (hA : K.PrOK Tryd.prog an) {W : World} (hL : laidMet Tryd.prog laid W) (hsz : 3 ≤ W.heap.size) {base : Nat} {spare : Nat → Bool} {held : Bool} (hsp : ∀ b, spare b = true) {tys : List K.Ty} {vs : List Value}
    (ha : K.ArgsOf enc Tryd.prog W base spare held tys vs) (law : ∀ H as' ds, K.ArgsIs H tys as' ds → hasT H begin0 → 4 ≤ H.next → ∃ H', K.CK Tryd.prog (K.regK Tryd.prog) ext prim an (.func (.func g) [] []) as' H = some (.bool true, H')) :
    Calls Tryd.prog g vs.toArray W fun en w' => en = .returned (.bool true) ∧ Below W.heap.size W w' := by
  obtain ⟨as', os, ds, a1, a2, a3, a4⟩ := K.open_args hsp ha 4
  have hs : Tryd.prog.globals.size = 3 := by kernel_rfl
  obtain ⟨e, hR, hN, hj⟩ := begins hL hsz (fun i => ((os[i - 4]?).map (·.b)).getD 0) (fun _ => 0) (fun i => ((os[i - 4]?).map (·.n)).getD 0) (N := 4 + os.length) (by omega) (PO := K.poOf 4 os) (by
    intro i o hm
    obtain ⟨j, ob, h1, rfl, rfl⟩ := K.poOf_mem os 4 i o hm
    have hjl := (List.getElem?_eq_some_iff.1 h1).1
    have hfits : ∀ e : Em, e.N = 4 + os.length → (∀ j, 4 ≤ j → e.b j = ((os[j - 4]?).map (·.b)).getD 0 ∧ e.d j = 0 ∧ e.n j = ((os[j - 4]?).map (·.n)).getD 0) → K.Fits e 4 os := by
      intro e he hj
      refine ⟨by omega, fun j o ho => ?_⟩
      obtain ⟨x, y, z⟩ := hj (4 + j) (by omega)
      rw [Nat.add_sub_cancel_left, ho] at x z
      exact ⟨x, y, z⟩
    have hex : ∃ ow, W.heap[ob.b]? = some ow := by
      let e0 : Em := ⟨fun j => ((os[j - 4]?).map (·.b)).getD 0, fun _ => 0, fun j => ((os[j - 4]?).map (·.n)).getD 0, 4 + os.length⟩
      obtain ⟨ow, h, _⟩ := a2 e0 (hfits e0 rfl fun j _ => ⟨rfl, rfl, rfl⟩) j ob h1
      exact ⟨ow, h⟩
    obtain ⟨ow, how⟩ := hex
    refine ⟨by omega, by omega, a3 ob (List.mem_of_getElem? h1), ow, ?_, fun e he hj => ?_⟩
    · rw [Nat.add_sub_cancel_left, h1]; exact how
    · obtain ⟨ow2, h, h2⟩ := a2 e (hfits e he hj) j ob h1
      rw [how] at h; cases h
      exact h2)
  have hfit : K.Fits e 4 os := by
    refine ⟨by omega, fun j o ho => ?_⟩
    obtain ⟨x, y, z⟩ := hj (4 + j) (by omega)
    rw [Nat.add_sub_cancel_left, ho] at x z
    exact ⟨x, y, z⟩
  have hhas : K.Has ⟨layP (K.poOf 4 os) (layO (elAt W) begin0), 4 + os.length⟩ 4 os := ⟨Nat.le_refl _, fun j o ho => K.layP_poOf os 4 _ j o ho⟩
  have hT : hasT ⟨layP (K.poOf 4 os) (layO (elAt W) begin0), 4 + os.length⟩ begin0 := by
    refine ⟨elAt W, fun g l hm => ?_⟩
    have hg : g < 4 := by
      cases hm
    show (layP _ _).get g = _
    rw [K.layP_below os 4 _ g hg]
    exact K.layO_has _ _ (by decide) g l hm
  obtain ⟨H', hk⟩ := law _ as' ds (a4 _ hhas) hT (Nat.le_add_right _ _)
  refine (K.CK_calls mixed namesOK extOK primOK K.regK_sound hA hk hf hb hR (as' := vs.toArray) (by simpa using a1 e hfit)).mono fun en w' ⟨e', v', h1, _, hR', hv⟩ => ?_
  have := hv.bool_inv
  subst this
  exact ⟨h1, ⟨hR'.os, hR'.tape, hR'.output, hR'.size, fun k hk => (hR'.frame k hk).2⟩⟩
/-- awake, from whatever heap has the listed variables -/
theorem awake_c (an : Nat → K.An) {H : Hp} (hT : hasT H begin0) (hn : 4 ≤ H.next) : K.CK Tryd.prog (K.regK Tryd.prog) ext prim an (.func (.func 9) [] []) [] H = some (.bool true, H) := by
  refine K.ck_prim (p := oneP begin0 4) (by kernel_rfl) ?_
  unfold oneP
  rw [if_pos ⟨rfl, hT, hn⟩]
end Go.Proofs.YtnabkcdchklnpaaDoor.StEnv
namespace Go.Proofs.YtnabkcdchklnpaaDoor.StK
open Go Am Am.K StEnv
set_option linter.unusedVariables false
set_option maxRecDepth 100000
noncomputable section
noncomputable abbrev P : Program := Tryd.prog
noncomputable def anL : List (Nat × An) := [
 (11, (.n (.t [0, 1, 2, 7, 8] (.s [0, 1, 2, 7] (.b (.t [0, 1, 2, 7, 8, 15] (.cd (.n .nl) (.t [0, 1, 2, 7, 23] (.cd (.n .nl) (.n (.cd (.n .nl) .nl))))))) (.s [2, 7] (.n (.cd (.n .nl) .nl)) (.t [] (.n .nl))))))),
 (13, (.q (.n (.cd .nl .nl)) (.s [0] (.n (.v [0] (.lp [0, 1, 14, 15, 16] (.n (.q (.cd .nl .nl) (.s [0, 1, 14, 15, 16] (.v [0, 1, 14, 15, 16] (.n (.t [0, 1, 6, 14, 15, 16] (.t [0, 1, 6, 7, 14, 15, 16] (.q (.n (.cd .nl .nl)) (.n (.s [0, 1, 6, 8, 14, 15, 16] (.n (.cd (.t [0, 1, 6, 8, 14, 15, 16] .nl) .nl)) (.t [0, 1, 6, 14, 15, 16] .nl)))))))) .nl)))))) (.n .nl)))),
 (18, (.n (.t [0, 2, 7, 8] (.s [2, 7] (.b (.n (.cd (.n .nl) (.t [0, 2, 7, 19] (.cd (.n .nl) (.n (.cd (.n .nl) .nl))))))) (.t [2, 7] (.t [] (.n .nl))))))),
 (21, (.n (.t [0, 1, 6] (.s [0, 1] (.b (.n (.cd (.n .nl) (.n (.cd (.n .nl) .nl))))) (.t [] (.n .nl)))))),
 (19, (.q (.n (.cd .nl .nl)) (.t [0, 2] .nl))),
 (23, (.n (.n .nl))),
 (14, .nl),
 (15, (.n (.t [6, 7] (.s [6] (.n (.cd (.n .nl) .nl)) (.n .nl))))),
 (16, (.n (.s [] (.t [5] (.n (.cd (.n .nl) .nl))) (.n .nl)))),
 (20, (.n (.t [0, 1, 2, 7, 8] (.s [0, 1, 2, 7] (.b (.n (.cd (.n .nl) (.n (.cd (.n .nl) (.n (.cd (.n .nl) (.n (.cd (.n .nl) .nl))))))))) (.t [0, 1, 2, 7] (.t [0, 2, 7] (.t [] (.n .nl)))))))),
 (12, (.n (.t [0, 5, 6] (.s [5] (.b (.n (.cd (.n .nl) (.n (.cd (.n .nl) .nl))))) (.t [] (.n .nl)))))),
 (37, (.n (.s [0] (.t [0, 7] (.cd (.n .nl) .nl)) (.t [0] (.s [0] (.t [0, 19] (.cd (.n .nl) .nl)) (.t [] (.n .nl))))))),
 (36, (.n (.t [0, 1, 6] (.s [6] (.b (.t [1, 6, 13] (.cd (.n .nl) (.n (.cd (.n .nl) (.n (.cd (.n .nl) .nl))))))) (.n .nl))))),
 (10, (.n (.s [0] (.t [0, 9] (.cd (.n .nl) .nl)) (.n .nl)))),
 (40, (.n (.n .nl))),
 (38, (.n (.q (.n (.cd (.n .nl) .nl)) (.n .nl)))),
 (39, (.n (.q (.n (.cd (.n .nl) .nl)) (.n .nl)))),
 (25, (.n (.n (.q (.n (.cd (.n .nl) .nl)) (.n (.s [0, 1, 2, 8] (.t [0, 1, 2, 8, 35] (.cd (.n .nl) .nl)) (.q (.n (.cd (.n .nl) .nl)) (.s [0, 2, 8] (.n (.cd (.n (.s [0, 1, 2, 9] (.v [0, 1, 2, 9] (.lp [0, 1, 2, 9] (.s [0, 1, 2, 9] (.t [0, 1, 2, 9, 58] (.cd .nl .nl)) (.b .nl)))) (.t [0, 2, 9] .nl))) .nl)) (.t [] (.n .nl)))))))))),
 (30, (.q (.n (.cd .nl .nl)) (.n (.s [0] (.n (.v [0] (.lp [0, 1, 4, 5] (.s [0, 1, 4, 5] (.t [0, 1, 4, 5, 18] (.cd .nl .nl)) (.s [0, 1, 4, 5] (.v [0, 1, 4, 5] (.t [0, 1, 4, 5, 6] (.q (.n (.cd .nl .nl)) (.n (.s [0, 1, 4, 5, 6, 7] (.n (.cd .nl .nl)) (.n (.s [0, 1, 4, 5, 6, 7] (.n (.cd .nl .nl)) (.s [0, 1, 4, 5, 6] (.n (.cd .nl .nl)) (.t [0, 1, 4, 5] .nl))))))))) .nl))))) .nl)))),
 (27, (.n (.n (.q (.n (.cd (.n .nl) .nl)) (.n (.s [0, 2, 8] (.t [0, 2, 8, 32] (.cd (.n .nl) .nl)) (.q (.n (.cd (.n .nl) .nl)) (.t [0, 2, 8] (.s [] (.t [0, 2, 8, 63] (.cd .nl .nl)) (.n .nl)))))))))),
 (28, (.n (.n (.q (.n (.cd (.n .nl) .nl)) (.q (.n (.cd (.n .nl) .nl)) (.t [] (.n .nl))))))),
 (35, (.n (.t [0, 3] (.s [3] (.n (.v [3] (.lp [0, 3, 4] (.s [0, 3, 4] (.t [0, 3, 4, 15] (.cd .nl .nl)) (.s [0, 3, 4] (.b .nl) .nl))))) (.n .nl))))),
 (31, (.t [0, 1, 2, 10] (.cd .nl .nl))),
 (33, (.n (.n (.s [3] (.n (.v [3] (.lp [0, 3, 4] (.s [0, 3, 4] (.t [0, 3, 4, 11] (.cd .nl .nl)) (.s [0, 3, 4] (.b .nl) .nl))))) (.n .nl))))),
 (32, (.n (.n (.s [0, 1] (.n (.cd (.n .nl) .nl)) (.n .nl))))),
 (34, (.n (.n (.q (.n (.cd (.n .nl) .nl)) (.n .nl))))),
 (29, (.n (.s [0, 1, 2] (.n (.cd (.n .nl) .nl)) (.s [0, 1, 2] (.t [0, 1, 2, 20] (.cd (.n .nl) .nl)) (.s [0, 1, 2] (.n (.cd (.n .nl) .nl)) (.q (.n (.cd (.n .nl) .nl)) (.t [0, 1, 2, 7] (.t [0, 1, 2, 7] (.n (.t [0, 2, 7] (.s [0, 2, 7] (.n (.cd .nl .nl)) (.n (.s [0, 7, 8] (.v [0, 7, 8] (.lp [0, 2, 7, 8] (.s [0, 2, 7, 8] (.t [0, 2, 7, 8, 74] (.cd .nl .nl)) (.b .nl)))) (.t [] (.n .nl))))))))))))))),
 (26, (.n (.n (.q (.n (.cd (.n .nl) .nl)) (.q (.n (.cd (.n .nl) .nl)) (.n (.t [] (.n .nl)))))))),
 (45, (.n (.s [0] (.t [0, 7] (.cd (.n .nl) .nl)) (.t [0] (.s [0] (.t [0, 19] (.cd (.n .nl) .nl)) (.t [] (.n .nl))))))),
 (44, (.n (.s [] (.n (.v [] (.lp [0, 1, 5] (.s [0, 1, 5] (.t [0, 1, 5, 12] (.cd .nl .nl)) (.s [0, 1, 5] (.b (.t [0, 1, 5, 24] (.cd (.n .nl) .nl))) .nl))))) (.n .nl)))),
 (46, .nl),
 (43, (.n (.s [] (.b (.t [0, 1, 2, 7] (.cd (.n .nl) (.n (.cd (.n .nl) (.t [16] (.cd (.n .nl) .nl))))))) (.n .nl)))),
 (8, (.n (.q (.n (.cd (.n .nl) .nl)) (.t [0, 1, 5, 6] (.s [0, 1, 5, 6] (.t [0, 1, 5, 6, 27] (.cd (.n .nl) .nl)) (.s [0, 1, 5] (.t [0, 1, 5, 6, 44] (.cd (.n .nl) .nl)) (.n (.s [] (.n (.v [] (.lp [1, 5, 7, 8] (.q (.n (.cd .nl .nl)) (.s [1, 5, 7, 8] (.b (.t [1, 5, 7, 8, 9] (.s [1, 5, 7, 8, 9] (.t [1, 5, 7, 8, 9, 73] (.cd (.n .nl) .nl)) (.n (.s [1, 5, 7, 8, 9, 10] (.n (.v [1, 5, 7, 8, 9, 10] (.n (.cd .nl (.n (.cd .nl (.n (.cd .nl (.n (.cd .nl (.n (.cd .nl (.n (.cd (.n .nl) (.n (.cd (.n .nl) (.t [1, 5, 7, 8, 9, 10] .nl))))))))))))))))) (.t [1, 5, 7, 8, 9, 10, 11, 12] (.t [1, 5, 7, 8, 9, 10, 11, 12, 13, 14] (.t [1, 5, 7, 8, 233] (.cd (.n .nl) .nl))))))))) .nl))))) (.n .nl))))))))),
 (24, (.n (.s [0, 1] (.t [0, 1, 10] (.cd (.n .nl) .nl)) (.s [] (.n (.v [] (.lp [0, 1, 5] (.q (.n (.cd .nl .nl)) (.s [0, 1, 5] (.b (.t [0, 1, 5, 25] (.cd (.n .nl) .nl))) .nl))))) (.n .nl))))),
 (47, (.n (.s [0] (.n (.v [0] (.lp [0, 3] (.q (.n (.cd .nl .nl)) (.s [0, 3] (.b (.t [0, 3, 37] (.cd (.n .nl) .nl))) .nl))))) (.n .nl)))),
 (0, .nl)]
noncomputable def an (g : Nat) : An := lkA anL g
theorem anOK : PrOK P an := lkA_plain (by kernel_rfl)
noncomputable abbrev cK : CF := CK P (regK P) ext prim an

noncomputable def s_store_Store_Append (J : JT) (G : GT) (cf : CF) (a0 a1 a2 : AV) (H : Hp) : R :=
 J 5 (fun j0 =>
 B2 (cf (.func (.func 36) [] []) [a0, a1] H) fun v1 h2 =>
 B1 (ex 0 v1) fun v3 =>
 B1 (ex 1 v1) fun v4 =>
 j0 a0 a1 a2 v3 v4 h2) (fun x5 x6 x7 x8 x9 h10 =>
 J 4 (fun j11 =>
 J 6 (fun j12 =>
 B1 (ine x9 (.int .i64 0)) fun v13 =>
 G v13 true (fun k14 =>
 k14 x9 h10) (fun v15 h16 =>
 G v13 true (fun k17 =>
 B1 (ine v15 (.int .i64 4)) fun v18 =>
 k17 v18 h16) (fun v19 h20 =>
 B1 (pk v13 v19 (.bool false)) fun v21 =>
 j12 x5 x6 x7 x8 x9 v21 h20) h16) h10) (fun x22 x23 x24 x25 x26 x27 h28 =>
 CD x27 (
 some (x26, h28)) (
 J 5 (fun j29 =>
 B1 (lenx x24) fun v30 =>
 B2 (cf (.func (.func 17) [] []) [x22] h28) fun v31 h32 =>
 B1 (igt v30 v31) fun v33 =>
 G v33 false (fun k34 =>
 k34 x25 h32) (fun v35 h36 =>
 G v33 false (fun k37 =>
 B1 (eqB .eql (pe v35 .ptr0 h36)) fun v38 =>
 k37 v38 h36) (fun v39 h40 =>
 G v33 false (fun k41 =>
 k41 v39 h40) (fun v42 h43 =>
 G v42 true (fun k44 =>
 k44 x22 h43) (fun v45 h46 =>
 G v42 true (fun k47 =>
 B1 (nilA v45) fun v48 =>
 k47 v48 h46) (fun v49 h50 =>
 G v42 true (fun k51 =>
 B1 (fa 1 v49) fun v52 =>
 k51 v52 h50) (fun v53 h54 =>
 G v42 true (fun k55 =>
 B1 (ld v53 h54) fun v56 =>
 k55 v56 h54) (fun v57 h58 =>
 G v42 true (fun k59 =>
 B1 (lenm v57 h58) fun v60 =>
 k59 v60 h58) (fun v61 h62 =>
 G v42 true (fun k63 =>
 B1 (ige v61 (.int .i64 64)) fun v64 =>
 k63 v64 h62) (fun v65 h66 =>
 G v33 false (fun k67 =>
 B1 (pk v42 v65 (.bool false)) fun v68 =>
 k67 v68 h66) (fun v69 h70 =>
 B1 (pk v33 (.bool true) v69) fun v71 =>
 j29 x22 x23 x24 x25 v71 h70) h66) h62) h58) h54) h50) h46) h43) h40) h36) h32) (fun x72 x73 x74 x75 x76 h77 =>
 CD x76 (
 some ((.int .i64 6), h77)) (
 B2 (cf (.func (.func 37) [] []) [x72] h77) fun v78 h79 =>
 B1 (unA .not v78) fun v80 =>
 CD v80 (
 some ((.int .i64 11), h79)) (
 j11 x72 x73 x74 x75 h79)))))) (fun x81 x82 x83 x84 h85 =>
 J 2 (fun j86 =>
 B1 (eqB .eql (pe x84 .ptr0 h85)) fun v87 =>
 CD v87 (
 B1 (fl [.slice0, (.int .i64 0)] []) fun l88 =>
 BN (bx 66 (.agg l88) h85) fun i89 h90 =>
 B1 (nilA x81) fun v91 =>
 B1 (fa 1 v91) fun v92 =>
 B1 (ld v92 h90) fun v93 =>
 B1 (mup .str v93 x82 (.ptr i89 0) h90) fun h94 =>
 j86 x83 (.ptr i89 0) h94) (
 j86 x83 x84 h85)) (fun x95 x96 h97 =>
 J 0 (fun j98 =>
 B1 (nilA x96) fun v99 =>
 B1 (fa 0 v99) fun v100 =>
 B1 (ld v100 h97) fun v101 =>
 B2 (app' 5 1 [(.int .u8 0)] false v101 x95 h97) fun v102 h103 =>
 B1 (nilA x96) fun v104 =>
 B1 (fa 0 v104) fun v105 =>
 B1 (st 1 v105 v102 h103) fun h106 =>
 j98  h106) (fun  h107 =>
 some ((.int .i64 0), h107)))))

theorem e_store_Store_Append (J : JT) (G : GT) (cf : CF) (a0 a1 a2 : AV) (H : Hp) : callF P J G prim an cf 11 [a0, a1, a2] H = s_store_Store_Append J G cf a0 a1 a2 H := by kernel_rfl

theorem c_store_Store_Append {a0 a1 a2 : AV} {H : Hp} {r : AV × Hp} (h : s_store_Store_Append JN GO cK a0 a1 a2 H = some r) : cK (.func (.func 11) [] []) [a0, a1, a2] H = some r := callF_fix (first := []) (cap := []) ((e_store_Store_Append JN GO _ a0 a1 a2 H).trans h)

noncomputable def bl_store_Store_Crash (J : JT) (G : GT) (cf : CF) (j7 : K.Fn 1) (j8 : K.Fn 5) (x9 x10 x11 x12 x13 : AV) (h14 : Hp) : R :=
 B1 (ilt x13 x12) fun v15 =>
 CD v15 (
 J 5 (fun j16 =>
 J 5 (fun j17 =>
 B1 (ia 1 x11 x13) fun v18 =>
 B1 (ld v18 h14) fun v19 =>
 J 6 (fun j20 =>
 B1 (nilA x9) fun v21 =>
 B1 (fa 1 v21) fun v22 =>
 B1 (ld v22 h14) fun v23 =>
 B1 (lkp .str .ptr0 false v23 v19 h14) fun v24 =>
 j20 x9 x10 v24 x11 x12 x13 h14) (fun x25 x26 x27 x28 x29 x30 h31 =>
 J 7 (fun j32 =>
 B1 (nilA x27) fun v33 =>
 B1 (fa 0 v33) fun v34 =>
 B1 (ld v34 h31) fun v35 =>
 B1 (lenx v35) fun v36 =>
 B1 (nilA x27) fun v37 =>
 B1 (fa 1 v37) fun v38 =>
 B1 (ld v38 h31) fun v39 =>
 B1 (isub v36 v39) fun v40 =>
 j32 x25 x26 x27 v40 x28 x29 x30 h31) (fun x41 x42 x43 x44 x45 x46 x47 h48 =>
 B1 (ieq x44 (.int .i64 0)) fun v49 =>
 CD v49 (
 j17 x41 x42 x45 x46 x47 h48) (
 J 7 (fun j50 =>
 B1 (lenx x42) fun v51 =>
 B1 (igt v51 (.int .i64 0)) fun v52 =>
 CD v52 (
 J 7 (fun j53 =>
 B1 (ia 1 x42 (.int .i64 0)) fun v54 =>
 B1 (ld v54 h48) fun v55 =>
 B2 (builtinA P .max #[3, 3] [v55, (.int .i64 0)] h48) fun v56 h57 =>
 B2 (builtinA P .min #[3, 3] [v56, x44] h57) fun v58 h59 =>
 j53 x41 x42 x43 v58 x45 x46 x47 h59) (fun x60 x61 x62 x63 x64 x65 x66 h67 =>
 B1 (sll 1 x61 (some (.int .i64 1)) none none) fun v68 =>
 j50 x60 v68 x62 x63 x64 x65 x66 h67)) (
 j50 x41 x42 x43 (.int .i64 0) x45 x46 x47 h48)) (fun x69 x70 x71 x72 x73 x74 x75 h76 =>
 J 6 (fun j77 =>
 B1 (nilA x71) fun v78 =>
 B1 (fa 0 v78) fun v79 =>
 B1 (ld v79 h76) fun v80 =>
 B1 (nilA x71) fun v81 =>
 B1 (fa 1 v81) fun v82 =>
 B1 (ld v82 h76) fun v83 =>
 B1 (iadd v83 x72) fun v84 =>
 B1 (sll 1 v80 none (some v84) none) fun v85 =>
 B1 (nilA x71) fun v86 =>
 B1 (fa 0 v86) fun v87 =>
 B1 (st 1 v87 v85 h76) fun h88 =>
 j77 x69 x70 x71 x73 x74 x75 h88) (fun x89 x90 x91 x92 x93 x94 h95 =>
 B1 (nilA x91) fun v96 =>
 B1 (fa 0 v96) fun v97 =>
 B1 (ld v97 h95) fun v98 =>
 B1 (lenx v98) fun v99 =>
 B1 (nilA x91) fun v100 =>
 B1 (fa 1 v100) fun v101 =>
 B1 (st 1 v101 v99 h95) fun h102 =>
 j17 x89 x90 x92 x93 x94 h102)))))) (fun x103 x104 x105 x106 x107 h108 =>
 j16 x103 x104 x105 x106 x107 h108)) (fun x109 x110 x111 x112 x113 h114 =>
 B1 (iadd x113 (.int .i64 1)) fun v115 =>
 j8 x109 x110 x111 x112 v115 h114)) (
 j7 x9 h14)

noncomputable def l_store_Store_Crash (J : JT) (G : GT) (cf : CF) (j7 : K.Fn 1) : K.Fn 5 := lpF P an J G cf 13 [1, 0, 1, 0, 0] [0, 1, 14, 15, 16] (fun q t H => match Nat.beq q 0 with | true => app 1 j7 (vals [0] t) H | false => (fun _ _ _ => none) q t H)

theorem rl_store_Store_Crash (J : JT) (G : GT) (cf : CF) (j7 : K.Fn 1) (j8 : K.Fn 5) (x9 x10 x11 x12 x13 : AV) (h14 : Hp) : lpB P an J G cf 13 [1, 0, 1, 0, 0] [0, 1, 14, 15, 16] (fun q t H => match Nat.beq q 0 with | true => app 1 j7 (vals [0] t) H | false => (fun _ _ _ => none) q t H) j8 [x9, x10, x11, x12, x13] h14 = bl_store_Store_Crash J G cf j7 j8 x9 x10 x11 x12 x13 h14 := by kernel_rfl

theorem ql_store_Store_Crash (cf : CF) (j7 : K.Fn 1) (x9 x10 x11 x12 x13 : AV) (h14 : Hp) : l_store_Store_Crash JN GO cf j7 x9 x10 x11 x12 x13 h14 = bl_store_Store_Crash JN GO cf j7 (l_store_Store_Crash JN GO cf j7) x9 x10 x11 x12 x13 h14 := Eq.trans (b := app 5 (l_store_Store_Crash JN GO cf j7) [x9, x10, x11, x12, x13] h14) (by kernel_rfl) ((lpQ cf _ _ _ _ [x9, x10, x11, x12, x13] rfl h14).trans (rl_store_Store_Crash JN GO cf j7 _ x9 x10 x11 x12 x13 h14))

noncomputable def s_store_Store_Crash (J : JT) (G : GT) (cf : CF) (a0 a1 : AV) (H : Hp) : R :=
 B1 (nilA a0) fun v0 =>
 B1 (fa 2 v0) fun v1 =>
 B1 (ld v1 H) fun v2 =>
 CD v2 (
 some (.tuple [], H)) (
 J 1 (fun j3 =>
 B2 (cf (.func (.func 22) [] []) [a0] H) fun v4 h5 =>
 B1 (lenx v4) fun v6 =>
 J 1 (fun j7 =>
 l_store_Store_Crash J G cf j7 a0 a1 v4 v6 (.int .i64 0) h5) (fun x116 h117 =>
 j3 x116 h117)) (fun x118 h119 =>
 B1 (nilA x118) fun v120 =>
 B1 (fa 2 v120) fun v121 =>
 B1 (st 1 v121 (.bool true) h119) fun h122 =>
 B1 (nilA x118) fun v123 =>
 B1 (fa 3 v123) fun v124 =>
 B1 (st 1 v124 (.int .i64 0) h122) fun h125 =>
 some (.tuple [], h125)))

theorem e_store_Store_Crash (J : JT) (G : GT) (cf : CF) (a0 a1 : AV) (H : Hp) : callF P J G prim an cf 13 [a0, a1] H = s_store_Store_Crash J G cf a0 a1 H := by kernel_rfl

theorem c_store_Store_Crash {a0 a1 : AV} {H : Hp} {r : AV × Hp} (h : s_store_Store_Crash JN GO cK a0 a1 H = some r) : cK (.func (.func 13) [] []) [a0, a1] H = some r := callF_fix (first := []) (cap := []) ((e_store_Store_Crash JN GO _ a0 a1 H).trans h)

noncomputable def s_store_Store_Cut (J : JT) (G : GT) (cf : CF) (a0 a1 a2 : AV) (H : Hp) : R :=
 J 4 (fun j0 =>
 B2 (cf (.func (.func 36) [] []) [a0, a1] H) fun v1 h2 =>
 B1 (ex 0 v1) fun v3 =>
 B1 (ex 1 v1) fun v4 =>
 j0 a0 a2 v3 v4 h2) (fun x5 x6 x7 x8 h9 =>
 J 2 (fun j10 =>
 B1 (ine x8 (.int .i64 0)) fun v11 =>
 CD v11 (
 some (x8, h9)) (
 J 4 (fun j12 =>
 B1 (ilt x6 (.int .i64 0)) fun v13 =>
 G v13 false (fun k14 =>
 k14 x6 h9) (fun v15 h16 =>
 G v13 false (fun k17 =>
 k17 x7 h16) (fun v18 h19 =>
 G v13 false (fun k20 =>
 B1 (nilA v18) fun v21 =>
 k20 v21 h19) (fun v22 h23 =>
 G v13 false (fun k24 =>
 B1 (fa 0 v22) fun v25 =>
 k24 v25 h23) (fun v26 h27 =>
 G v13 false (fun k28 =>
 B1 (ld v26 h27) fun v29 =>
 k28 v29 h27) (fun v30 h31 =>
 G v13 false (fun k32 =>
 B1 (lenx v30) fun v33 =>
 k32 v33 h31) (fun v34 h35 =>
 G v13 false (fun k36 =>
 B1 (igt v15 v34) fun v37 =>
 k36 v37 h35) (fun v38 h39 =>
 B1 (pk v13 (.bool true) v38) fun v40 =>
 j12 x5 x6 x7 v40 h39) h35) h31) h27) h23) h19) h16) h9) (fun x41 x42 x43 x44 h45 =>
 CD x44 (
 some ((.int .i64 1), h45)) (
 B2 (cf (.func (.func 37) [] []) [x41] h45) fun v46 h47 =>
 B1 (unA .not v46) fun v48 =>
 CD v48 (
 some ((.int .i64 11), h47)) (
 j10 x42 x43 h47))))) (fun x49 x50 h51 =>
 J 2 (fun j52 =>
 B1 (nilA x50) fun v53 =>
 B1 (fa 0 v53) fun v54 =>
 B1 (ld v54 h51) fun v55 =>
 B1 (sll 1 v55 none (some x49) none) fun v56 =>
 B1 (nilA x50) fun v57 =>
 B1 (fa 0 v57) fun v58 =>
 B1 (st 1 v58 v56 h51) fun h59 =>
 j52 x49 x50 h59) (fun x60 x61 h62 =>
 J 0 (fun j63 =>
 B1 (nilA x61) fun v64 =>
 B1 (fa 1 v64) fun v65 =>
 B1 (ld v65 h62) fun v66 =>
 B2 (builtinA P .min #[3, 3] [v66, x60] h62) fun v67 h68 =>
 B1 (nilA x61) fun v69 =>
 B1 (fa 1 v69) fun v70 =>
 B1 (st 1 v70 v67 h68) fun h71 =>
 j63  h71) (fun  h72 =>
 some ((.int .i64 0), h72)))))

theorem e_store_Store_Cut (J : JT) (G : GT) (cf : CF) (a0 a1 a2 : AV) (H : Hp) : callF P J G prim an cf 18 [a0, a1, a2] H = s_store_Store_Cut J G cf a0 a1 a2 H := by kernel_rfl

theorem c_store_Store_Cut {a0 a1 a2 : AV} {H : Hp} {r : AV × Hp} (h : s_store_Store_Cut JN GO cK a0 a1 a2 H = some r) : cK (.func (.func 18) [] []) [a0, a1, a2] H = some r := callF_fix (first := []) (cap := []) ((e_store_Store_Cut JN GO _ a0 a1 a2 H).trans h)

noncomputable def s_store_Store_Drop (J : JT) (G : GT) (cf : CF) (a0 a1 : AV) (H : Hp) : R :=
 J 3 (fun j0 =>
 B2 (cf (.func (.func 36) [] []) [a0, a1] H) fun v1 h2 =>
 B1 (ex 0 v1) fun v3 =>
 B1 (ex 1 v1) fun v4 =>
 j0 a0 a1 v4 h2) (fun x5 x6 x7 h8 =>
 J 2 (fun j9 =>
 B1 (ine x7 (.int .i64 0)) fun v10 =>
 CD v10 (
 some (x7, h8)) (
 B2 (cf (.func (.func 37) [] []) [x5] h8) fun v11 h12 =>
 B1 (unA .not v11) fun v13 =>
 CD v13 (
 some ((.int .i64 11), h12)) (
 j9 x5 x6 h12))) (fun x14 x15 h16 =>
 J 0 (fun j17 =>
 B1 (nilA x14) fun v18 =>
 B1 (fa 1 v18) fun v19 =>
 B1 (ld v19 h16) fun v20 =>
 B1 (mdel .str v20 x15 h16) fun h21 =>
 j17  h21) (fun  h22 =>
 some ((.int .i64 0), h22))))

theorem e_store_Store_Drop (J : JT) (G : GT) (cf : CF) (a0 a1 : AV) (H : Hp) : callF P J G prim an cf 21 [a0, a1] H = s_store_Store_Drop J G cf a0 a1 H := by kernel_rfl

theorem c_store_Store_Drop {a0 a1 : AV} {H : Hp} {r : AV × Hp} (h : s_store_Store_Drop JN GO cK a0 a1 H = some r) : cK (.func (.func 21) [] []) [a0, a1] H = some r := callF_fix (first := []) (cap := []) ((e_store_Store_Drop JN GO _ a0 a1 H).trans h)

noncomputable def s_store_Store_Fuse (J : JT) (G : GT) (cf : CF) (a0 a1 a2 : AV) (H : Hp) : R :=
 B1 (nilA a0) fun v0 =>
 B1 (fa 2 v0) fun v1 =>
 B1 (ld v1 H) fun v2 =>
 CD v2 (
 some (.tuple [], H)) (
 J 2 (fun j3 =>
 B2 (builtinA P .max #[3, 3] [a1, (.int .i64 0)] H) fun v4 h5 =>
 B1 (nilA a0) fun v6 =>
 B1 (fa 3 v6) fun v7 =>
 B1 (st 1 v7 v4 h5) fun h8 =>
 j3 a0 a2 h8) (fun x9 x10 h11 =>
 B2 (cf (.func (.func 39) [] []) [x10] h11) fun v12 h13 =>
 B1 (nilA x9) fun v14 =>
 B1 (fa 4 v14) fun v15 =>
 B1 (st 1 v15 v12 h13) fun h16 =>
 some (.tuple [], h16)))

theorem e_store_Store_Fuse (J : JT) (G : GT) (cf : CF) (a0 a1 a2 : AV) (H : Hp) : callF P J G prim an cf 19 [a0, a1, a2] H = s_store_Store_Fuse J G cf a0 a1 a2 H := by kernel_rfl

theorem c_store_Store_Fuse {a0 a1 a2 : AV} {H : Hp} {r : AV × Hp} (h : s_store_Store_Fuse JN GO cK a0 a1 a2 H = some r) : cK (.func (.func 19) [] []) [a0, a1, a2] H = some r := callF_fix (first := []) (cap := []) ((e_store_Store_Fuse JN GO _ a0 a1 a2 H).trans h)

noncomputable def s_store_Store_Off (J : JT) (G : GT) (cf : CF) (a0 : AV) (H : Hp) : R :=
 B1 (nilA a0) fun v0 =>
 B1 (fa 2 v0) fun v1 =>
 B1 (ld v1 H) fun v2 =>
 some (v2, H)

theorem e_store_Store_Off (J : JT) (G : GT) (cf : CF) (a0 : AV) (H : Hp) : callF P J G prim an cf 23 [a0] H = s_store_Store_Off J G cf a0 H := by kernel_rfl

theorem c_store_Store_Off {a0 : AV} {H : Hp} {r : AV × Hp} (h : s_store_Store_Off JN GO cK a0 H = some r) : cK (.func (.func 23) [] []) [a0] H = some r := callF_fix (first := []) (cap := []) ((e_store_Store_Off JN GO _ a0 H).trans h)

noncomputable def s_store_Store_On (J : JT) (G : GT) (cf : CF) (a0 : AV) (H : Hp) : R :=
 B1 (nilA a0) fun v0 =>
 B1 (fa 2 v0) fun v1 =>
 B1 (st 1 v1 (.bool false) H) fun h2 =>
 some (.tuple [], h2)

theorem e_store_Store_On (J : JT) (G : GT) (cf : CF) (a0 : AV) (H : Hp) : callF P J G prim an cf 14 [a0] H = s_store_Store_On J G cf a0 H := by kernel_rfl

theorem c_store_Store_On {a0 : AV} {H : Hp} {r : AV × Hp} (h : s_store_Store_On JN GO cK a0 H = some r) : cK (.func (.func 14) [] []) [a0] H = some r := callF_fix (first := []) (cap := []) ((e_store_Store_On JN GO _ a0 H).trans h)

noncomputable def s_store_Store_Read (J : JT) (G : GT) (cf : CF) (a0 a1 : AV) (H : Hp) : R :=
 J 2 (fun j0 =>
 B2 (cf (.func (.func 36) [] []) [a0, a1] H) fun v1 h2 =>
 B1 (ex 0 v1) fun v3 =>
 B1 (ex 1 v1) fun v4 =>
 j0 v3 v4 h2) (fun x5 x6 h7 =>
 J 1 (fun j8 =>
 B1 (ine x6 (.int .i64 0)) fun v9 =>
 CD v9 (
 some (.tuple [.slice0, x6], h7)) (
 j8 x5 h7)) (fun x10 h11 =>
 B1 (nilA x10) fun v12 =>
 B1 (fa 0 v12) fun v13 =>
 B1 (ld v13 h11) fun v14 =>
 B2 (cf (.func (.func 38) [] []) [v14] h11) fun v15 h16 =>
 some (.tuple [v15, (.int .i64 0)], h16)))

theorem e_store_Store_Read (J : JT) (G : GT) (cf : CF) (a0 a1 : AV) (H : Hp) : callF P J G prim an cf 15 [a0, a1] H = s_store_Store_Read J G cf a0 a1 H := by kernel_rfl

theorem c_store_Store_Read {a0 a1 : AV} {H : Hp} {r : AV × Hp} (h : s_store_Store_Read JN GO cK a0 a1 H = some r) : cK (.func (.func 15) [] []) [a0, a1] H = some r := callF_fix (first := []) (cap := []) ((e_store_Store_Read JN GO _ a0 a1 H).trans h)

noncomputable def s_store_Store_Sure (J : JT) (G : GT) (cf : CF) (a0 a1 : AV) (H : Hp) : R :=
 J 0 (fun j0 =>
 J 1 (fun j1 =>
 B1 (nilA a0) fun v2 =>
 B1 (fa 1 v2) fun v3 =>
 B1 (ld v3 H) fun v4 =>
 B1 (lkp .str .ptr0 false v4 a1 H) fun v5 =>
 j1 v5 H) (fun x6 h7 =>
 B1 (eqB .neq (pe x6 .ptr0 h7)) fun v8 =>
 CD v8 (
 B1 (nilA x6) fun v9 =>
 B1 (fa 1 v9) fun v10 =>
 B1 (ld v10 h7) fun v11 =>
 some (v11, h7)) (
 j0  h7))) (fun  h12 =>
 some ((.int .i64 0), h12))

theorem e_store_Store_Sure (J : JT) (G : GT) (cf : CF) (a0 a1 : AV) (H : Hp) : callF P J G prim an cf 16 [a0, a1] H = s_store_Store_Sure J G cf a0 a1 H := by kernel_rfl

theorem c_store_Store_Sure {a0 a1 : AV} {H : Hp} {r : AV × Hp} (h : s_store_Store_Sure JN GO cK a0 a1 H = some r) : cK (.func (.func 16) [] []) [a0, a1] H = some r := callF_fix (first := []) (cap := []) ((e_store_Store_Sure JN GO _ a0 a1 H).trans h)

noncomputable def s_store_Store_Swap (J : JT) (G : GT) (cf : CF) (a0 a1 a2 : AV) (H : Hp) : R :=
 J 5 (fun j0 =>
 B2 (cf (.func (.func 36) [] []) [a0, a1] H) fun v1 h2 =>
 B1 (ex 0 v1) fun v3 =>
 B1 (ex 1 v1) fun v4 =>
 j0 a0 a1 a2 v3 v4 h2) (fun x5 x6 x7 x8 x9 h10 =>
 J 4 (fun j11 =>
 B1 (ieq x9 (.int .i64 11)) fun v12 =>
 CD v12 (
 some (x9, h10)) (
 B2 (cf (.func (.func 40) [] []) [x7] h10) fun v13 h14 =>
 B1 (unA .not v13) fun v15 =>
 CD v15 (
 some ((.int .i64 1), h14)) (
 B1 (ine x9 (.int .i64 0)) fun v16 =>
 CD v16 (
 some (x9, h14)) (
 B2 (cf (.func (.func 37) [] []) [x5] h14) fun v17 h18 =>
 B1 (unA .not v17) fun v19 =>
 CD v19 (
 some ((.int .i64 11), h18)) (
 j11 x5 x6 x7 x8 h18))))) (fun x20 x21 x22 x23 h24 =>
 J 4 (fun j25 =>
 B1 (nilA x23) fun v26 =>
 B1 (fa 0 v26) fun v27 =>
 B1 (ld v27 h24) fun v28 =>
 B1 (lenx v28) fun v29 =>
 B1 (nilA x23) fun v30 =>
 B1 (fa 1 v30) fun v31 =>
 B1 (st 1 v31 v29 h24) fun h32 =>
 j25 x20 x21 x22 x23 h32) (fun x33 x34 x35 x36 h37 =>
 J 3 (fun j38 =>
 B1 (nilA x33) fun v39 =>
 B1 (fa 1 v39) fun v40 =>
 B1 (ld v40 h37) fun v41 =>
 B1 (mdel .str v41 x34 h37) fun h42 =>
 j38 x33 x35 x36 h42) (fun x43 x44 x45 h46 =>
 J 0 (fun j47 =>
 B1 (nilA x43) fun v48 =>
 B1 (fa 1 v48) fun v49 =>
 B1 (ld v49 h46) fun v50 =>
 B1 (mup .str v50 x44 x45 h46) fun h51 =>
 j47  h51) (fun  h52 =>
 some ((.int .i64 0), h52))))))

theorem e_store_Store_Swap (J : JT) (G : GT) (cf : CF) (a0 a1 a2 : AV) (H : Hp) : callF P J G prim an cf 20 [a0, a1, a2] H = s_store_Store_Swap J G cf a0 a1 a2 H := by kernel_rfl

theorem c_store_Store_Swap {a0 a1 a2 : AV} {H : Hp} {r : AV × Hp} (h : s_store_Store_Swap JN GO cK a0 a1 a2 H = some r) : cK (.func (.func 20) [] []) [a0, a1, a2] H = some r := callF_fix (first := []) (cap := []) ((e_store_Store_Swap JN GO _ a0 a1 a2 H).trans h)

noncomputable def s_store_Store_Sync (J : JT) (G : GT) (cf : CF) (a0 a1 : AV) (H : Hp) : R :=
 J 3 (fun j0 =>
 B2 (cf (.func (.func 36) [] []) [a0, a1] H) fun v1 h2 =>
 B1 (ex 0 v1) fun v3 =>
 B1 (ex 1 v1) fun v4 =>
 j0 a0 v3 v4 h2) (fun x5 x6 x7 h8 =>
 J 1 (fun j9 =>
 B1 (ine x7 (.int .i64 0)) fun v10 =>
 CD v10 (
 some (x7, h8)) (
 B2 (cf (.func (.func 37) [] []) [x5] h8) fun v11 h12 =>
 B1 (unA .not v11) fun v13 =>
 CD v13 (
 some ((.int .i64 11), h12)) (
 j9 x6 h12))) (fun x14 h15 =>
 J 0 (fun j16 =>
 B1 (nilA x14) fun v17 =>
 B1 (fa 0 v17) fun v18 =>
 B1 (ld v18 h15) fun v19 =>
 B1 (lenx v19) fun v20 =>
 B1 (nilA x14) fun v21 =>
 B1 (fa 1 v21) fun v22 =>
 B1 (st 1 v22 v20 h15) fun h23 =>
 j16  h23) (fun  h24 =>
 some ((.int .i64 0), h24))))

theorem e_store_Store_Sync (J : JT) (G : GT) (cf : CF) (a0 a1 : AV) (H : Hp) : callF P J G prim an cf 12 [a0, a1] H = s_store_Store_Sync J G cf a0 a1 H := by kernel_rfl

theorem c_store_Store_Sync {a0 a1 : AV} {H : Hp} {r : AV × Hp} (h : s_store_Store_Sync JN GO cK a0 a1 H = some r) : cK (.func (.func 12) [] []) [a0, a1] H = some r := callF_fix (first := []) (cap := []) ((e_store_Store_Sync JN GO _ a0 a1 H).trans h)

noncomputable def s_store_Store_burn (J : JT) (G : GT) (cf : CF) (a0 : AV) (H : Hp) : R :=
 J 1 (fun j0 =>
 J 2 (fun j1 =>
 B1 (nilA a0) fun v2 =>
 B1 (fa 3 v2) fun v3 =>
 B1 (ld v3 H) fun v4 =>
 B1 (ieq v4 (.int .i64 0)) fun v5 =>
 j1 a0 v5 H) (fun x6 x7 h8 =>
 CD x7 (
 some ((.bool true), h8)) (
 j0 x6 h8))) (fun x9 h10 =>
 J 1 (fun j11 =>
 B1 (nilA x9) fun v12 =>
 B1 (fa 3 v12) fun v13 =>
 B1 (ld v13 h10) fun v14 =>
 B1 (isub v14 (.int .i64 1)) fun v15 =>
 B1 (nilA x9) fun v16 =>
 B1 (fa 3 v16) fun v17 =>
 B1 (st 1 v17 v15 h10) fun h18 =>
 j11 x9 h18) (fun x19 h20 =>
 J 1 (fun j21 =>
 J 2 (fun j22 =>
 B1 (nilA x19) fun v23 =>
 B1 (fa 3 v23) fun v24 =>
 B1 (ld v24 h20) fun v25 =>
 B1 (igt v25 (.int .i64 0)) fun v26 =>
 j22 x19 v26 h20) (fun x27 x28 h29 =>
 CD x28 (
 some ((.bool true), h29)) (
 j21 x27 h29))) (fun x30 h31 =>
 J 0 (fun j32 =>
 B1 (nilA x30) fun v33 =>
 B1 (fa 4 v33) fun v34 =>
 B1 (ld v34 h31) fun v35 =>
 B2 (cf (.func (.func 13) [] []) [x30, v35] h31) fun v36 h37 =>
 j32  h37) (fun  h38 =>
 some ((.bool false), h38)))))

theorem e_store_Store_burn (J : JT) (G : GT) (cf : CF) (a0 : AV) (H : Hp) : callF P J G prim an cf 37 [a0] H = s_store_Store_burn J G cf a0 H := by kernel_rfl

theorem c_store_Store_burn {a0 : AV} {H : Hp} {r : AV × Hp} (h : s_store_Store_burn JN GO cK a0 H = some r) : cK (.func (.func 37) [] []) [a0] H = some r := callF_fix (first := []) (cap := []) ((e_store_Store_burn JN GO _ a0 H).trans h)

noncomputable def s_store_Store_of (J : JT) (G : GT) (cf : CF) (a0 a1 : AV) (H : Hp) : R :=
 J 3 (fun j0 =>
 B1 (nilA a0) fun v1 =>
 B1 (fa 1 v1) fun v2 =>
 B1 (ld v2 H) fun v3 =>
 B1 (lkp .str .ptr0 false v3 a1 H) fun v4 =>
 j0 a0 a1 v4 H) (fun x5 x6 x7 h8 =>
 J 1 (fun j9 =>
 J 3 (fun j10 =>
 B1 (nilA x5) fun v11 =>
 B1 (fa 2 v11) fun v12 =>
 B1 (ld v12 h8) fun v13 =>
 j10 x6 x7 v13 h8) (fun x14 x15 x16 h17 =>
 CD x16 (
 some (.tuple [.ptr0, (.int .i64 11)], h17)) (
 B2 (cf (.func (.func 40) [] []) [x14] h17) fun v18 h19 =>
 B1 (unA .not v18) fun v20 =>
 CD v20 (
 some (.tuple [.ptr0, (.int .i64 1)], h19)) (
 B1 (eqB .eql (pe x15 .ptr0 h19)) fun v21 =>
 CD v21 (
 some (.tuple [.ptr0, (.int .i64 4)], h19)) (
 j9 x15 h19))))) (fun x22 h23 =>
 some (.tuple [x22, (.int .i64 0)], h23)))

theorem e_store_Store_of (J : JT) (G : GT) (cf : CF) (a0 a1 : AV) (H : Hp) : callF P J G prim an cf 36 [a0, a1] H = s_store_Store_of J G cf a0 a1 H := by kernel_rfl

theorem c_store_Store_of {a0 a1 : AV} {H : Hp} {r : AV × Hp} (h : s_store_Store_of JN GO cK a0 a1 H = some r) : cK (.func (.func 36) [] []) [a0, a1] H = some r := callF_fix (first := []) (cap := []) ((e_store_Store_of JN GO _ a0 a1 H).trans h)

noncomputable def s_store_New (J : JT) (G : GT) (cf : CF) (a0 : AV) (H : Hp) : R :=
 J 1 (fun j0 =>
 J 2 (fun j1 =>
 B1 (ilt a0 (.int .i64 1)) fun v2 =>
 G v2 false (fun k3 =>
 k3 a0 H) (fun v4 h5 =>
 G v2 false (fun k6 =>
 B1 (igt v4 (.int .i64 16777216)) fun v7 =>
 k6 v7 h5) (fun v8 h9 =>
 B1 (pk v2 (.bool true) v8) fun v10 =>
 j1 a0 v10 h9) h5) H) (fun x11 x12 h13 =>
 CD x12 (
 some (.tuple [.ptr0, (.int .i64 1)], h13)) (
 j0 x11 h13))) (fun x14 h15 =>
 BN (mk0 h15) fun i16 h17 =>
 B1 (fl [(.int .i64 0), .map0, (.bool false), (.int .i64 0), .slice0] [(0, 1, x14), (1, 1, (.map i16))]) fun l18 =>
 BN (bx 61 (.agg l18) h17) fun i19 h20 =>
 some (.tuple [(.ptr i19 0), (.int .i64 0)], h20))

theorem e_store_New (J : JT) (G : GT) (cf : CF) (a0 : AV) (H : Hp) : callF P J G prim an cf 10 [a0] H = s_store_New J G cf a0 H := by kernel_rfl

theorem c_store_New {a0 : AV} {H : Hp} {r : AV × Hp} (h : s_store_New JN GO cK a0 H = some r) : cK (.func (.func 10) [] []) [a0] H = some r := callF_fix (first := []) (cap := []) ((e_store_New JN GO _ a0 H).trans h)

noncomputable def s_store_name (J : JT) (G : GT) (cf : CF) (a0 : AV) (H : Hp) : R :=
 B1 (sne a0 (.str [])) fun v0 =>
 G v0 true (fun k1 =>
 k1 a0 H) (fun v2 h3 =>
 G v0 true (fun k4 =>
 B1 (lens v2) fun v5 =>
 k4 v5 h3) (fun v6 h7 =>
 G v0 true (fun k8 =>
 B1 (ile v6 (.int .i64 16)) fun v9 =>
 k8 v9 h7) (fun v10 h11 =>
 B1 (pk v0 v10 (.bool false)) fun v12 =>
 G v12 true (fun k13 =>
 k13 a0 h11) (fun v14 h15 =>
 G v12 true (fun k16 =>
 B2 (cf (.func (.func 48) [] []) [v14, (.str [97, 98, 99, 100, 101, 102, 103, 104, 105, 106, 107, 108, 109, 110, 111, 112, 113, 114, 115, 116, 117, 118, 119, 120, 121, 122, 48, 49, 50, 51, 52, 53, 54, 55, 56, 57, 45])] h15) fun v17 h18 =>
 k16 v17 h18) (fun v19 h20 =>
 G v12 true (fun k21 =>
 B1 (seq v19 (.str [])) fun v22 =>
 k21 v22 h20) (fun v23 h24 =>
 B1 (pk v12 v23 (.bool false)) fun v25 =>
 some (v25, h24)) h20) h15) h11) h7) h3) H

theorem e_store_name (J : JT) (G : GT) (cf : CF) (a0 : AV) (H : Hp) : callF P J G prim an cf 40 [a0] H = s_store_name J G cf a0 H := by kernel_rfl

theorem c_store_name {a0 : AV} {H : Hp} {r : AV × Hp} (h : s_store_name JN GO cK a0 H = some r) : cK (.func (.func 40) [] []) [a0] H = some r := callF_fix (first := []) (cap := []) ((e_store_name JN GO _ a0 H).trans h)

noncomputable def s_slices_Clone___byte_byte_ (J : JT) (G : GT) (cf : CF) (a0 : AV) (H : Hp) : R :=
 IFT (gA P .eql 22 true a0 .slice0) <| B1 (binA P .eql 22 a0 .slice0 H) fun v0 =>
 CD v0 (
 some (.slice0, H)) (
 B1 (fl [] []) fun l1 =>
 BN (newCells H l1 5 0) fun i2 h3 =>
 B2 (app' 5 1 [(.int .u8 0)] false (.slice i2 0 0 0 true 1) a0 h3) fun v4 h5 =>
 some (v4, h5))

theorem e_slices_Clone___byte_byte_ (J : JT) (G : GT) (cf : CF) (a0 : AV) (H : Hp) : callF P J G prim an cf 38 [a0] H = s_slices_Clone___byte_byte_ J G cf a0 H := by kernel_rfl

theorem c_slices_Clone___byte_byte_ {a0 : AV} {H : Hp} {r : AV × Hp} (h : s_slices_Clone___byte_byte_ JN GO cK a0 H = some r) : cK (.func (.func 38) [] []) [a0] H = some r := callF_fix (first := []) (cap := []) ((e_slices_Clone___byte_byte_ JN GO _ a0 H).trans h)

noncomputable def s_slices_Clone___int_int_ (J : JT) (G : GT) (cf : CF) (a0 : AV) (H : Hp) : R :=
 IFT (gA P .eql 40 true a0 .slice0) <| B1 (binA P .eql 40 a0 .slice0 H) fun v0 =>
 CD v0 (
 some (.slice0, H)) (
 B1 (fl [] []) fun l1 =>
 BN (newCells H l1 3 0) fun i2 h3 =>
 B2 (app' 3 1 [(.int .i64 0)] false (.slice i2 0 0 0 true 1) a0 h3) fun v4 h5 =>
 some (v4, h5))

theorem e_slices_Clone___int_int_ (J : JT) (G : GT) (cf : CF) (a0 : AV) (H : Hp) : callF P J G prim an cf 39 [a0] H = s_slices_Clone___int_int_ J G cf a0 H := by kernel_rfl

theorem c_slices_Clone___int_int_ {a0 : AV} {H : Hp} {r : AV × Hp} (h : s_slices_Clone___int_int_ JN GO cK a0 H = some r) : cK (.func (.func 39) [] []) [a0] H = some r := callF_fix (first := []) (cap := []) ((e_slices_Clone___int_int_ JN GO _ a0 H).trans h)

noncomputable def bl_outriderref1_Store_Append (J : JT) (G : GT) (cf : CF) (j65 : K.Fn 4) (j66 : K.Fn 4) (x67 x68 x69 x70 : AV) (h71 : Hp) : R :=
 J 4 (fun j72 =>
 J 5 (fun j73 =>
 B1 (nilA x67) fun v74 =>
 B1 (fa 1 v74) fun v75 =>
 B1 (ld v75 h71) fun v76 =>
 B1 (lenx v76) fun v77 =>
 B1 (ilt x70 v77) fun v78 =>
 G v78 true (fun k79 =>
 k79 x67 h71) (fun v80 h81 =>
 G v78 true (fun k82 =>
 B1 (nilA v80) fun v83 =>
 k82 v83 h81) (fun v84 h85 =>
 G v78 true (fun k86 =>
 B1 (fa 1 v84) fun v87 =>
 k86 v87 h85) (fun v88 h89 =>
 G v78 true (fun k90 =>
 B1 (ld v88 h89) fun v91 =>
 k90 v91 h89) (fun v92 h93 =>
 G v78 true (fun k94 =>
 k94 x70 h93) (fun v95 h96 =>
 G v78 true (fun k97 =>
 B1 (ia 3 v92 v95) fun v98 =>
 k97 v98 h96) (fun v99 h100 =>
 G v78 true (fun k101 =>
 B1 (fa 0 v99) fun v102 =>
 k101 v102 h100) (fun v103 h104 =>
 G v78 true (fun k105 =>
 B1 (ld v103 h104) fun v106 =>
 k105 v106 h104) (fun v107 h108 =>
 G v78 true (fun k109 =>
 k109 x68 h108) (fun v110 h111 =>
 G v78 true (fun k112 =>
 B1 (slt v107 v110) fun v113 =>
 k112 v113 h111) (fun v114 h115 =>
 B1 (pk v78 v114 (.bool false)) fun v116 =>
 j73 x67 x68 x69 x70 v116 h115) h111) h108) h104) h100) h96) h93) h89) h85) h81) h71) (fun x117 x118 x119 x120 x121 h122 =>
 CD x121 (
 j72 x117 x118 x119 x120 h122) (
 j65 x117 x118 x119 x120 h122))) (fun x123 x124 x125 x126 h127 =>
 B1 (iadd x126 (.int .i64 1)) fun v128 =>
 j66 x123 x124 x125 v128 h127)

noncomputable def l_outriderref1_Store_Append (J : JT) (G : GT) (cf : CF) (j65 : K.Fn 4) : K.Fn 4 := lpF P an J G cf 25 [1, 1, 1, 1, 1, 1, 0, 1, 0, 1, 0, 0, 0] [0, 1, 2, 9] (fun q t H => match Nat.beq q 0 with | true => app 4 j65 (vals [0, 1, 2, 9] t) H | false => (fun _ _ _ => none) q t H)

theorem rl_outriderref1_Store_Append (J : JT) (G : GT) (cf : CF) (j65 : K.Fn 4) (j66 : K.Fn 4) (x67 x68 x69 x70 : AV) (h71 : Hp) : lpB P an J G cf 25 [1, 1, 1, 1, 1, 1, 0, 1, 0, 1, 0, 0, 0] [0, 1, 2, 9] (fun q t H => match Nat.beq q 0 with | true => app 4 j65 (vals [0, 1, 2, 9] t) H | false => (fun _ _ _ => none) q t H) j66 [x67, x68, x69, x70] h71 = bl_outriderref1_Store_Append J G cf j65 j66 x67 x68 x69 x70 h71 := by kernel_rfl

theorem ql_outriderref1_Store_Append (cf : CF) (j65 : K.Fn 4) (x67 x68 x69 x70 : AV) (h71 : Hp) : l_outriderref1_Store_Append JN GO cf j65 x67 x68 x69 x70 h71 = bl_outriderref1_Store_Append JN GO cf j65 (l_outriderref1_Store_Append JN GO cf j65) x67 x68 x69 x70 h71 := Eq.trans (b := app 4 (l_outriderref1_Store_Append JN GO cf j65) [x67, x68, x69, x70] h71) (by kernel_rfl) ((lpQ cf _ _ _ _ [x67, x68, x69, x70] rfl h71).trans (rl_outriderref1_Store_Append JN GO cf j65 _ x67 x68 x69 x70 h71))

noncomputable def s_outriderref1_Store_Append (J : JT) (G : GT) (cf : CF) (a0 a1 a2 : AV) (H : Hp) : R :=
 B2 (cf (.func (.func 43) [] []) [a0, a1, (.bool false)] H) fun v0 h1 =>
 B1 (ine v0 (.int .i64 0)) fun v2 =>
 CD v2 (
 some (v0, h1)) (
 B2 (cf (.func (.func 44) [] []) [a0, a1] h1) fun v3 h4 =>
 J 4 (fun j5 =>
 J 5 (fun j6 =>
 B1 (lenx a2) fun v7 =>
 B2 (cf (.func (.func 35) [] []) [a0] h4) fun v8 h9 =>
 B1 (igt v7 v8) fun v10 =>
 G v10 false (fun k11 =>
 k11 v3 h9) (fun v12 h13 =>
 G v10 false (fun k14 =>
 B1 (ilt v12 (.int .i64 0)) fun v15 =>
 k14 v15 h13) (fun v16 h17 =>
 G v10 false (fun k18 =>
 k18 v16 h17) (fun v19 h20 =>
 G v19 true (fun k21 =>
 k21 a0 h20) (fun v22 h23 =>
 G v19 true (fun k24 =>
 B1 (nilA v22) fun v25 =>
 k24 v25 h23) (fun v26 h27 =>
 G v19 true (fun k28 =>
 B1 (fa 1 v26) fun v29 =>
 k28 v29 h27) (fun v30 h31 =>
 G v19 true (fun k32 =>
 B1 (ld v30 h31) fun v33 =>
 k32 v33 h31) (fun v34 h35 =>
 G v19 true (fun k36 =>
 B1 (lenx v34) fun v37 =>
 k36 v37 h35) (fun v38 h39 =>
 G v19 true (fun k40 =>
 B1 (ige v38 (.int .i64 64)) fun v41 =>
 k40 v41 h39) (fun v42 h43 =>
 G v10 false (fun k44 =>
 B1 (pk v19 v42 (.bool false)) fun v45 =>
 k44 v45 h43) (fun v46 h47 =>
 B1 (pk v10 (.bool true) v46) fun v48 =>
 j6 a0 a1 a2 v3 v48 h47) h43) h39) h35) h31) h27) h23) h20) h17) h13) h9) (fun x49 x50 x51 x52 x53 h54 =>
 CD x53 (
 some ((.int .i64 6), h54)) (
 j5 x49 x50 x51 x52 h54))) (fun x55 x56 x57 x58 h59 =>
 B2 (cf (.func (.func 45) [] []) [x55] h59) fun v60 h61 =>
 CD v60 (
 some ((.int .i64 11), h61)) (
 J 3 (fun j62 =>
 B1 (ilt x58 (.int .i64 0)) fun v63 =>
 CD v63 (
 J 4 (fun j64 =>
 J 4 (fun j65 =>
 l_outriderref1_Store_Append J G cf j65 x55 x56 x57 (.int .i64 0) h61) (fun x129 x130 x131 x132 h133 =>
 j64 x129 x130 x131 x132 h133)) (fun x134 x135 x136 x137 h138 =>
 J 3 (fun j139 =>
 B1 (fl [] []) fun l140 =>
 BN (newCells h138 l140 76 0) fun i141 h142 =>
 B1 (nilA x134) fun v143 =>
 B1 (fa 1 v143) fun v144 =>
 B1 (ld v144 h138) fun v145 =>
 B1 (sll 3 v145 none (some x137) none) fun v146 =>
 B2 (app' 76 3 [(.str []), .slice0, (.int .i64 0)] false (.slice i141 0 0 0 true 3) v146 h142) fun v147 h148 =>
 B1 (fl [(.str []), .slice0, (.int .i64 0)] [(0, 1, x135)]) fun l149 =>
 B1 (fl [(.str []), .slice0, (.int .i64 0)] [(0, 3, (.agg l149))]) fun l150 =>
 BN (newCells h148 l150 76 0) fun i151 h152 =>
 B2 (app' 76 3 [(.str []), .slice0, (.int .i64 0)] false v147 (.slice i151 0 1 1 true 3) h152) fun v153 h154 =>
 B1 (nilA x134) fun v155 =>
 B1 (fa 1 v155) fun v156 =>
 B1 (ld v156 h154) fun v157 =>
 B1 (sll 3 v157 (some x137) none none) fun v158 =>
 B2 (app' 76 3 [(.str []), .slice0, (.int .i64 0)] false v153 v158 h154) fun v159 h160 =>
 B1 (nilA x134) fun v161 =>
 B1 (fa 1 v161) fun v162 =>
 B1 (st 1 v162 v159 h160) fun h163 =>
 B1 (ld v156 h138) fun v164 =>
 SM v157 v164 <|
 B1 (sll 3 v157 (some x137) none none) fun v165 =>
 SM v158 v165 <|
 B1 (ld v156 h148) fun v166 =>
 SM v157 v166 <|
 B1 (sll 3 v157 (some x137) none none) fun v167 =>
 SM v158 v167 <|
 j139 x134 x136 x137 h163) (fun x168 x169 x170 h171 =>
 j62 x168 x169 x170 h171))) (
 j62 x55 x57 x58 h61)) (fun x172 x173 x174 h175 =>
 J 0 (fun j176 =>
 B1 (nilA x172) fun v177 =>
 B1 (fa 1 v177) fun v178 =>
 B1 (ld v178 h175) fun v179 =>
 B1 (fl [] []) fun l180 =>
 BN (newCells h175 l180 5 0) fun i181 h182 =>
 B1 (nilA x172) fun v183 =>
 B1 (fa 1 v183) fun v184 =>
 B1 (ld v184 h175) fun v185 =>
 B1 (ia 3 v185 x174) fun v186 =>
 B1 (fa 1 v186) fun v187 =>
 B1 (ld v187 h175) fun v188 =>
 B2 (app' 5 1 [(.int .u8 0)] false (.slice i181 0 0 0 true 1) v188 h182) fun v189 h190 =>
 B2 (app' 5 1 [(.int .u8 0)] false v189 x173 h190) fun v191 h192 =>
 B1 (ia 3 v179 x174) fun v193 =>
 B1 (fa 1 v193) fun v194 =>
 B1 (st 1 v194 v191 h192) fun h195 =>
 B1 (ld v178 h190) fun v196 =>
 SM v179 v196 <|
 B1 (ld v178 h192) fun v197 =>
 SM v179 v197 <|
 j176  h195) (fun  h198 =>
 some ((.int .i64 0), h198))))))

theorem e_outriderref1_Store_Append (J : JT) (G : GT) (cf : CF) (a0 a1 a2 : AV) (H : Hp) : callF P J G prim an cf 25 [a0, a1, a2] H = s_outriderref1_Store_Append J G cf a0 a1 a2 H := by kernel_rfl

theorem c_outriderref1_Store_Append {a0 a1 a2 : AV} {H : Hp} {r : AV × Hp} (h : s_outriderref1_Store_Append JN GO cK a0 a1 a2 H = some r) : cK (.func (.func 25) [] []) [a0, a1, a2] H = some r := callF_fix (first := []) (cap := []) ((e_outriderref1_Store_Append JN GO _ a0 a1 a2 H).trans h)

noncomputable def bl_outriderref1_Store_Crash (J : JT) (G : GT) (cf : CF) (j4 : K.Fn 1) (j5 : K.Fn 4) (x6 x7 x8 x9 : AV) (h10 : Hp) : R :=
 J 4 (fun j11 =>
 J 5 (fun j12 =>
 B1 (nilA x6) fun v13 =>
 B1 (fa 1 v13) fun v14 =>
 B1 (ld v14 h10) fun v15 =>
 B1 (lenx v15) fun v16 =>
 B1 (ilt x9 v16) fun v17 =>
 j12 x6 x7 x8 x9 v17 h10) (fun x18 x19 x20 x21 x22 h23 =>
 CD x22 (
 j11 x18 x19 x20 x21 h23) (
 j4 x18 h23))) (fun x24 x25 x26 x27 h28 =>
 J 4 (fun j29 =>
 J 4 (fun j30 =>
 J 5 (fun j31 =>
 B1 (nilA x24) fun v32 =>
 B1 (fa 1 v32) fun v33 =>
 B1 (ld v33 h28) fun v34 =>
 B1 (ia 3 v34 x27) fun v35 =>
 B1 (fa 1 v35) fun v36 =>
 B1 (ld v36 h28) fun v37 =>
 B1 (lenx v37) fun v38 =>
 B1 (nilA x24) fun v39 =>
 B1 (fa 1 v39) fun v40 =>
 B1 (ld v40 h28) fun v41 =>
 B1 (ia 3 v41 x27) fun v42 =>
 B1 (fa 2 v42) fun v43 =>
 B1 (ld v43 h28) fun v44 =>
 B1 (isub v38 v44) fun v45 =>
 j31 x24 x25 x26 x27 v45 h28) (fun x46 x47 x48 x49 x50 h51 =>
 B1 (ieq x50 (.int .i64 0)) fun v52 =>
 CD v52 (
 j30 x46 x47 x48 x49 h51) (
 J 6 (fun j53 =>
 B1 (lenx x47) fun v54 =>
 B1 (ilt x48 v54) fun v55 =>
 CD v55 (
 B1 (ia 1 x47 x48) fun v56 =>
 B1 (ld v56 h51) fun v57 =>
 j53 x46 x47 x48 x49 x50 v57 h51) (
 j53 x46 x47 x48 x49 x50 (.int .i64 0) h51)) (fun x58 x59 x60 x61 x62 x63 h64 =>
 B1 (iadd x60 (.int .i64 1)) fun v65 =>
 J 6 (fun j66 =>
 B1 (ilt x63 (.int .i64 0)) fun v67 =>
 CD v67 (
 j66 x58 x59 v65 x61 x62 (.int .i64 0) h64) (
 j66 x58 x59 v65 x61 x62 x63 h64)) (fun x68 x69 x70 x71 x72 x73 h74 =>
 J 5 (fun j75 =>
 B1 (ilt x73 x72) fun v76 =>
 CD v76 (
 j75 x68 x69 x70 x71 x73 h74) (
 j75 x68 x69 x70 x71 x72 h74)) (fun x77 x78 x79 x80 x81 h82 =>
 J 4 (fun j83 =>
 B1 (nilA x77) fun v84 =>
 B1 (fa 1 v84) fun v85 =>
 B1 (ld v85 h82) fun v86 =>
 B1 (nilA x77) fun v87 =>
 B1 (fa 1 v87) fun v88 =>
 B1 (ld v88 h82) fun v89 =>
 B1 (ia 3 v89 x80) fun v90 =>
 B1 (fa 2 v90) fun v91 =>
 B1 (ld v91 h82) fun v92 =>
 B1 (iadd v92 x81) fun v93 =>
 B1 (ia 3 v86 x80) fun v94 =>
 B1 (fa 2 v94) fun v95 =>
 B1 (st 1 v95 v93 h82) fun h96 =>
 j83 x77 x78 x79 x80 h96) (fun x97 x98 x99 x100 h101 =>
 B1 (nilA x97) fun v102 =>
 B1 (fa 1 v102) fun v103 =>
 B1 (ld v103 h101) fun v104 =>
 B1 (fl [] []) fun l105 =>
 BN (newCells h101 l105 5 0) fun i106 h107 =>
 B1 (nilA x97) fun v108 =>
 B1 (fa 1 v108) fun v109 =>
 B1 (ld v109 h101) fun v110 =>
 B1 (ia 3 v110 x100) fun v111 =>
 B1 (fa 1 v111) fun v112 =>
 B1 (ld v112 h101) fun v113 =>
 B1 (nilA x97) fun v114 =>
 B1 (fa 1 v114) fun v115 =>
 B1 (ld v115 h101) fun v116 =>
 B1 (ia 3 v116 x100) fun v117 =>
 B1 (fa 2 v117) fun v118 =>
 B1 (ld v118 h101) fun v119 =>
 B1 (sll 1 v113 none (some v119) none) fun v120 =>
 B2 (app' 5 1 [(.int .u8 0)] false (.slice i106 0 0 0 true 1) v120 h107) fun v121 h122 =>
 B1 (ia 3 v104 x100) fun v123 =>
 B1 (fa 1 v123) fun v124 =>
 B1 (st 1 v124 v121 h122) fun h125 =>
 B1 (ld v103 h122) fun v126 =>
 SM v104 v126 <|
 j30 x97 x98 x99 x100 h125))))))) (fun x127 x128 x129 x130 h131 =>
 j29 x127 x128 x129 x130 h131)) (fun x132 x133 x134 x135 h136 =>
 B1 (iadd x135 (.int .i64 1)) fun v137 =>
 j5 x132 x133 x134 v137 h136))

noncomputable def l_outriderref1_Store_Crash (J : JT) (G : GT) (cf : CF) (j4 : K.Fn 1) : K.Fn 4 := lpF P an J G cf 30 [1, 1, 0, 1, 0, 0] [0, 1, 4, 5] (fun q t H => match Nat.beq q 0 with | true => app 1 j4 (vals [0] t) H | false => (fun _ _ _ => none) q t H)

theorem rl_outriderref1_Store_Crash (J : JT) (G : GT) (cf : CF) (j4 : K.Fn 1) (j5 : K.Fn 4) (x6 x7 x8 x9 : AV) (h10 : Hp) : lpB P an J G cf 30 [1, 1, 0, 1, 0, 0] [0, 1, 4, 5] (fun q t H => match Nat.beq q 0 with | true => app 1 j4 (vals [0] t) H | false => (fun _ _ _ => none) q t H) j5 [x6, x7, x8, x9] h10 = bl_outriderref1_Store_Crash J G cf j4 j5 x6 x7 x8 x9 h10 := by kernel_rfl

theorem ql_outriderref1_Store_Crash (cf : CF) (j4 : K.Fn 1) (x6 x7 x8 x9 : AV) (h10 : Hp) : l_outriderref1_Store_Crash JN GO cf j4 x6 x7 x8 x9 h10 = bl_outriderref1_Store_Crash JN GO cf j4 (l_outriderref1_Store_Crash JN GO cf j4) x6 x7 x8 x9 h10 := Eq.trans (b := app 4 (l_outriderref1_Store_Crash JN GO cf j4) [x6, x7, x8, x9] h10) (by kernel_rfl) ((lpQ cf _ _ _ _ [x6, x7, x8, x9] rfl h10).trans (rl_outriderref1_Store_Crash JN GO cf j4 _ x6 x7 x8 x9 h10))

noncomputable def s_outriderref1_Store_Crash (J : JT) (G : GT) (cf : CF) (a0 a1 : AV) (H : Hp) : R :=
 B1 (nilA a0) fun v0 =>
 B1 (fa 2 v0) fun v1 =>
 B1 (ld v1 H) fun v2 =>
 CD v2 (
 some (.tuple [], H)) (
 J 1 (fun j3 =>
 J 1 (fun j4 =>
 l_outriderref1_Store_Crash J G cf j4 a0 a1 (.int .i64 0) (.int .i64 0) H) (fun x138 h139 =>
 j3 x138 h139)) (fun x140 h141 =>
 B1 (nilA x140) fun v142 =>
 B1 (fa 2 v142) fun v143 =>
 B1 (st 1 v143 (.bool true) h141) fun h144 =>
 B1 (nilA x140) fun v145 =>
 B1 (fa 3 v145) fun v146 =>
 B1 (st 1 v146 (.int .i64 0) h144) fun h147 =>
 some (.tuple [], h147)))

theorem e_outriderref1_Store_Crash (J : JT) (G : GT) (cf : CF) (a0 a1 : AV) (H : Hp) : callF P J G prim an cf 30 [a0, a1] H = s_outriderref1_Store_Crash J G cf a0 a1 H := by kernel_rfl

theorem c_outriderref1_Store_Crash {a0 a1 : AV} {H : Hp} {r : AV × Hp} (h : s_outriderref1_Store_Crash JN GO cK a0 a1 H = some r) : cK (.func (.func 30) [] []) [a0, a1] H = some r := callF_fix (first := []) (cap := []) ((e_outriderref1_Store_Crash JN GO _ a0 a1 H).trans h)

noncomputable def s_outriderref1_Store_Cut (J : JT) (G : GT) (cf : CF) (a0 a1 a2 : AV) (H : Hp) : R :=
 B2 (cf (.func (.func 43) [] []) [a0, a1, (.bool true)] H) fun v0 h1 =>
 B1 (ine v0 (.int .i64 0)) fun v2 =>
 CD v2 (
 some (v0, h1)) (
 B2 (cf (.func (.func 44) [] []) [a0, a1] h1) fun v3 h4 =>
 J 3 (fun j5 =>
 J 4 (fun j6 =>
 B1 (ilt a2 (.int .i64 0)) fun v7 =>
 G v7 false (fun k8 =>
 k8 a2 h4) (fun v9 h10 =>
 G v7 false (fun k11 =>
 k11 a0 h10) (fun v12 h13 =>
 G v7 false (fun k14 =>
 B1 (nilA v12) fun v15 =>
 k14 v15 h13) (fun v16 h17 =>
 G v7 false (fun k18 =>
 B1 (fa 1 v16) fun v19 =>
 k18 v19 h17) (fun v20 h21 =>
 G v7 false (fun k22 =>
 B1 (ld v20 h21) fun v23 =>
 k22 v23 h21) (fun v24 h25 =>
 G v7 false (fun k26 =>
 k26 v3 h25) (fun v27 h28 =>
 G v7 false (fun k29 =>
 B1 (ia 3 v24 v27) fun v30 =>
 k29 v30 h28) (fun v31 h32 =>
 G v7 false (fun k33 =>
 B1 (fa 1 v31) fun v34 =>
 k33 v34 h32) (fun v35 h36 =>
 G v7 false (fun k37 =>
 B1 (ld v35 h36) fun v38 =>
 k37 v38 h36) (fun v39 h40 =>
 G v7 false (fun k41 =>
 B1 (lenx v39) fun v42 =>
 k41 v42 h40) (fun v43 h44 =>
 G v7 false (fun k45 =>
 B1 (igt v9 v43) fun v46 =>
 k45 v46 h44) (fun v47 h48 =>
 B1 (pk v7 (.bool true) v47) fun v49 =>
 j6 a0 a2 v3 v49 h48) h44) h40) h36) h32) h28) h25) h21) h17) h13) h10) h4) (fun x50 x51 x52 x53 h54 =>
 CD x53 (
 some ((.int .i64 1), h54)) (
 j5 x50 x51 x52 h54))) (fun x55 x56 x57 h58 =>
 B2 (cf (.func (.func 45) [] []) [x55] h58) fun v59 h60 =>
 CD v59 (
 some ((.int .i64 11), h60)) (
 J 3 (fun j61 =>
 B1 (nilA x55) fun v62 =>
 B1 (fa 1 v62) fun v63 =>
 B1 (ld v63 h60) fun v64 =>
 B1 (fl [] []) fun l65 =>
 BN (newCells h60 l65 5 0) fun i66 h67 =>
 B1 (nilA x55) fun v68 =>
 B1 (fa 1 v68) fun v69 =>
 B1 (ld v69 h60) fun v70 =>
 B1 (ia 3 v70 x57) fun v71 =>
 B1 (fa 1 v71) fun v72 =>
 B1 (ld v72 h60) fun v73 =>
 B1 (sll 1 v73 none (some x56) none) fun v74 =>
 B2 (app' 5 1 [(.int .u8 0)] false (.slice i66 0 0 0 true 1) v74 h67) fun v75 h76 =>
 B1 (ia 3 v64 x57) fun v77 =>
 B1 (fa 1 v77) fun v78 =>
 B1 (st 1 v78 v75 h76) fun h79 =>
 B1 (ld v63 h76) fun v80 =>
 SM v64 v80 <|
 j61 x55 x56 x57 h79) (fun x81 x82 x83 h84 =>
 J 0 (fun j85 =>
 J 4 (fun j86 =>
 B1 (nilA x81) fun v87 =>
 B1 (fa 1 v87) fun v88 =>
 B1 (ld v88 h84) fun v89 =>
 B1 (ia 3 v89 x83) fun v90 =>
 B1 (fa 2 v90) fun v91 =>
 B1 (ld v91 h84) fun v92 =>
 B1 (igt v92 x82) fun v93 =>
 j86 x81 x82 x83 v93 h84) (fun x94 x95 x96 x97 h98 =>
 CD x97 (
 B1 (nilA x94) fun v99 =>
 B1 (fa 1 v99) fun v100 =>
 B1 (ld v100 h98) fun v101 =>
 B1 (ia 3 v101 x96) fun v102 =>
 B1 (fa 2 v102) fun v103 =>
 B1 (st 1 v103 x95 h98) fun h104 =>
 j85  h104) (
 j85  h98))) (fun  h105 =>
 some ((.int .i64 0), h105))))))

theorem e_outriderref1_Store_Cut (J : JT) (G : GT) (cf : CF) (a0 a1 a2 : AV) (H : Hp) : callF P J G prim an cf 27 [a0, a1, a2] H = s_outriderref1_Store_Cut J G cf a0 a1 a2 H := by kernel_rfl

theorem c_outriderref1_Store_Cut {a0 a1 a2 : AV} {H : Hp} {r : AV × Hp} (h : s_outriderref1_Store_Cut JN GO cK a0 a1 a2 H = some r) : cK (.func (.func 27) [] []) [a0, a1, a2] H = some r := callF_fix (first := []) (cap := []) ((e_outriderref1_Store_Cut JN GO _ a0 a1 a2 H).trans h)

noncomputable def s_outriderref1_Store_Drop (J : JT) (G : GT) (cf : CF) (a0 a1 : AV) (H : Hp) : R :=
 B2 (cf (.func (.func 43) [] []) [a0, a1, (.bool true)] H) fun v0 h1 =>
 B1 (ine v0 (.int .i64 0)) fun v2 =>
 CD v2 (
 some (v0, h1)) (
 B2 (cf (.func (.func 45) [] []) [a0] h1) fun v3 h4 =>
 CD v3 (
 some ((.int .i64 11), h4)) (
 J 0 (fun j5 =>
 B2 (cf (.func (.func 44) [] []) [a0, a1] h4) fun v6 h7 =>
 B2 (cf (.func (.func 46) [] []) [a0, v6] h7) fun v8 h9 =>
 j5  h9) (fun  h10 =>
 some ((.int .i64 0), h10))))

theorem e_outriderref1_Store_Drop (J : JT) (G : GT) (cf : CF) (a0 a1 : AV) (H : Hp) : callF P J G prim an cf 28 [a0, a1] H = s_outriderref1_Store_Drop J G cf a0 a1 H := by kernel_rfl

theorem c_outriderref1_Store_Drop {a0 a1 : AV} {H : Hp} {r : AV × Hp} (h : s_outriderref1_Store_Drop JN GO cK a0 a1 H = some r) : cK (.func (.func 28) [] []) [a0, a1] H = some r := callF_fix (first := []) (cap := []) ((e_outriderref1_Store_Drop JN GO _ a0 a1 H).trans h)

noncomputable def bl_outriderref1_Store_Free (J : JT) (G : GT) (cf : CF) (j8 : K.Fn 1) (j9 : K.Fn 3) (x10 x11 x12 : AV) (h13 : Hp) : R :=
 J 3 (fun j14 =>
 J 4 (fun j15 =>
 B1 (nilA x10) fun v16 =>
 B1 (fa 1 v16) fun v17 =>
 B1 (ld v17 h13) fun v18 =>
 B1 (lenx v18) fun v19 =>
 B1 (ilt x12 v19) fun v20 =>
 j15 x10 x11 x12 v20 h13) (fun x21 x22 x23 x24 h25 =>
 CD x24 (
 j14 x21 x22 x23 h25) (
 j8 x22 h25))) (fun x26 x27 x28 h29 =>
 J 3 (fun j30 =>
 B1 (nilA x26) fun v31 =>
 B1 (fa 1 v31) fun v32 =>
 B1 (ld v32 h29) fun v33 =>
 B1 (ia 3 v33 x28) fun v34 =>
 B1 (fa 1 v34) fun v35 =>
 B1 (ld v35 h29) fun v36 =>
 B1 (lenx v36) fun v37 =>
 B1 (isub x27 v37) fun v38 =>
 j30 x26 v38 x28 h29) (fun x39 x40 x41 h42 =>
 B1 (iadd x41 (.int .i64 1)) fun v43 =>
 j9 x39 x40 v43 h42))

noncomputable def l_outriderref1_Store_Free (J : JT) (G : GT) (cf : CF) (j8 : K.Fn 1) : K.Fn 3 := lpF P an J G cf 35 [1, 1, 0, 1, 0, 0] [0, 3, 4] (fun q t H => match Nat.beq q 0 with | true => app 1 j8 (vals [3] t) H | false => (fun _ _ _ => none) q t H)

theorem rl_outriderref1_Store_Free (J : JT) (G : GT) (cf : CF) (j8 : K.Fn 1) (j9 : K.Fn 3) (x10 x11 x12 : AV) (h13 : Hp) : lpB P an J G cf 35 [1, 1, 0, 1, 0, 0] [0, 3, 4] (fun q t H => match Nat.beq q 0 with | true => app 1 j8 (vals [3] t) H | false => (fun _ _ _ => none) q t H) j9 [x10, x11, x12] h13 = bl_outriderref1_Store_Free J G cf j8 j9 x10 x11 x12 h13 := by kernel_rfl

theorem ql_outriderref1_Store_Free (cf : CF) (j8 : K.Fn 1) (x10 x11 x12 : AV) (h13 : Hp) : l_outriderref1_Store_Free JN GO cf j8 x10 x11 x12 h13 = bl_outriderref1_Store_Free JN GO cf j8 (l_outriderref1_Store_Free JN GO cf j8) x10 x11 x12 h13 := Eq.trans (b := app 3 (l_outriderref1_Store_Free JN GO cf j8) [x10, x11, x12] h13) (by kernel_rfl) ((lpQ cf _ _ _ _ [x10, x11, x12] rfl h13).trans (rl_outriderref1_Store_Free JN GO cf j8 _ x10 x11 x12 h13))

noncomputable def s_outriderref1_Store_Free (J : JT) (G : GT) (cf : CF) (a0 : AV) (H : Hp) : R :=
 J 2 (fun j0 =>
 B1 (nilA a0) fun v1 =>
 B1 (fa 0 v1) fun v2 =>
 B1 (ld v2 H) fun v3 =>
 j0 a0 v3 H) (fun x4 x5 h6 =>
 J 1 (fun j7 =>
 J 1 (fun j8 =>
 l_outriderref1_Store_Free J G cf j8 x4 x5 (.int .i64 0) h6) (fun x44 h45 =>
 j7 x44 h45)) (fun x46 h47 =>
 some (x46, h47)))

theorem e_outriderref1_Store_Free (J : JT) (G : GT) (cf : CF) (a0 : AV) (H : Hp) : callF P J G prim an cf 35 [a0] H = s_outriderref1_Store_Free J G cf a0 H := by kernel_rfl

theorem c_outriderref1_Store_Free {a0 : AV} {H : Hp} {r : AV × Hp} (h : s_outriderref1_Store_Free JN GO cK a0 H = some r) : cK (.func (.func 35) [] []) [a0] H = some r := callF_fix (first := []) (cap := []) ((e_outriderref1_Store_Free JN GO _ a0 H).trans h)

noncomputable def s_outriderref1_Store_Fuse (J : JT) (G : GT) (cf : CF) (a0 a1 a2 : AV) (H : Hp) : R :=
 J 4 (fun j0 =>
 B1 (nilA a0) fun v1 =>
 B1 (fa 2 v1) fun v2 =>
 B1 (ld v2 H) fun v3 =>
 B1 (unA .not v3) fun v4 =>
 j0 a0 a1 a2 v4 H) (fun x5 x6 x7 x8 h9 =>
 CD x8 (
 B1 (fl [] []) fun l10 =>
 BN (newCells h9 l10 3 0) fun i11 h12 =>
 B2 (app' 3 1 [(.int .i64 0)] false (.slice i11 0 0 0 true 1) x7 h12) fun v13 h14 =>
 B1 (nilA x5) fun v15 =>
 B1 (fa 3 v15) fun v16 =>
 B1 (st 1 v16 x6 h14) fun h17 =>
 B1 (nilA x5) fun v18 =>
 B1 (fa 4 v18) fun v19 =>
 B1 (st 1 v19 v13 h17) fun h20 =>
 some (.tuple [], h20)) (
 some (.tuple [], h9)))

theorem e_outriderref1_Store_Fuse (J : JT) (G : GT) (cf : CF) (a0 a1 a2 : AV) (H : Hp) : callF P J G prim an cf 31 [a0, a1, a2] H = s_outriderref1_Store_Fuse J G cf a0 a1 a2 H := by kernel_rfl

theorem c_outriderref1_Store_Fuse {a0 a1 a2 : AV} {H : Hp} {r : AV × Hp} (h : s_outriderref1_Store_Fuse JN GO cK a0 a1 a2 H = some r) : cK (.func (.func 31) [] []) [a0, a1, a2] H = some r := callF_fix (first := []) (cap := []) ((e_outriderref1_Store_Fuse JN GO _ a0 a1 a2 H).trans h)

noncomputable def bl_outriderref1_Store_Names (J : JT) (G : GT) (cf : CF) (j1 : K.Fn 1) (j2 : K.Fn 3) (x3 x4 x5 : AV) (h6 : Hp) : R :=
 J 3 (fun j7 =>
 J 4 (fun j8 =>
 B1 (nilA x3) fun v9 =>
 B1 (fa 1 v9) fun v10 =>
 B1 (ld v10 h6) fun v11 =>
 B1 (lenx v11) fun v12 =>
 B1 (ilt x5 v12) fun v13 =>
 j8 x3 x4 x5 v13 h6) (fun x14 x15 x16 x17 h18 =>
 CD x17 (
 j7 x14 x15 x16 h18) (
 j1 x15 h18))) (fun x19 x20 x21 h22 =>
 J 3 (fun j23 =>
 B1 (nilA x19) fun v24 =>
 B1 (fa 1 v24) fun v25 =>
 B1 (ld v25 h22) fun v26 =>
 B1 (ia 3 v26 x21) fun v27 =>
 B1 (fa 0 v27) fun v28 =>
 B1 (ld v28 h22) fun v29 =>
 B1 (fl [(.str [])] [(0, 1, v29)]) fun l30 =>
 BN (newCells h22 l30 9 0) fun i31 h32 =>
 B2 (app' 9 1 [(.str [])] false x20 (.slice i31 0 1 1 true 1) h32) fun v33 h34 =>
 j23 x19 v33 x21 h34) (fun x35 x36 x37 h38 =>
 B1 (iadd x37 (.int .i64 1)) fun v39 =>
 j2 x35 x36 v39 h38))

noncomputable def l_outriderref1_Store_Names (J : JT) (G : GT) (cf : CF) (j1 : K.Fn 1) : K.Fn 3 := lpF P an J G cf 33 [1, 1, 0, 1, 0, 0] [0, 3, 4] (fun q t H => match Nat.beq q 0 with | true => app 1 j1 (vals [3] t) H | false => (fun _ _ _ => none) q t H)

theorem rl_outriderref1_Store_Names (J : JT) (G : GT) (cf : CF) (j1 : K.Fn 1) (j2 : K.Fn 3) (x3 x4 x5 : AV) (h6 : Hp) : lpB P an J G cf 33 [1, 1, 0, 1, 0, 0] [0, 3, 4] (fun q t H => match Nat.beq q 0 with | true => app 1 j1 (vals [3] t) H | false => (fun _ _ _ => none) q t H) j2 [x3, x4, x5] h6 = bl_outriderref1_Store_Names J G cf j1 j2 x3 x4 x5 h6 := by kernel_rfl

theorem ql_outriderref1_Store_Names (cf : CF) (j1 : K.Fn 1) (x3 x4 x5 : AV) (h6 : Hp) : l_outriderref1_Store_Names JN GO cf j1 x3 x4 x5 h6 = bl_outriderref1_Store_Names JN GO cf j1 (l_outriderref1_Store_Names JN GO cf j1) x3 x4 x5 h6 := Eq.trans (b := app 3 (l_outriderref1_Store_Names JN GO cf j1) [x3, x4, x5] h6) (by kernel_rfl) ((lpQ cf _ _ _ _ [x3, x4, x5] rfl h6).trans (rl_outriderref1_Store_Names JN GO cf j1 _ x3 x4 x5 h6))

noncomputable def s_outriderref1_Store_Names (J : JT) (G : GT) (cf : CF) (a0 : AV) (H : Hp) : R :=
 J 1 (fun j0 =>
 J 1 (fun j1 =>
 l_outriderref1_Store_Names J G cf j1 a0 .slice0 (.int .i64 0) H) (fun x40 h41 =>
 j0 x40 h41)) (fun x42 h43 =>
 some (x42, h43))

theorem e_outriderref1_Store_Names (J : JT) (G : GT) (cf : CF) (a0 : AV) (H : Hp) : callF P J G prim an cf 33 [a0] H = s_outriderref1_Store_Names J G cf a0 H := by kernel_rfl

theorem c_outriderref1_Store_Names {a0 : AV} {H : Hp} {r : AV × Hp} (h : s_outriderref1_Store_Names JN GO cK a0 H = some r) : cK (.func (.func 33) [] []) [a0] H = some r := callF_fix (first := []) (cap := []) ((e_outriderref1_Store_Names JN GO _ a0 H).trans h)

noncomputable def s_outriderref1_Store_Read (J : JT) (G : GT) (cf : CF) (a0 a1 : AV) (H : Hp) : R :=
 B2 (cf (.func (.func 43) [] []) [a0, a1, (.bool true)] H) fun v0 h1 =>
 J 2 (fun j2 =>
 B1 (ine v0 (.int .i64 0)) fun v3 =>
 CD v3 (
 some (.tuple [(.str []), v0], h1)) (
 j2 a0 a1 h1)) (fun x4 x5 h6 =>
 B1 (nilA x4) fun v7 =>
 B1 (fa 1 v7) fun v8 =>
 B1 (ld v8 h6) fun v9 =>
 B2 (cf (.func (.func 44) [] []) [x4, x5] h6) fun v10 h11 =>
 B1 (ia 3 v9 v10) fun v12 =>
 B1 (fa 1 v12) fun v13 =>
 B1 (ld v13 h11) fun v14 =>
 B1 (b2s v14 h11) fun v15 =>
 B1 (ld v8 h11) fun v16 =>
 SM v9 v16 <|
 some (.tuple [v15, (.int .i64 0)], h11))

theorem e_outriderref1_Store_Read (J : JT) (G : GT) (cf : CF) (a0 a1 : AV) (H : Hp) : callF P J G prim an cf 32 [a0, a1] H = s_outriderref1_Store_Read J G cf a0 a1 H := by kernel_rfl

theorem c_outriderref1_Store_Read {a0 a1 : AV} {H : Hp} {r : AV × Hp} (h : s_outriderref1_Store_Read JN GO cK a0 a1 H = some r) : cK (.func (.func 32) [] []) [a0, a1] H = some r := callF_fix (first := []) (cap := []) ((e_outriderref1_Store_Read JN GO _ a0 a1 H).trans h)

noncomputable def s_outriderref1_Store_Sure (J : JT) (G : GT) (cf : CF) (a0 a1 : AV) (H : Hp) : R :=
 B2 (cf (.func (.func 44) [] []) [a0, a1] H) fun v0 h1 =>
 B1 (ilt v0 (.int .i64 0)) fun v2 =>
 CD v2 (
 some ((.int .i64 0), h1)) (
 B1 (nilA a0) fun v3 =>
 B1 (fa 1 v3) fun v4 =>
 B1 (ld v4 h1) fun v5 =>
 B1 (ia 3 v5 v0) fun v6 =>
 B1 (fa 2 v6) fun v7 =>
 B1 (ld v7 h1) fun v8 =>
 some (v8, h1))

theorem e_outriderref1_Store_Sure (J : JT) (G : GT) (cf : CF) (a0 a1 : AV) (H : Hp) : callF P J G prim an cf 34 [a0, a1] H = s_outriderref1_Store_Sure J G cf a0 a1 H := by kernel_rfl

theorem c_outriderref1_Store_Sure {a0 a1 : AV} {H : Hp} {r : AV × Hp} (h : s_outriderref1_Store_Sure JN GO cK a0 a1 H = some r) : cK (.func (.func 34) [] []) [a0, a1] H = some r := callF_fix (first := []) (cap := []) ((e_outriderref1_Store_Sure JN GO _ a0 a1 H).trans h)

noncomputable def bl_outriderref1_Store_Swap (J : JT) (G : GT) (cf : CF) (j97 : K.Fn 3) (j98 : K.Fn 4) (x99 x100 x101 x102 : AV) (h103 : Hp) : R :=
 J 4 (fun j104 =>
 J 5 (fun j105 =>
 B1 (nilA x99) fun v106 =>
 B1 (fa 1 v106) fun v107 =>
 B1 (ld v107 h103) fun v108 =>
 B1 (lenx v108) fun v109 =>
 B1 (ilt x102 v109) fun v110 =>
 G v110 true (fun k111 =>
 k111 x99 h103) (fun v112 h113 =>
 G v110 true (fun k114 =>
 B1 (nilA v112) fun v115 =>
 k114 v115 h113) (fun v116 h117 =>
 G v110 true (fun k118 =>
 B1 (fa 1 v116) fun v119 =>
 k118 v119 h117) (fun v120 h121 =>
 G v110 true (fun k122 =>
 B1 (ld v120 h121) fun v123 =>
 k122 v123 h121) (fun v124 h125 =>
 G v110 true (fun k126 =>
 k126 x102 h125) (fun v127 h128 =>
 G v110 true (fun k129 =>
 B1 (ia 3 v124 v127) fun v130 =>
 k129 v130 h128) (fun v131 h132 =>
 G v110 true (fun k133 =>
 B1 (fa 0 v131) fun v134 =>
 k133 v134 h132) (fun v135 h136 =>
 G v110 true (fun k137 =>
 B1 (ld v135 h136) fun v138 =>
 k137 v138 h136) (fun v139 h140 =>
 G v110 true (fun k141 =>
 k141 x100 h140) (fun v142 h143 =>
 G v110 true (fun k144 =>
 B1 (slt v139 v142) fun v145 =>
 k144 v145 h143) (fun v146 h147 =>
 B1 (pk v110 v146 (.bool false)) fun v148 =>
 j105 x99 x100 x101 x102 v148 h147) h143) h140) h136) h132) h128) h125) h121) h117) h113) h103) (fun x149 x150 x151 x152 x153 h154 =>
 CD x153 (
 j104 x149 x150 x151 x152 h154) (
 j97 x149 x151 x152 h154))) (fun x155 x156 x157 x158 h159 =>
 B1 (iadd x158 (.int .i64 1)) fun v160 =>
 j98 x155 x156 x157 v160 h159)

noncomputable def l_outriderref1_Store_Swap (J : JT) (G : GT) (cf : CF) (j97 : K.Fn 3) : K.Fn 4 := lpF P an J G cf 29 [1, 1, 1, 1, 1, 1, 1, 1, 1, 1, 1, 0, 0, 0] [0, 2, 7, 8] (fun q t H => match Nat.beq q 0 with | true => app 3 j97 (vals [0, 7, 8] t) H | false => (fun _ _ _ => none) q t H)

theorem rl_outriderref1_Store_Swap (J : JT) (G : GT) (cf : CF) (j97 : K.Fn 3) (j98 : K.Fn 4) (x99 x100 x101 x102 : AV) (h103 : Hp) : lpB P an J G cf 29 [1, 1, 1, 1, 1, 1, 1, 1, 1, 1, 1, 0, 0, 0] [0, 2, 7, 8] (fun q t H => match Nat.beq q 0 with | true => app 3 j97 (vals [0, 7, 8] t) H | false => (fun _ _ _ => none) q t H) j98 [x99, x100, x101, x102] h103 = bl_outriderref1_Store_Swap J G cf j97 j98 x99 x100 x101 x102 h103 := by kernel_rfl

theorem ql_outriderref1_Store_Swap (cf : CF) (j97 : K.Fn 3) (x99 x100 x101 x102 : AV) (h103 : Hp) : l_outriderref1_Store_Swap JN GO cf j97 x99 x100 x101 x102 h103 = bl_outriderref1_Store_Swap JN GO cf j97 (l_outriderref1_Store_Swap JN GO cf j97) x99 x100 x101 x102 h103 := Eq.trans (b := app 4 (l_outriderref1_Store_Swap JN GO cf j97) [x99, x100, x101, x102] h103) (by kernel_rfl) ((lpQ cf _ _ _ _ [x99, x100, x101, x102] rfl h103).trans (rl_outriderref1_Store_Swap JN GO cf j97 _ x99 x100 x101 x102 h103))

noncomputable def s_outriderref1_Store_Swap (J : JT) (G : GT) (cf : CF) (a0 a1 a2 : AV) (H : Hp) : R :=
 J 3 (fun j0 =>
 B1 (nilA a0) fun v1 =>
 B1 (fa 2 v1) fun v2 =>
 B1 (ld v2 H) fun v3 =>
 CD v3 (
 some ((.int .i64 11), H)) (
 j0 a0 a1 a2 H)) (fun x4 x5 x6 h7 =>
 J 3 (fun j8 =>
 J 4 (fun j9 =>
 B2 (cf (.func (.func 47) [] []) [x5] h7) fun v10 h11 =>
 B1 (unA .not v10) fun v12 =>
 G v12 false (fun k13 =>
 k13 x6 h11) (fun v14 h15 =>
 G v12 false (fun k16 =>
 B2 (cf (.func (.func 47) [] []) [v14] h15) fun v17 h18 =>
 k16 v17 h18) (fun v19 h20 =>
 G v12 false (fun k21 =>
 B1 (unA .not v19) fun v22 =>
 k21 v22 h20) (fun v23 h24 =>
 B1 (pk v12 (.bool true) v23) fun v25 =>
 j9 x4 x5 x6 v25 h24) h20) h15) h11) (fun x26 x27 x28 x29 h30 =>
 CD x29 (
 some ((.int .i64 1), h30)) (
 j8 x26 x27 x28 h30))) (fun x31 x32 x33 h34 =>
 J 3 (fun j35 =>
 B2 (cf (.func (.func 44) [] []) [x31, x32] h34) fun v36 h37 =>
 B1 (ilt v36 (.int .i64 0)) fun v38 =>
 CD v38 (
 some ((.int .i64 4), h37)) (
 j35 x31 x32 x33 h37)) (fun x39 x40 x41 h42 =>
 B2 (cf (.func (.func 45) [] []) [x39] h42) fun v43 h44 =>
 CD v43 (
 some ((.int .i64 11), h44)) (
 J 4 (fun j45 =>
 B1 (nilA x39) fun v46 =>
 B1 (fa 1 v46) fun v47 =>
 B1 (ld v47 h44) fun v48 =>
 B2 (cf (.func (.func 44) [] []) [x39, x40] h44) fun v49 h50 =>
 B1 (ia 3 v48 v49) fun v51 =>
 B1 (lda 3 v51 h50) fun v52 =>
 BN (newCells h50 [(.str []), .slice0, (.int .i64 0)] 76 0) fun i53 h54 =>
 B1 (st 3 (.ptr i53 0) v52 h54) fun h55 =>
 B1 (ld v47 h50) fun v56 =>
 SM v48 v56 <|
 j45 x39 x40 x41 (.ptr i53 0) h55) (fun x57 x58 x59 x60 h61 =>
 J 4 (fun j62 =>
 B1 (fa 1 x60) fun v63 =>
 B1 (ld v63 h61) fun v64 =>
 B1 (lenx v64) fun v65 =>
 B1 (fa 2 x60) fun v66 =>
 B1 (st 1 v66 v65 h61) fun h67 =>
 j62 x57 x58 x59 x60 h67) (fun x68 x69 x70 x71 h72 =>
 B1 (fa 0 x71) fun v73 =>
 B1 (st 1 v73 x70 h72) fun h74 =>
 J 3 (fun j75 =>
 B2 (cf (.func (.func 44) [] []) [x68, x69] h74) fun v76 h77 =>
 B2 (cf (.func (.func 46) [] []) [x68, v76] h77) fun v78 h79 =>
 j75 x68 x70 x71 h79) (fun x80 x81 x82 h83 =>
 J 3 (fun j84 =>
 B2 (cf (.func (.func 44) [] []) [x80, x81] h83) fun v85 h86 =>
 B1 (ige v85 (.int .i64 0)) fun v87 =>
 CD v87 (
 B2 (cf (.func (.func 44) [] []) [x80, x81] h86) fun v88 h89 =>
 B2 (cf (.func (.func 46) [] []) [x80, v88] h89) fun v90 h91 =>
 j84 x80 x81 x82 h91) (
 j84 x80 x81 x82 h86)) (fun x92 x93 x94 h95 =>
 J 3 (fun j96 =>
 J 3 (fun j97 =>
 l_outriderref1_Store_Swap J G cf j97 x92 x93 x94 (.int .i64 0) h95) (fun x161 x162 x163 h164 =>
 j96 x161 x162 x163 h164)) (fun x165 x166 x167 h168 =>
 J 0 (fun j169 =>
 B1 (fl [] []) fun l170 =>
 BN (newCells h168 l170 76 0) fun i171 h172 =>
 B1 (nilA x165) fun v173 =>
 B1 (fa 1 v173) fun v174 =>
 B1 (ld v174 h168) fun v175 =>
 B1 (sll 3 v175 none (some x167) none) fun v176 =>
 B2 (app' 76 3 [(.str []), .slice0, (.int .i64 0)] false (.slice i171 0 0 0 true 3) v176 h172) fun v177 h178 =>
 B1 (lda 3 x166 h178) fun v179 =>
 B1 (fl [(.str []), .slice0, (.int .i64 0)] [(0, 3, v179)]) fun l180 =>
 BN (newCells h178 l180 76 0) fun i181 h182 =>
 B2 (app' 76 3 [(.str []), .slice0, (.int .i64 0)] false v177 (.slice i181 0 1 1 true 3) h182) fun v183 h184 =>
 B1 (nilA x165) fun v185 =>
 B1 (fa 1 v185) fun v186 =>
 B1 (ld v186 h184) fun v187 =>
 B1 (sll 3 v187 (some x167) none none) fun v188 =>
 B2 (app' 76 3 [(.str []), .slice0, (.int .i64 0)] false v183 v188 h184) fun v189 h190 =>
 B1 (nilA x165) fun v191 =>
 B1 (fa 1 v191) fun v192 =>
 B1 (st 1 v192 v189 h190) fun h193 =>
 B1 (lda 3 x166 h168) fun v194 =>
 SM v179 v194 <|
 B1 (ld v186 h168) fun v195 =>
 SM v187 v195 <|
 B1 (sll 3 v187 (some x167) none none) fun v196 =>
 SM v188 v196 <|
 B1 (ld v186 h178) fun v197 =>
 SM v187 v197 <|
 B1 (sll 3 v187 (some x167) none none) fun v198 =>
 SM v188 v198 <|
 j169  h193) (fun  h199 =>
 some ((.int .i64 0), h199)))))))))))

theorem e_outriderref1_Store_Swap (J : JT) (G : GT) (cf : CF) (a0 a1 a2 : AV) (H : Hp) : callF P J G prim an cf 29 [a0, a1, a2] H = s_outriderref1_Store_Swap J G cf a0 a1 a2 H := by kernel_rfl

theorem c_outriderref1_Store_Swap {a0 a1 a2 : AV} {H : Hp} {r : AV × Hp} (h : s_outriderref1_Store_Swap JN GO cK a0 a1 a2 H = some r) : cK (.func (.func 29) [] []) [a0, a1, a2] H = some r := callF_fix (first := []) (cap := []) ((e_outriderref1_Store_Swap JN GO _ a0 a1 a2 H).trans h)

noncomputable def s_outriderref1_Store_Sync (J : JT) (G : GT) (cf : CF) (a0 a1 : AV) (H : Hp) : R :=
 B2 (cf (.func (.func 43) [] []) [a0, a1, (.bool true)] H) fun v0 h1 =>
 B1 (ine v0 (.int .i64 0)) fun v2 =>
 CD v2 (
 some (v0, h1)) (
 B2 (cf (.func (.func 45) [] []) [a0] h1) fun v3 h4 =>
 CD v3 (
 some ((.int .i64 11), h4)) (
 B2 (cf (.func (.func 44) [] []) [a0, a1] h4) fun v5 h6 =>
 J 0 (fun j7 =>
 B1 (nilA a0) fun v8 =>
 B1 (fa 1 v8) fun v9 =>
 B1 (ld v9 h6) fun v10 =>
 B1 (nilA a0) fun v11 =>
 B1 (fa 1 v11) fun v12 =>
 B1 (ld v12 h6) fun v13 =>
 B1 (ia 3 v13 v5) fun v14 =>
 B1 (fa 1 v14) fun v15 =>
 B1 (ld v15 h6) fun v16 =>
 B1 (lenx v16) fun v17 =>
 B1 (ia 3 v10 v5) fun v18 =>
 B1 (fa 2 v18) fun v19 =>
 B1 (st 1 v19 v17 h6) fun h20 =>
 j7  h20) (fun  h21 =>
 some ((.int .i64 0), h21))))

theorem e_outriderref1_Store_Sync (J : JT) (G : GT) (cf : CF) (a0 a1 : AV) (H : Hp) : callF P J G prim an cf 26 [a0, a1] H = s_outriderref1_Store_Sync J G cf a0 a1 H := by kernel_rfl

theorem c_outriderref1_Store_Sync {a0 a1 : AV} {H : Hp} {r : AV × Hp} (h : s_outriderref1_Store_Sync JN GO cK a0 a1 H = some r) : cK (.func (.func 26) [] []) [a0, a1] H = some r := callF_fix (first := []) (cap := []) ((e_outriderref1_Store_Sync JN GO _ a0 a1 H).trans h)

noncomputable def s_outriderref1_Store_blown (J : JT) (G : GT) (cf : CF) (a0 : AV) (H : Hp) : R :=
 J 1 (fun j0 =>
 J 2 (fun j1 =>
 B1 (nilA a0) fun v2 =>
 B1 (fa 3 v2) fun v3 =>
 B1 (ld v3 H) fun v4 =>
 B1 (ilt v4 (.int .i64 1)) fun v5 =>
 j1 a0 v5 H) (fun x6 x7 h8 =>
 CD x7 (
 some ((.bool false), h8)) (
 j0 x6 h8))) (fun x9 h10 =>
 J 1 (fun j11 =>
 B1 (nilA x9) fun v12 =>
 B1 (fa 3 v12) fun v13 =>
 B1 (ld v13 h10) fun v14 =>
 B1 (isub v14 (.int .i64 1)) fun v15 =>
 B1 (nilA x9) fun v16 =>
 B1 (fa 3 v16) fun v17 =>
 B1 (st 1 v17 v15 h10) fun h18 =>
 j11 x9 h18) (fun x19 h20 =>
 J 1 (fun j21 =>
 J 2 (fun j22 =>
 B1 (nilA x19) fun v23 =>
 B1 (fa 3 v23) fun v24 =>
 B1 (ld v24 h20) fun v25 =>
 B1 (igt v25 (.int .i64 0)) fun v26 =>
 j22 x19 v26 h20) (fun x27 x28 h29 =>
 CD x28 (
 some ((.bool false), h29)) (
 j21 x27 h29))) (fun x30 h31 =>
 J 0 (fun j32 =>
 B1 (nilA x30) fun v33 =>
 B1 (fa 4 v33) fun v34 =>
 B1 (ld v34 h31) fun v35 =>
 B2 (cf (.func (.func 30) [] []) [x30, v35] h31) fun v36 h37 =>
 j32  h37) (fun  h38 =>
 some ((.bool true), h38)))))

theorem e_outriderref1_Store_blown (J : JT) (G : GT) (cf : CF) (a0 : AV) (H : Hp) : callF P J G prim an cf 45 [a0] H = s_outriderref1_Store_blown J G cf a0 H := by kernel_rfl

theorem c_outriderref1_Store_blown {a0 : AV} {H : Hp} {r : AV × Hp} (h : s_outriderref1_Store_blown JN GO cK a0 H = some r) : cK (.func (.func 45) [] []) [a0] H = some r := callF_fix (first := []) (cap := []) ((e_outriderref1_Store_blown JN GO _ a0 H).trans h)

noncomputable def bl_outriderref1_Store_find (J : JT) (G : GT) (cf : CF) (j1 : K.Fn 0) (j2 : K.Fn 3) (x3 x4 x5 : AV) (h6 : Hp) : R :=
 J 3 (fun j7 =>
 J 4 (fun j8 =>
 B1 (nilA x3) fun v9 =>
 B1 (fa 1 v9) fun v10 =>
 B1 (ld v10 h6) fun v11 =>
 B1 (lenx v11) fun v12 =>
 B1 (ilt x5 v12) fun v13 =>
 j8 x3 x4 x5 v13 h6) (fun x14 x15 x16 x17 h18 =>
 CD x17 (
 j7 x14 x15 x16 h18) (
 j1  h18))) (fun x19 x20 x21 h22 =>
 J 3 (fun j23 =>
 J 4 (fun j24 =>
 B1 (nilA x19) fun v25 =>
 B1 (fa 1 v25) fun v26 =>
 B1 (ld v26 h22) fun v27 =>
 B1 (ia 3 v27 x21) fun v28 =>
 B1 (fa 0 v28) fun v29 =>
 B1 (ld v29 h22) fun v30 =>
 B1 (seq v30 x20) fun v31 =>
 j24 x19 x20 x21 v31 h22) (fun x32 x33 x34 x35 h36 =>
 CD x35 (
 some (x34, h36)) (
 j23 x32 x33 x34 h36))) (fun x37 x38 x39 h40 =>
 B1 (iadd x39 (.int .i64 1)) fun v41 =>
 j2 x37 x38 v41 h40))

noncomputable def l_outriderref1_Store_find (J : JT) (G : GT) (cf : CF) (j1 : K.Fn 0) : K.Fn 3 := lpF P an J G cf 44 [1, 0, 1, 0, 0] [0, 1, 5] (fun q t H => match Nat.beq q 0 with | true => app 0 j1 (vals [] t) H | false => (fun _ _ _ => none) q t H)

theorem rl_outriderref1_Store_find (J : JT) (G : GT) (cf : CF) (j1 : K.Fn 0) (j2 : K.Fn 3) (x3 x4 x5 : AV) (h6 : Hp) : lpB P an J G cf 44 [1, 0, 1, 0, 0] [0, 1, 5] (fun q t H => match Nat.beq q 0 with | true => app 0 j1 (vals [] t) H | false => (fun _ _ _ => none) q t H) j2 [x3, x4, x5] h6 = bl_outriderref1_Store_find J G cf j1 j2 x3 x4 x5 h6 := by kernel_rfl

theorem ql_outriderref1_Store_find (cf : CF) (j1 : K.Fn 0) (x3 x4 x5 : AV) (h6 : Hp) : l_outriderref1_Store_find JN GO cf j1 x3 x4 x5 h6 = bl_outriderref1_Store_find JN GO cf j1 (l_outriderref1_Store_find JN GO cf j1) x3 x4 x5 h6 := Eq.trans (b := app 3 (l_outriderref1_Store_find JN GO cf j1) [x3, x4, x5] h6) (by kernel_rfl) ((lpQ cf _ _ _ _ [x3, x4, x5] rfl h6).trans (rl_outriderref1_Store_find JN GO cf j1 _ x3 x4 x5 h6))

noncomputable def s_outriderref1_Store_find (J : JT) (G : GT) (cf : CF) (a0 a1 : AV) (H : Hp) : R :=
 J 0 (fun j0 =>
 J 0 (fun j1 =>
 l_outriderref1_Store_find J G cf j1 a0 a1 (.int .i64 0) H) (fun  h42 =>
 j0  h42)) (fun  h43 =>
 some ((.int .i64 (-1)), h43))

theorem e_outriderref1_Store_find (J : JT) (G : GT) (cf : CF) (a0 a1 : AV) (H : Hp) : callF P J G prim an cf 44 [a0, a1] H = s_outriderref1_Store_find J G cf a0 a1 H := by kernel_rfl

theorem c_outriderref1_Store_find {a0 a1 : AV} {H : Hp} {r : AV × Hp} (h : s_outriderref1_Store_find JN GO cK a0 a1 H = some r) : cK (.func (.func 44) [] []) [a0, a1] H = some r := callF_fix (first := []) (cap := []) ((e_outriderref1_Store_find JN GO _ a0 a1 H).trans h)

noncomputable def s_outriderref1_Store_gone (J : JT) (G : GT) (cf : CF) (a0 a1 : AV) (H : Hp) : R :=
 B1 (fl [] []) fun l0 =>
 BN (newCells H l0 76 0) fun i1 h2 =>
 B1 (nilA a0) fun v3 =>
 B1 (fa 1 v3) fun v4 =>
 B1 (ld v4 H) fun v5 =>
 B1 (sll 3 v5 none (some a1) none) fun v6 =>
 B2 (app' 76 3 [(.str []), .slice0, (.int .i64 0)] false (.slice i1 0 0 0 true 3) v6 h2) fun v7 h8 =>
 B1 (nilA a0) fun v9 =>
 B1 (fa 1 v9) fun v10 =>
 B1 (ld v10 h8) fun v11 =>
 B1 (iadd a1 (.int .i64 1)) fun v12 =>
 B1 (sll 3 v11 (some v12) none none) fun v13 =>
 B2 (app' 76 3 [(.str []), .slice0, (.int .i64 0)] false v7 v13 h8) fun v14 h15 =>
 B1 (nilA a0) fun v16 =>
 B1 (fa 1 v16) fun v17 =>
 B1 (st 1 v17 v14 h15) fun h18 =>
 B1 (ld v10 H) fun v19 =>
 SM v11 v19 <|
 B1 (sll 3 v11 (some v12) none none) fun v20 =>
 SM v13 v20 <|
 some (.tuple [], h18)

theorem e_outriderref1_Store_gone (J : JT) (G : GT) (cf : CF) (a0 a1 : AV) (H : Hp) : callF P J G prim an cf 46 [a0, a1] H = s_outriderref1_Store_gone J G cf a0 a1 H := by kernel_rfl

theorem c_outriderref1_Store_gone {a0 a1 : AV} {H : Hp} {r : AV × Hp} (h : s_outriderref1_Store_gone JN GO cK a0 a1 H = some r) : cK (.func (.func 46) [] []) [a0, a1] H = some r := callF_fix (first := []) (cap := []) ((e_outriderref1_Store_gone JN GO _ a0 a1 H).trans h)

noncomputable def s_outriderref1_Store_look (J : JT) (G : GT) (cf : CF) (a0 a1 a2 : AV) (H : Hp) : R :=
 J 0 (fun j0 =>
 J 4 (fun j1 =>
 B1 (nilA a0) fun v2 =>
 B1 (fa 2 v2) fun v3 =>
 B1 (ld v3 H) fun v4 =>
 j1 a0 a1 a2 v4 H) (fun x5 x6 x7 x8 h9 =>
 CD x8 (
 some ((.int .i64 11), h9)) (
 B2 (cf (.func (.func 47) [] []) [x6] h9) fun v10 h11 =>
 B1 (unA .not v10) fun v12 =>
 CD v12 (
 some ((.int .i64 1), h11)) (
 J 1 (fun j13 =>
 G x7 true (fun k14 =>
 k14 x5 h11) (fun v15 h16 =>
 G x7 true (fun k17 =>
 k17 x6 h16) (fun v18 h19 =>
 G x7 true (fun k20 =>
 B2 (cf (.func (.func 44) [] []) [v15, v18] h19) fun v21 h22 =>
 k20 v21 h22) (fun v23 h24 =>
 G x7 true (fun k25 =>
 B1 (ilt v23 (.int .i64 0)) fun v26 =>
 k25 v26 h24) (fun v27 h28 =>
 B1 (pk x7 v27 (.bool false)) fun v29 =>
 j13 v29 h28) h24) h19) h16) h11) (fun x30 h31 =>
 CD x30 (
 some ((.int .i64 4), h31)) (
 j0  h31)))))) (fun  h32 =>
 some ((.int .i64 0), h32))

theorem e_outriderref1_Store_look (J : JT) (G : GT) (cf : CF) (a0 a1 a2 : AV) (H : Hp) : callF P J G prim an cf 43 [a0, a1, a2] H = s_outriderref1_Store_look J G cf a0 a1 a2 H := by kernel_rfl

theorem c_outriderref1_Store_look {a0 a1 a2 : AV} {H : Hp} {r : AV × Hp} (h : s_outriderref1_Store_look JN GO cK a0 a1 a2 H = some r) : cK (.func (.func 43) [] []) [a0, a1, a2] H = some r := callF_fix (first := []) (cap := []) ((e_outriderref1_Store_look JN GO _ a0 a1 a2 H).trans h)

noncomputable def bl_outriderlaw5_StorePlays (J : JT) (G : GT) (cf : CF) (j90 : K.Fn 0) (j91 : K.Fn 4) (x92 x93 x94 x95 : AV) (h96 : Hp) : R :=
 B1 (lenx x92) fun v97 =>
 B1 (ilt x95 v97) fun v98 =>
 CD v98 (
 J 4 (fun j99 =>
 J 5 (fun j100 =>
 B1 (ia 6 x92 x95) fun v101 =>
 B1 (lda 6 v101 h96) fun v102 =>
 BN (newCells h96 [(.int .i64 0), (.int .i64 0), (.str []), (.str []), .slice0, .slice0] 53 0) fun i103 h104 =>
 B1 (st 6 (.ptr i103 0) v102 h104) fun h105 =>
 j100 x92 x93 x94 x95 (.ptr i103 0) h105) (fun x106 x107 x108 x109 x110 h111 =>
 J 5 (fun j112 =>
 J 6 (fun j113 =>
 B1 (fa 4 x110) fun v114 =>
 B1 (ld v114 h111) fun v115 =>
 B1 (lenx v115) fun v116 =>
 B1 (igt v116 (.int .i64 2000)) fun v117 =>
 G v117 false (fun k118 =>
 B1 (fa 5 x110) fun v119 =>
 k118 v119 h111) (fun v120 h121 =>
 G v117 false (fun k122 =>
 B1 (ld v120 h121) fun v123 =>
 k122 v123 h121) (fun v124 h125 =>
 G v117 false (fun k126 =>
 B1 (lenx v124) fun v127 =>
 k126 v127 h125) (fun v128 h129 =>
 G v117 false (fun k130 =>
 B1 (igt v128 (.int .i64 70)) fun v131 =>
 k130 v131 h129) (fun v132 h133 =>
 B1 (pk v117 (.bool true) v132) fun v134 =>
 j113 x106 x107 x108 x109 x110 v134 h133) h129) h125) h121) h111) (fun x135 x136 x137 x138 x139 x140 h141 =>
 CD x140 (
 some ((.bool true), h141)) (
 j112 x135 x136 x137 x138 x139 h141))) (fun x142 x143 x144 x145 x146 h147 =>
 J 6 (fun j148 =>
 B1 (fa 0 x146) fun v149 =>
 B1 (ld v149 h147) fun v150 =>
 J 6 (fun j151 =>
 B1 (ieq v150 (.int .i64 0)) fun v152 =>
 CD v152 (
 B1 (fa 2 x146) fun v153 =>
 B1 (ld v153 h147) fun v154 =>
 B1 (fa 4 x146) fun v155 =>
 B1 (ld v155 h147) fun v156 =>
 B2 (cf (.func (.func 11) [] []) [x143, v154, v156] h147) fun v157 h158 =>
 B1 (fa 2 x146) fun v159 =>
 B1 (ld v159 h158) fun v160 =>
 B1 (fa 4 x146) fun v161 =>
 B1 (ld v161 h158) fun v162 =>
 B2 (cf (.func (.func 25) [] []) [x144, v160, v162] h158) fun v163 h164 =>
 B1 (ieq v157 v163) fun v165 =>
 B1 (ld v159 h147) fun v166 =>
 SM v160 v166 <|
 B1 (ld v161 h147) fun v167 =>
 SM v162 v167 <|
 j151 x142 x143 x144 x145 x146 v165 h164) (
 B1 (ieq v150 (.int .i64 1)) fun v168 =>
 CD v168 (
 B1 (fa 2 x146) fun v169 =>
 B1 (ld v169 h147) fun v170 =>
 B2 (cf (.func (.func 12) [] []) [x143, v170] h147) fun v171 h172 =>
 B1 (fa 2 x146) fun v173 =>
 B1 (ld v173 h172) fun v174 =>
 B2 (cf (.func (.func 26) [] []) [x144, v174] h172) fun v175 h176 =>
 B1 (ieq v171 v175) fun v177 =>
 B1 (ld v173 h147) fun v178 =>
 SM v174 v178 <|
 j151 x142 x143 x144 x145 x146 v177 h176) (
 B1 (ieq v150 (.int .i64 2)) fun v179 =>
 CD v179 (
 B1 (fa 2 x146) fun v180 =>
 B1 (ld v180 h147) fun v181 =>
 B1 (fa 1 x146) fun v182 =>
 B1 (ld v182 h147) fun v183 =>
 B2 (cf (.func (.func 18) [] []) [x143, v181, v183] h147) fun v184 h185 =>
 B1 (fa 2 x146) fun v186 =>
 B1 (ld v186 h185) fun v187 =>
 B1 (fa 1 x146) fun v188 =>
 B1 (ld v188 h185) fun v189 =>
 B2 (cf (.func (.func 27) [] []) [x144, v187, v189] h185) fun v190 h191 =>
 B1 (ieq v184 v190) fun v192 =>
 B1 (ld v186 h147) fun v193 =>
 SM v187 v193 <|
 B1 (ld v188 h147) fun v194 =>
 SM v189 v194 <|
 j151 x142 x143 x144 x145 x146 v192 h191) (
 B1 (ieq v150 (.int .i64 3)) fun v195 =>
 CD v195 (
 B1 (fa 2 x146) fun v196 =>
 B1 (ld v196 h147) fun v197 =>
 B2 (cf (.func (.func 21) [] []) [x143, v197] h147) fun v198 h199 =>
 B1 (fa 2 x146) fun v200 =>
 B1 (ld v200 h199) fun v201 =>
 B2 (cf (.func (.func 28) [] []) [x144, v201] h199) fun v202 h203 =>
 B1 (ieq v198 v202) fun v204 =>
 B1 (ld v200 h147) fun v205 =>
 SM v201 v205 <|
 j151 x142 x143 x144 x145 x146 v204 h203) (
 B1 (ieq v150 (.int .i64 4)) fun v206 =>
 CD v206 (
 B1 (fa 2 x146) fun v207 =>
 B1 (ld v207 h147) fun v208 =>
 B1 (fa 3 x146) fun v209 =>
 B1 (ld v209 h147) fun v210 =>
 B2 (cf (.func (.func 20) [] []) [x143, v208, v210] h147) fun v211 h212 =>
 B1 (fa 2 x146) fun v213 =>
 B1 (ld v213 h212) fun v214 =>
 B1 (fa 3 x146) fun v215 =>
 B1 (ld v215 h212) fun v216 =>
 B2 (cf (.func (.func 29) [] []) [x144, v214, v216] h212) fun v217 h218 =>
 B1 (ieq v211 v217) fun v219 =>
 B1 (ld v213 h147) fun v220 =>
 SM v214 v220 <|
 B1 (ld v215 h147) fun v221 =>
 SM v216 v221 <|
 j151 x142 x143 x144 x145 x146 v219 h218) (
 B1 (ieq v150 (.int .i64 5)) fun v222 =>
 CD v222 (
 B1 (fa 5 x146) fun v223 =>
 B1 (ld v223 h147) fun v224 =>
 B2 (cf (.func (.func 13) [] []) [x143, v224] h147) fun v225 h226 =>
 B1 (fa 5 x146) fun v227 =>
 B1 (ld v227 h226) fun v228 =>
 B2 (cf (.func (.func 30) [] []) [x144, v228] h226) fun v229 h230 =>
 j151 x142 x143 x144 x145 x146 (.bool true) h230) (
 B1 (ieq v150 (.int .i64 6)) fun v231 =>
 CD v231 (
 B2 (cf (.func (.func 14) [] []) [x143] h147) fun v232 h233 =>
 B1 (nilA x144) fun v234 =>
 B1 (fa 2 v234) fun v235 =>
 B1 (st 1 v235 (.bool false) h233) fun h236 =>
 j151 x142 x143 x144 x145 x146 (.bool true) h236) (
 J 6 (fun j237 =>
 B1 (fa 1 x146) fun v238 =>
 B1 (ld v238 h147) fun v239 =>
 B1 (fa 5 x146) fun v240 =>
 B1 (ld v240 h147) fun v241 =>
 B2 (cf (.func (.func 19) [] []) [x143, v239, v241] h147) fun v242 h243 =>
 j237 x142 x143 x144 x145 x146 (.bool true) h243) (fun x244 x245 x246 x247 x248 x249 h250 =>
 B1 (fa 1 x248) fun v251 =>
 B1 (ld v251 h250) fun v252 =>
 B1 (fa 5 x248) fun v253 =>
 B1 (ld v253 h250) fun v254 =>
 B2 (cf (.func (.func 31) [] []) [x246, v252, v254] h250) fun v255 h256 =>
 j151 x244 x245 x246 x247 x248 x249 h256))))))))) (fun x257 x258 x259 x260 x261 x262 h263 =>
 j148 x257 x258 x259 x260 x261 x262 h263)) (fun x264 x265 x266 x267 x268 x269 h270 =>
 J 8 (fun j271 =>
 B1 (fa 2 x268) fun v272 =>
 B1 (ld v272 h270) fun v273 =>
 B2 (cf (.func (.func 15) [] []) [x265, v273] h270) fun v274 h275 =>
 B1 (ex 0 v274) fun v276 =>
 B1 (ex 1 v274) fun v277 =>
 j271 x264 x265 x266 x267 x268 x269 v276 v277 h275) (fun x278 x279 x280 x281 x282 x283 x284 x285 h286 =>
 J 10 (fun j287 =>
 B1 (fa 2 x282) fun v288 =>
 B1 (ld v288 h286) fun v289 =>
 B2 (cf (.func (.func 32) [] []) [x280, v289] h286) fun v290 h291 =>
 B1 (ex 0 v290) fun v292 =>
 B1 (ex 1 v290) fun v293 =>
 j287 x278 x279 x280 x281 x282 x283 x284 x285 v292 v293 h291) (fun x294 x295 x296 x297 x298 x299 x300 x301 x302 x303 h304 =>
 J 5 (fun j305 =>
 B1 (unA .not x299) fun v306 =>
 GD2 v306 false (
 B1 (ine x301 x303) fun v307 =>
 GD2 v307 false (
 B1 (b2s x300 h304) fun v308 =>
 B1 (sne v308 x302) fun v309 =>
 GD2 v309 false (
 B2 (cf (.func (.func 22) [] []) [x295] h304) fun v310 h311 =>
 B2 (cf (.func (.func 33) [] []) [x296] h311) fun v312 h313 =>
 B2 (cf (.func (.func 24) [] []) [v310, v312] h313) fun v314 h315 =>
 B1 (unA .not v314) fun v316 =>
 GD2 v316 false (
 B1 (fa 2 x298) fun v317 =>
 B1 (ld v317 h315) fun v318 =>
 B2 (cf (.func (.func 16) [] []) [x295, v318] h315) fun v319 h320 =>
 B1 (fa 2 x298) fun v321 =>
 B1 (ld v321 h320) fun v322 =>
 B2 (cf (.func (.func 34) [] []) [x296, v322] h320) fun v323 h324 =>
 B1 (ine v319 v323) fun v325 =>
 GD2 v325 false (
 B2 (cf (.func (.func 17) [] []) [x295] h324) fun v326 h327 =>
 B2 (cf (.func (.func 35) [] []) [x296] h327) fun v328 h329 =>
 B1 (ine v326 v328) fun v330 =>
 GD2 v330 false (
 B2 (cf (.func (.func 23) [] []) [x295] h329) fun v331 h332 =>
 B1 (nilA x296) fun v333 =>
 B1 (fa 2 v333) fun v334 =>
 B1 (ld v334 h332) fun v335 =>
 B1 (bb .neq v331 v335) fun v336 =>
 B1 (ld v321 h315) fun v337 =>
 SM v322 v337 <|
 B1 (ld v334 h329) fun v338 =>
 SM v335 v338 <|
 j305 x294 x295 x296 x297 v336 h332) (
 B1 (ld v321 h315) fun v339 =>
 SM v322 v339 <|
 j305 x294 x295 x296 x297 (.bool true) h329)) (
 B1 (ld v321 h315) fun v340 =>
 SM v322 v340 <|
 j305 x294 x295 x296 x297 (.bool true) h324)) (
 j305 x294 x295 x296 x297 (.bool true) h315)) (
 j305 x294 x295 x296 x297 (.bool true) h304)) (
 j305 x294 x295 x296 x297 (.bool true) h304)) (
 j305 x294 x295 x296 x297 (.bool true) h304)) (fun x341 x342 x343 x344 x345 h346 =>
 CD x345 (
 some ((.bool false), h346)) (
 j99 x341 x342 x343 x344 h346)))))))) (fun x347 x348 x349 x350 h351 =>
 B1 (iadd x350 (.int .i64 1)) fun v352 =>
 j91 x347 x348 x349 v352 h351)) (
 j90  h96)

noncomputable def l_outriderlaw5_StorePlays (J : JT) (G : GT) (cf : CF) (j90 : K.Fn 0) : K.Fn 4 := lpF P an J G cf 8 [1, 1, 1, 1, 1, 1, 0, 1, 0, 0] [1, 5, 7, 8] (fun q t H => match Nat.beq q 0 with | true => app 0 j90 (vals [] t) H | false => (fun _ _ _ => none) q t H)

theorem rl_outriderlaw5_StorePlays (J : JT) (G : GT) (cf : CF) (j90 : K.Fn 0) (j91 : K.Fn 4) (x92 x93 x94 x95 : AV) (h96 : Hp) : lpB P an J G cf 8 [1, 1, 1, 1, 1, 1, 0, 1, 0, 0] [1, 5, 7, 8] (fun q t H => match Nat.beq q 0 with | true => app 0 j90 (vals [] t) H | false => (fun _ _ _ => none) q t H) j91 [x92, x93, x94, x95] h96 = bl_outriderlaw5_StorePlays J G cf j90 j91 x92 x93 x94 x95 h96 := by kernel_rfl

theorem ql_outriderlaw5_StorePlays (cf : CF) (j90 : K.Fn 0) (x92 x93 x94 x95 : AV) (h96 : Hp) : l_outriderlaw5_StorePlays JN GO cf j90 x92 x93 x94 x95 h96 = bl_outriderlaw5_StorePlays JN GO cf j90 (l_outriderlaw5_StorePlays JN GO cf j90) x92 x93 x94 x95 h96 := Eq.trans (b := app 4 (l_outriderlaw5_StorePlays JN GO cf j90) [x92, x93, x94, x95] h96) (by kernel_rfl) ((lpQ cf _ _ _ _ [x92, x93, x94, x95] rfl h96).trans (rl_outriderlaw5_StorePlays JN GO cf j90 _ x92 x93 x94 x95 h96))

noncomputable def s_outriderlaw5_StorePlays (J : JT) (G : GT) (cf : CF) (a0 a1 : AV) (H : Hp) : R :=
 B2 (cf (.func (.func 9) [] []) [] H) fun v0 h1 =>
 B1 (unA .not v0) fun v2 =>
 CD v2 (
 some ((.bool false), h1)) (
 J 4 (fun j3 =>
 B2 (cf (.func (.func 10) [] []) [a0] h1) fun v4 h5 =>
 B1 (ex 0 v4) fun v6 =>
 B1 (ex 1 v4) fun v7 =>
 j3 a0 a1 v6 v7 h5) (fun x8 x9 x10 x11 h12 =>
 J 4 (fun j13 =>
 J 5 (fun j14 =>
 B1 (ilt x8 (.int .i64 1)) fun v15 =>
 G v15 false (fun k16 =>
 k16 x8 h12) (fun v17 h18 =>
 G v15 false (fun k19 =>
 B1 (igt v17 (.int .i64 16777216)) fun v20 =>
 k19 v20 h18) (fun v21 h22 =>
 B1 (pk v15 (.bool true) v21) fun v23 =>
 j14 x8 x9 x10 x11 v23 h22) h18) h12) (fun x24 x25 x26 x27 x28 h29 =>
 CD x28 (
 B1 (ieq x27 (.int .i64 1)) fun v30 =>
 G v30 true (fun k31 =>
 k31 x26 h29) (fun v32 h33 =>
 G v30 true (fun k34 =>
 B1 (eqB .eql (pe v32 .ptr0 h33)) fun v35 =>
 k34 v35 h33) (fun v36 h37 =>
 B1 (pk v30 v36 (.bool false)) fun v38 =>
 some (v38, h37)) h33) h29) (
 j13 x24 x25 x26 x27 h29))) (fun x39 x40 x41 x42 h43 =>
 J 3 (fun j44 =>
 J 5 (fun j45 =>
 B1 (ine x42 (.int .i64 0)) fun v46 =>
 G v46 false (fun k47 =>
 k47 x41 h43) (fun v48 h49 =>
 G v46 false (fun k50 =>
 B1 (eqB .eql (pe v48 .ptr0 h49)) fun v51 =>
 k50 v51 h49) (fun v52 h53 =>
 B1 (pk v46 (.bool true) v52) fun v54 =>
 G v54 false (fun k55 =>
 k55 x40 h53) (fun v56 h57 =>
 G v54 false (fun k58 =>
 B1 (lenx v56) fun v59 =>
 k58 v59 h57) (fun v60 h61 =>
 G v54 false (fun k62 =>
 B1 (igt v60 (.int .i64 50)) fun v63 =>
 k62 v63 h61) (fun v64 h65 =>
 B1 (pk v54 (.bool true) v64) fun v66 =>
 j45 x39 x40 x41 x42 v66 h65) h61) h57) h53) h49) h43) (fun x67 x68 x69 x70 x71 h72 =>
 CD x71 (
 B1 (ieq x70 (.int .i64 0)) fun v73 =>
 G v73 true (fun k74 =>
 k74 x69 h72) (fun v75 h76 =>
 G v73 true (fun k77 =>
 B1 (eqB .neq (pe v75 .ptr0 h76)) fun v78 =>
 k77 v78 h76) (fun v79 h80 =>
 B1 (pk v73 v79 (.bool false)) fun v81 =>
 some (v81, h80)) h76) h72) (
 j44 x67 x68 x69 h72))) (fun x82 x83 x84 h85 =>
 B1 (fl [(.int .i64 0), .slice0, (.bool false), (.int .i64 0), .slice0] [(0, 1, x82)]) fun l86 =>
 BN (bx 51 (.agg l86) h85) fun i87 h88 =>
 J 0 (fun j89 =>
 J 0 (fun j90 =>
 l_outriderlaw5_StorePlays J G cf j90 x83 x84 (.ptr i87 0) (.int .i64 0) h88) (fun  h353 =>
 j89  h353)) (fun  h354 =>
 some ((.bool true), h354))))))

theorem e_outriderlaw5_StorePlays (J : JT) (G : GT) (cf : CF) (a0 a1 : AV) (H : Hp) : callF P J G prim an cf 8 [a0, a1] H = s_outriderlaw5_StorePlays J G cf a0 a1 H := by kernel_rfl

theorem c_outriderlaw5_StorePlays {a0 a1 : AV} {H : Hp} {r : AV × Hp} (h : s_outriderlaw5_StorePlays JN GO cK a0 a1 H = some r) : cK (.func (.func 8) [] []) [a0, a1] H = some r := callF_fix (first := []) (cap := []) ((e_outriderlaw5_StorePlays JN GO _ a0 a1 H).trans h)

noncomputable def bl_outriderlaw5_texts (J : JT) (G : GT) (cf : CF) (j13 : K.Fn 0) (j14 : K.Fn 3) (x15 x16 x17 : AV) (h18 : Hp) : R :=
 B1 (lenx x15) fun v19 =>
 B1 (ilt x17 v19) fun v20 =>
 CD v20 (
 J 3 (fun j21 =>
 J 4 (fun j22 =>
 B1 (ia 1 x15 x17) fun v23 =>
 B1 (ld v23 h18) fun v24 =>
 B1 (ia 1 x16 x17) fun v25 =>
 B1 (ld v25 h18) fun v26 =>
 B1 (sne v24 v26) fun v27 =>
 j22 x15 x16 x17 v27 h18) (fun x28 x29 x30 x31 h32 =>
 CD x31 (
 some ((.bool false), h32)) (
 j21 x28 x29 x30 h32))) (fun x33 x34 x35 h36 =>
 B1 (iadd x35 (.int .i64 1)) fun v37 =>
 j14 x33 x34 v37 h36)) (
 j13  h18)

noncomputable def l_outriderlaw5_texts (J : JT) (G : GT) (cf : CF) (j13 : K.Fn 0) : K.Fn 3 := lpF P an J G cf 24 [1, 1, 0, 1, 0, 0] [0, 1, 5] (fun q t H => match Nat.beq q 0 with | true => app 0 j13 (vals [] t) H | false => (fun _ _ _ => none) q t H)

theorem rl_outriderlaw5_texts (J : JT) (G : GT) (cf : CF) (j13 : K.Fn 0) (j14 : K.Fn 3) (x15 x16 x17 : AV) (h18 : Hp) : lpB P an J G cf 24 [1, 1, 0, 1, 0, 0] [0, 1, 5] (fun q t H => match Nat.beq q 0 with | true => app 0 j13 (vals [] t) H | false => (fun _ _ _ => none) q t H) j14 [x15, x16, x17] h18 = bl_outriderlaw5_texts J G cf j13 j14 x15 x16 x17 h18 := by kernel_rfl

theorem ql_outriderlaw5_texts (cf : CF) (j13 : K.Fn 0) (x15 x16 x17 : AV) (h18 : Hp) : l_outriderlaw5_texts JN GO cf j13 x15 x16 x17 h18 = bl_outriderlaw5_texts JN GO cf j13 (l_outriderlaw5_texts JN GO cf j13) x15 x16 x17 h18 := Eq.trans (b := app 3 (l_outriderlaw5_texts JN GO cf j13) [x15, x16, x17] h18) (by kernel_rfl) ((lpQ cf _ _ _ _ [x15, x16, x17] rfl h18).trans (rl_outriderlaw5_texts JN GO cf j13 _ x15 x16 x17 h18))

noncomputable def s_outriderlaw5_texts (J : JT) (G : GT) (cf : CF) (a0 a1 : AV) (H : Hp) : R :=
 J 2 (fun j0 =>
 J 3 (fun j1 =>
 B1 (lenx a0) fun v2 =>
 B1 (lenx a1) fun v3 =>
 B1 (ine v2 v3) fun v4 =>
 j1 a0 a1 v4 H) (fun x5 x6 x7 h8 =>
 CD x7 (
 some ((.bool false), h8)) (
 j0 x5 x6 h8))) (fun x9 x10 h11 =>
 J 0 (fun j12 =>
 J 0 (fun j13 =>
 l_outriderlaw5_texts J G cf j13 x9 x10 (.int .i64 0) h11) (fun  h38 =>
 j12  h38)) (fun  h39 =>
 some ((.bool true), h39)))

theorem e_outriderlaw5_texts (J : JT) (G : GT) (cf : CF) (a0 a1 : AV) (H : Hp) : callF P J G prim an cf 24 [a0, a1] H = s_outriderlaw5_texts J G cf a0 a1 H := by kernel_rfl

theorem c_outriderlaw5_texts {a0 a1 : AV} {H : Hp} {r : AV × Hp} (h : s_outriderlaw5_texts JN GO cK a0 a1 H = some r) : cK (.func (.func 24) [] []) [a0, a1] H = some r := callF_fix (first := []) (cap := []) ((e_outriderlaw5_texts JN GO _ a0 a1 H).trans h)

noncomputable def bl_outriderref1_goodName (J : JT) (G : GT) (cf : CF) (j1 : K.Fn 1) (j2 : K.Fn 2) (x3 x4 : AV) (h5 : Hp) : R :=
 B1 (lens x3) fun v6 =>
 B1 (ilt x4 v6) fun v7 =>
 CD v7 (
 J 2 (fun j8 =>
 J 3 (fun j9 =>
 B1 (ixs x3 x4) fun v10 =>
 B1 (ilt v10 (.int .u8 97)) fun v11 =>
 G v11 false (fun k12 =>
 k12 x3 h5) (fun v13 h14 =>
 G v11 false (fun k15 =>
 k15 x4 h14) (fun v16 h17 =>
 G v11 false (fun k18 =>
 B1 (ixs v13 v16) fun v19 =>
 k18 v19 h17) (fun v20 h21 =>
 G v11 false (fun k22 =>
 B1 (igt v20 (.int .u8 122)) fun v23 =>
 k22 v23 h21) (fun v24 h25 =>
 B1 (pk v11 (.bool true) v24) fun v26 =>
 G v26 true (fun k27 =>
 k27 x3 h25) (fun v28 h29 =>
 G v26 true (fun k30 =>
 k30 x4 h29) (fun v31 h32 =>
 G v26 true (fun k33 =>
 B1 (ixs v28 v31) fun v34 =>
 k33 v34 h32) (fun v35 h36 =>
 G v26 true (fun k37 =>
 B1 (ilt v35 (.int .u8 48)) fun v38 =>
 k37 v38 h36) (fun v39 h40 =>
 G v26 true (fun k41 =>
 k41 v39 h40) (fun v42 h43 =>
 G v42 false (fun k44 =>
 k44 x3 h43) (fun v45 h46 =>
 G v42 false (fun k47 =>
 k47 x4 h46) (fun v48 h49 =>
 G v42 false (fun k50 =>
 B1 (ixs v45 v48) fun v51 =>
 k50 v51 h49) (fun v52 h53 =>
 G v42 false (fun k54 =>
 B1 (igt v52 (.int .u8 57)) fun v55 =>
 k54 v55 h53) (fun v56 h57 =>
 G v26 true (fun k58 =>
 B1 (pk v42 (.bool true) v56) fun v59 =>
 k58 v59 h57) (fun v60 h61 =>
 B1 (pk v26 v60 (.bool false)) fun v62 =>
 G v62 true (fun k63 =>
 k63 x3 h61) (fun v64 h65 =>
 G v62 true (fun k66 =>
 k66 x4 h65) (fun v67 h68 =>
 G v62 true (fun k69 =>
 B1 (ixs v64 v67) fun v70 =>
 k69 v70 h68) (fun v71 h72 =>
 G v62 true (fun k73 =>
 B1 (ine v71 (.int .u8 45)) fun v74 =>
 k73 v74 h72) (fun v75 h76 =>
 B1 (pk v62 v75 (.bool false)) fun v77 =>
 j9 x3 x4 v77 h76) h72) h68) h65) h61) h57) h53) h49) h46) h43) h40) h36) h32) h29) h25) h21) h17) h14) h5) (fun x78 x79 x80 h81 =>
 CD x80 (
 some ((.bool false), h81)) (
 j8 x78 x79 h81))) (fun x82 x83 h84 =>
 B1 (iadd x83 (.int .i64 1)) fun v85 =>
 j2 x82 v85 h84)) (
 j1 x3 h5)

noncomputable def l_outriderref1_goodName (J : JT) (G : GT) (cf : CF) (j1 : K.Fn 1) : K.Fn 2 := lpF P an J G cf 47 [1, 0, 1, 0, 0] [0, 3] (fun q t H => match Nat.beq q 0 with | true => app 1 j1 (vals [0] t) H | false => (fun _ _ _ => none) q t H)

theorem rl_outriderref1_goodName (J : JT) (G : GT) (cf : CF) (j1 : K.Fn 1) (j2 : K.Fn 2) (x3 x4 : AV) (h5 : Hp) : lpB P an J G cf 47 [1, 0, 1, 0, 0] [0, 3] (fun q t H => match Nat.beq q 0 with | true => app 1 j1 (vals [0] t) H | false => (fun _ _ _ => none) q t H) j2 [x3, x4] h5 = bl_outriderref1_goodName J G cf j1 j2 x3 x4 h5 := by kernel_rfl

theorem ql_outriderref1_goodName (cf : CF) (j1 : K.Fn 1) (x3 x4 : AV) (h5 : Hp) : l_outriderref1_goodName JN GO cf j1 x3 x4 h5 = bl_outriderref1_goodName JN GO cf j1 (l_outriderref1_goodName JN GO cf j1) x3 x4 h5 := Eq.trans (b := app 2 (l_outriderref1_goodName JN GO cf j1) [x3, x4] h5) (by kernel_rfl) ((lpQ cf _ _ _ _ [x3, x4] rfl h5).trans (rl_outriderref1_goodName JN GO cf j1 _ x3 x4 h5))

noncomputable def s_outriderref1_goodName (J : JT) (G : GT) (cf : CF) (a0 : AV) (H : Hp) : R :=
 J 1 (fun j0 =>
 J 1 (fun j1 =>
 l_outriderref1_goodName J G cf j1 a0 (.int .i64 0) H) (fun x86 h87 =>
 j0 x86 h87)) (fun x88 h89 =>
 B1 (lens x88) fun v90 =>
 B1 (ige v90 (.int .i64 1)) fun v91 =>
 G v91 true (fun k92 =>
 k92 x88 h89) (fun v93 h94 =>
 G v91 true (fun k95 =>
 B1 (lens v93) fun v96 =>
 k95 v96 h94) (fun v97 h98 =>
 G v91 true (fun k99 =>
 B1 (ile v97 (.int .i64 16)) fun v100 =>
 k99 v100 h98) (fun v101 h102 =>
 B1 (pk v91 v101 (.bool false)) fun v103 =>
 some (v103, h102)) h98) h94) h89)

theorem e_outriderref1_goodName (J : JT) (G : GT) (cf : CF) (a0 : AV) (H : Hp) : callF P J G prim an cf 47 [a0] H = s_outriderref1_goodName J G cf a0 H := by kernel_rfl

theorem c_outriderref1_goodName {a0 : AV} {H : Hp} {r : AV × Hp} (h : s_outriderref1_goodName JN GO cK a0 H = some r) : cK (.func (.func 47) [] []) [a0] H = some r := callF_fix (first := []) (cap := []) ((e_outriderref1_goodName JN GO _ a0 H).trans h)
end
end Go.Proofs.YtnabkcdchklnpaaDoor.StK
namespace Go.Proofs.YtnabkcdchklnpaaDoor.StC
open Go Am Am.K StEnv StK
set_option linter.unusedVariables false
set_option linter.unusedSimpArgs false
set_option maxRecDepth 10000

theorem prim_trim : prim 48 = some trimP := by kernel_rfl
theorem prim_free : prim 17 = some freeP := by kernel_rfl
theorem prim_names : prim 22 = some (namesP 9) := by kernel_rfl
abbrev cutN : List Nat := [97, 98, 99, 100, 101, 102, 103, 104, 105, 106, 107, 108, 109, 110, 111, 112, 113, 114, 115, 116, 117, 118, 119, 120, 121, 122, 48, 49, 50, 51, 52, 53, 54, 55, 56, 57, 45]
theorem trim_c (s : List Nat) (H : Hp) (hs : s.length ≤ 4294967296) : cK (.func (.func 48) [] []) [.str s, .str cutN] H = some (.str (trimN s cutN), H) := by
  refine ck_prim prim_trim ?_
  have h1 : lowC cutN = true := by decide
  have h2 : F.bothB (lowC cutN) (F.bothB (Nat.ble (F.lenL s) 4294967296) (Nat.ble (F.lenL cutN) 4294967280)) = true := by
    rw [F.bothB_eq, F.bothB_eq, F.lenL_eq, F.lenL_eq, h1]
    simp only [Bool.true_and, Bool.and_eq_true, Nat.ble_eq]
    exact ⟨hs, by decide⟩
  show trim2 H s cutN = _
  unfold trim2
  rw [h2]
/-- a name may be so -/
noncomputable def okName (s : List Nat) : Bool := !(s == []) && (decide ((s.length : Int) ≤ 16) && (trimN s cutN == []))
theorem name_c (s : List Nat) (H : Hp) : cK (.func (.func 40) [] []) [.str s] H = some (.bool (okName s), H) := by
  refine c_store_name ?_
  unfold s_store_name okName
  cases h0 : (s == []) with
  | true => simp only [JN_0, JN_1, JN_2, JN_3, JN_4, JN_5, JN_6, JN_7, JN_8, JN_9, JN_10, JN_11, JN_12, JN_13, JN_14, JN_15, JN_16, JN_17, JN_18, JN_19, JN_20, JN_21, JN_22, JN_23, JN_24, B1_s, B2_s, BN_s, CD_t, CD_f, GO_tt, GO_ft, GO_tf, GO_ff, GO_ut, GO_uf, GD2_tt, GD2_ft, GD2_tf, GD2_ff, pk_t, pk_f, nilA_p, nilA_i, fa_p, fd_a, ex_t, iadd_i, isub_i, imul_i, ieq_i, ine_i, ilt_i, ile_i, igt_i, ige_i, seq_s, sne_s, slt_s, lens_s, lenx_0, lenx_s, not_b, bb_e, bb_n, cv_i, pe_00, pe_0p, pe_p0, eqB_e, eqB_n, List.getElem?_cons_zero, List.getElem?_cons_succ, Nat.zero_add, Bool.not_true, Bool.not_false, decide_true, decide_false, Int.reduceBEq, Int.reduceBNe, Int.reduceLT, Int.reduceLE, Int.reduceGT, Int.reduceGE, Int.reduceNeg, BEq.rfl, bne_self_eq_false, ge_iff_le, gt_iff_lt, h0, Bool.false_and]
  | false =>
    by_cases h1 : (s.length : Int) ≤ 16
    · have ht := trim_c s H (by omega)
      simp only [JN_0, JN_1, JN_2, JN_3, JN_4, JN_5, JN_6, JN_7, JN_8, JN_9, JN_10, JN_11, JN_12, JN_13, JN_14, JN_15, JN_16, JN_17, JN_18, JN_19, JN_20, JN_21, JN_22, JN_23, JN_24, B1_s, B2_s, BN_s, CD_t, CD_f, GO_tt, GO_ft, GO_tf, GO_ff, GO_ut, GO_uf, GD2_tt, GD2_ft, GD2_tf, GD2_ff, pk_t, pk_f, nilA_p, nilA_i, fa_p, fd_a, ex_t, iadd_i, isub_i, imul_i, ieq_i, ine_i, ilt_i, ile_i, igt_i, ige_i, seq_s, sne_s, slt_s, lens_s, lenx_0, lenx_s, not_b, bb_e, bb_n, cv_i, pe_00, pe_0p, pe_p0, eqB_e, eqB_n, List.getElem?_cons_zero, List.getElem?_cons_succ, Nat.zero_add, Bool.not_true, Bool.not_false, decide_true, decide_false, Int.reduceBEq, Int.reduceBNe, Int.reduceLT, Int.reduceLE, Int.reduceGT, Int.reduceGE, Int.reduceNeg, BEq.rfl, bne_self_eq_false, ge_iff_le, gt_iff_lt, h0, h1, ht, Bool.true_and]
    · simp only [JN_0, JN_1, JN_2, JN_3, JN_4, JN_5, JN_6, JN_7, JN_8, JN_9, JN_10, JN_11, JN_12, JN_13, JN_14, JN_15, JN_16, JN_17, JN_18, JN_19, JN_20, JN_21, JN_22, JN_23, JN_24, B1_s, B2_s, BN_s, CD_t, CD_f, GO_tt, GO_ft, GO_tf, GO_ff, GO_ut, GO_uf, GD2_tt, GD2_ft, GD2_tf, GD2_ff, pk_t, pk_f, nilA_p, nilA_i, fa_p, fd_a, ex_t, iadd_i, isub_i, imul_i, ieq_i, ine_i, ilt_i, ile_i, igt_i, ige_i, seq_s, sne_s, slt_s, lens_s, lenx_0, lenx_s, not_b, bb_e, bb_n, cv_i, pe_00, pe_0p, pe_p0, eqB_e, eqB_n, List.getElem?_cons_zero, List.getElem?_cons_succ, Nat.zero_add, Bool.not_true, Bool.not_false, decide_true, decide_false, Int.reduceBEq, Int.reduceBNe, Int.reduceLT, Int.reduceLE, Int.reduceGT, Int.reduceGE, Int.reduceNeg, BEq.rfl, bne_self_eq_false, ge_iff_le, gt_iff_lt, h0, h1, Bool.true_and, Bool.false_and]

/-! what a store is -/
structure Fl where
  nm : List Nat
  b : List Nat
  sure : Nat
structure SM where
  room : Nat
  off : Bool
  fuse : Nat
  keep : List Int
  fs : List Fl
/-- a file asV it lies in the heap -/
structure FC where
  id : Nat
  sl : AV
  born : Nat
  f : Fl
def FC.me (x : FC) : ME := ⟨.str x.f.nm, .ptr x.id 0, x.born⟩
def FC.ids (x : FC) : List Nat := x.id :: rid x.sl
structure Lay where
  mid : Nat
  clk : Nat
  keep : AV
  cs : List FC
def foot (p : Nat) (L : Lay) : List Nat := p :: L.mid :: (rid L.keep ++ L.cs.flatMap FC.ids)
def ints (l : List Int) : List AV := l.map fun z => .int .i64 z
def sumB (fs : List Fl) : Nat := (fs.map (·.b.length)).sum
def C0 (H : Hp) (i : Nat) (l : List AV) : Prop := ∃ el, Cs H i l el 0
theorem C0.out {H H' : Hp} {i : Nat} {l : List AV} {S : List Nat} (h : C0 H i l) (k : Out S H H') (hi : i ∉ S) : C0 H' i l := by
  obtain ⟨el, h⟩ := h; exact ⟨el, h.out k hi⟩
theorem C0.ld {H : Hp} {i : Nat} {l : List AV} (h : C0 H i l) {o : Nat} {v : AV} (hv : l[o]? = some v) : ld (.ptr i o) H = some v := by
  obtain ⟨el, h⟩ := h; exact h.ld hv
theorem C0.st {H : Hp} {i : Nat} {l : List AV} (h : C0 H i l) {o : Nat} (ho : o < l.length) {v : AV} (hv : oneC v = true) :
    ∃ H', st 1 (.ptr i o) v H = some H' ∧ C0 H' i (l.set o v) ∧ Out [i] H H' ∧ H'.next = H.next := by
  obtain ⟨el, h⟩ := h
  obtain ⟨H', h1, h2, h3, h4⟩ := st1 h (by omega) ho hv
  exact ⟨H', h1, ⟨el, h2⟩, h3, h4⟩
theorem C0.lt {H : Hp} {i : Nat} {l : List AV} (h : C0 H i l) : i < H.next := by obtain ⟨el, h⟩ := h; exact h.1
/-- what holds of each store -/
structure Okm (m : SM) : Prop where
  room : m.room ≤ 16777216
  sum : sumB m.fs ≤ m.room
  sure : ∀ f ∈ m.fs, f.sure ≤ f.b.length
  byte : ∀ f ∈ m.fs, ∀ c ∈ f.b, c < 256
  fuse : (m.fuse : Int) ≤ 9223372036854775807
  names : (m.fs.map (·.nm)).Nodup
  good : ∀ f ∈ m.fs, okName f.nm = true
  many : m.fs.length ≤ 64
structure St (H : Hp) (p : Nat) (m : SM) (L : Lay) : Prop where
  head : C0 H p [.int .i64 m.room, .map L.mid, .bool m.off, .int .i64 m.fuse, L.keep]
  map : Mp H L.mid (L.cs.map FC.me) L.clk
  file : ∀ x ∈ L.cs, C0 H x.id [x.sl, .int .i64 x.f.sure] ∧ Ow H 5 1 x.sl (bs x.f.b)
  keep : Rw H 1 L.keep (ints m.keep)
  nd : (foot p L).Nodup
  born : incr L.clk (L.cs.map FC.me) 0 = true
  fs : m.fs = L.cs.map (·.f)
  ok : Okm m
/-- what a call may touch -/
def Go' (p : Nat) (H : Hp) (L : Lay) (H' : Hp) (L' : Lay) : Prop := Out (foot p L) H H' ∧ ∀ j ∈ foot p L', j ∈ foot p L ∨ H.next ≤ j
theorem Go'.refl (p : Nat) (H : Hp) (L : Lay) : Go' p H L H L := ⟨Out.refl _ _, fun _ h => .inl h⟩
theorem Go'.trans {p : Nat} {H H' H'' : Hp} {L L' L'' : Lay} (h : Go' p H L H' L') (k : Go' p H' L' H'' L'') : Go' p H L H'' L'' :=
  ⟨h.1.then k.1 h.2, fun j hj => (k.2 j hj).elim (fun q => h.2 j q) (fun q => .inr (Nat.le_trans h.1.1 q))⟩
section
variable {H : Hp} {p : Nat} {m : SM} {L : Lay}
theorem St.mem_p : p ∈ foot p L := .head _
theorem St.mem_mid : L.mid ∈ foot p L := .tail _ (.head _)
theorem St.mem_keep {j : Nat} (h : j ∈ rid L.keep) : j ∈ foot p L := .tail _ (.tail _ (List.mem_append_left _ h))
theorem St.mem_file {x : FC} (hx : x ∈ L.cs) {j : Nat} (h : j ∈ x.ids) : j ∈ foot p L := .tail _ (.tail _ (List.mem_append_right _ (List.mem_flatMap.2 ⟨x, hx, h⟩)))
theorem St.lt (h : St H p m L) : ∀ j ∈ foot p L, j < H.next := by
  intro j hj
  unfold foot at hj
  rcases List.mem_cons.1 hj with rfl | hj
  · exact h.head.lt
  rcases List.mem_cons.1 hj with rfl | hj
  · exact h.map.1
  rcases List.mem_append.1 hj with hj | hj
  · exact h.keep.lt j hj
  · obtain ⟨x, hx, hj⟩ := List.mem_flatMap.1 hj
    rcases List.mem_cons.1 hj with rfl | hj
    · exact (h.file x hx).1.lt
    · exact (h.file x hx).2.rw.lt j hj
/-- what is touched outside changes nothing of a store -/
theorem St.out {H' : Hp} {S : List Nat} (h : St H p m L) (k : Out S H H') (hs : ∀ j ∈ foot p L, j ∉ S) : St H' p m L :=
  ⟨h.head.out k (hs _ St.mem_p), h.map.out k (hs _ St.mem_mid), fun x hx => ⟨(h.file x hx).1.out k (hs _ (St.mem_file hx (.head _))), (h.file x hx).2.out k fun j hj => hs _ (St.mem_file hx (.tail _ hj))⟩,
   h.keep.out k fun j hj => hs _ (St.mem_keep hj), h.nd, h.born, h.fs, h.ok⟩
/-- a file's place in the heap -/
def fp (L : Lay) (at' : List Nat) : AV := match L.cs.find? (fun x => x.f.nm == at') with | none => .ptr0 | some x => .ptr x.id 0
def hasF (fs : List Fl) (at' : List Nat) : Bool := fs.any (fun f => f.nm == at')
theorem St.find (h : St H p m L) (at' : List Nat) : (fp L at' = .ptr0 ∧ hasF m.fs at' = false ∧ ∀ x ∈ L.cs, x.f.nm ≠ at') ∨
    ∃ a x b, L.cs = a ++ x :: b ∧ x.f.nm = at' ∧ (∀ y ∈ a, y.f.nm ≠ at') ∧ (∀ y ∈ b, y.f.nm ≠ at') ∧ fp L at' = .ptr x.id 0 ∧ hasF m.fs at' = true := by
  have hn := h.ok.names
  rw [h.fs, List.map_map] at hn
  unfold fp hasF
  rw [h.fs]
  cases hf : L.cs.find? (fun x => x.f.nm == at') with
  | none =>
    rw [List.find?_eq_none] at hf
    have hf' : ∀ x ∈ L.cs, x.f.nm ≠ at' := fun x hx => by simpa using hf x hx
    refine .inl ⟨rfl, ?_, hf'⟩
    rw [List.any_eq_false]
    intro f hfm
    obtain ⟨x, hx, rfl⟩ := List.mem_map.1 hfm
    simpa using hf' x hx
  | some x =>
    obtain ⟨h1, a, b, h2, h3⟩ := List.find?_eq_some_iff_append.1 hf
    have h1 : x.f.nm = at' := by simpa using h1
    have h3 : ∀ y ∈ a, y.f.nm ≠ at' := fun y hy => by simpa using h3 y hy
    refine .inr ⟨a, x, b, h2, h1, h3, ?_, rfl, ?_⟩
    · intro y hy he
      rw [h2, List.map_append, List.map_cons, List.nodup_append, List.nodup_cons] at hn
      exact hn.2.1.1 (List.mem_map.2 ⟨y, hy, he.trans h1.symm⟩)
    · rw [List.any_eq_true]
      exact ⟨x.f, List.mem_map.2 ⟨x, by rw [h2]; simp, rfl⟩, by simpa using h1⟩
theorem keys_ne {a : List FC} {at' : List Nat} (h : ∀ y ∈ a, y.f.nm ≠ at') : ∀ e ∈ a.map FC.me, ∃ q, e.key = .str q ∧ q ≠ at' := by
  intro e he
  obtain ⟨y, hy, rfl⟩ := List.mem_map.1 he
  exact ⟨_, rfl, h y hy⟩
theorem St.lkp (h : St H p m L) (at' : List Nat) : lkp .str .ptr0 false (.map L.mid) (.str at') H = some (fp L at') := by
  rcases h.find at' with ⟨h1, h2, h3⟩ | ⟨a, x, b, h1, h2, h3, h4, h5, h6⟩
  · rw [lkp_none h.map (keys_ne h3), h1]; rfl
  · have hm := h.map
    rw [h1, List.map_append, List.map_cons] at hm
    rw [lkp_some hm (by rw [FC.me, h2]) (keys_ne h3) (keys_ne h4), h5]; rfl
theorem St.pe0 (h : St H p m L) (at' : List Nat) (H' : Hp) : pe (fp L at') .ptr0 H' = some (!hasF m.fs at') := by
  rcases h.find at' with ⟨h1, h2, h3⟩ | ⟨a, x, b, h1, h2, h3, h4, h5, h6⟩
  · rw [h1, h2]; rfl
  · rw [h5, h6]; rfl
/-- the store's own cells turn -/
theorem St.setHead {H' : Hp} {off : Bool} {fuse : Nat} {keep : AV} {kl : List Int} (h : St H p m L) (hc : C0 H' p [.int .i64 m.room, .map L.mid, .bool off, .int .i64 fuse, keep]) (hf : (fuse : Int) ≤ 9223372036854775807)
    {S : List Nat} (ho : Out S H H') (hS : ∀ j ∈ S, j = p ∨ j ∈ rid L.keep) (hk : Rw H' 1 keep (ints kl)) (hkn : ∀ j ∈ rid keep, j ∈ rid L.keep ∨ H.next ≤ j) (hkd : (rid keep).Nodup) :
    St H' p { m with off := off, fuse := fuse, keep := kl } { L with keep := keep } ∧ Go' p H L H' { L with keep := keep } := by
  have hnd := h.nd
  unfold foot at hnd
  rw [List.nodup_cons, List.nodup_cons, List.nodup_append] at hnd
  obtain ⟨n1, n2, n3, n4, n5⟩ := hnd
  have nS : ∀ j, j ≠ p → j ∉ rid L.keep → j ∉ S := fun j h1 h2 hj => (hS j hj).elim h1 h2
  have hmid : L.mid ∉ S := nS _ (fun q => n1 (by rw [← q]; exact .head _)) (fun q => n2 (List.mem_append_left _ q))
  have hfile : ∀ x ∈ L.cs, ∀ j ∈ x.ids, j ∉ S := fun x hx j hj => by
    have hm : j ∈ L.cs.flatMap FC.ids := List.mem_flatMap.2 ⟨x, hx, hj⟩
    exact nS _ (fun q => n1 (by rw [← q]; exact .tail _ (List.mem_append_right _ hm))) (fun q => n5 _ q _ hm rfl)
  refine ⟨⟨hc, h.map.out ho hmid, fun x hx => ⟨(h.file x hx).1.out ho (hfile x hx _ (.head _)), (h.file x hx).2.out ho fun j hj => hfile x hx j (.tail _ hj)⟩, hk, ?_, h.born, h.fs,
    ⟨h.ok.room, h.ok.sum, h.ok.sure, h.ok.byte, hf, h.ok.names, h.ok.good, h.ok.many⟩⟩, ho.mono (fun j hj => (hS j hj).elim (fun q => by rw [q]; exact St.mem_p) St.mem_keep), fun j hj => ?_⟩
  · have hlt := h.lt
    unfold foot
    rw [List.nodup_cons, List.nodup_cons, List.nodup_append]
    have key : ∀ j ∈ rid keep, j ≠ p ∧ j ≠ L.mid ∧ j ∉ L.cs.flatMap FC.ids := by
      intro j hj
      rcases hkn j hj with q | q
      · exact ⟨fun e => n1 (by rw [← e]; exact .tail _ (List.mem_append_left _ q)), fun e => n2 (by rw [← e]; exact List.mem_append_left _ q), fun e => n5 _ q _ e rfl⟩
      · refine ⟨fun e => ?_, fun e => ?_, fun e => ?_⟩
        · have := hlt p St.mem_p; omega
        · have := hlt L.mid St.mem_mid; omega
        · obtain ⟨x, hx, hj'⟩ := List.mem_flatMap.1 e
          have := hlt j (St.mem_file hx hj'); omega
    refine ⟨fun e => ?_, fun e => ?_, hkd, n4, fun a ha b hb e => (key a ha).2.2 (e ▸ hb)⟩
    · rcases List.mem_cons.1 e with e | e
      · exact n1 (by rw [e]; exact .head _)
      · rcases List.mem_append.1 e with e | e
        · exact (key _ e).1 rfl
        · exact n1 (.tail _ (List.mem_append_right _ e))
    · rcases List.mem_append.1 e with e | e
      · exact (key _ e).2.1 rfl
      · exact n2 (List.mem_append_right _ e)
  · unfold foot at hj
    rcases List.mem_cons.1 hj with rfl | hj
    · exact .inl St.mem_p
    rcases List.mem_cons.1 hj with rfl | hj
    · exact .inl St.mem_mid
    rcases List.mem_append.1 hj with hj | hj
    · exact (hkn j hj).imp St.mem_keep id
    · obtain ⟨x, hx, hj'⟩ := List.mem_flatMap.1 hj
      exact .inl (St.mem_file (L := L) hx hj')
end

section
variable {H : Hp} {p : Nat} {m : SM} {L : Lay}
/-- one file anew -/
def setF (at' : List Nat) (f : Fl) (fs : List Fl) : List Fl := fs.map fun g => if g.nm = at' then f else g
theorem setF_split {a b : List FC} {x : FC} {at' : List Nat} {f : Fl} (hx : x.f.nm = at') (ha : ∀ y ∈ a, y.f.nm ≠ at') (hb : ∀ y ∈ b, y.f.nm ≠ at') : setF at' f ((a ++ x :: b).map (·.f)) = a.map (·.f) ++ f :: b.map (·.f) := by
  unfold setF
  rw [List.map_append, List.map_cons, List.map_append, List.map_cons, if_pos hx]
  congr 1
  · rw [List.map_map]; exact List.map_congr_left fun y hy => if_neg (ha y hy)
  · congr 1
    rw [List.map_map]; exact List.map_congr_left fun y hy => if_neg (hb y hy)
theorem St.setFile {H' : Hp} {a b : List FC} {x : FC} {f : Fl} {sl : AV} (h : St H p m L) (hL : L.cs = a ++ x :: b) (ha : ∀ y ∈ a, y.f.nm ≠ x.f.nm) (hb : ∀ y ∈ b, y.f.nm ≠ x.f.nm) (hnm : f.nm = x.f.nm)
    {S : List Nat} (ho : Out S H H') (hS : ∀ j ∈ S, j ∈ x.ids) (hc : C0 H' x.id [sl, .int .i64 f.sure]) (hw : Ow H' 5 1 sl (bs f.b)) (hr : ∀ j ∈ rid sl, j ∈ rid x.sl ∨ H.next ≤ j) (hrd : (rid sl).Nodup)
    (hsure : f.sure ≤ f.b.length) (hbyte : ∀ c ∈ f.b, c < 256) (hsum : sumB (setF x.f.nm f m.fs) ≤ m.room) :
    St H' p { m with fs := setF x.f.nm f m.fs } { L with cs := a ++ ⟨x.id, sl, x.born, f⟩ :: b } ∧ Go' p H L H' { L with cs := a ++ ⟨x.id, sl, x.born, f⟩ :: b } := by
  have hxL : x ∈ L.cs := by rw [hL]; simp
  have hfs : setF x.f.nm f m.fs = (a ++ ⟨x.id, sl, x.born, f⟩ :: b).map (·.f) := by
    rw [h.fs, hL, setF_split rfl ha hb, List.map_append, List.map_cons]
  have hnd := h.nd
  unfold foot at hnd
  rw [hL, List.flatMap_append, List.flatMap_cons, List.nodup_cons, List.nodup_cons, List.nodup_append, List.nodup_append, List.nodup_append] at hnd
  obtain ⟨n1, n2, n3, ⟨n4, ⟨n5, n6, n7⟩, n8⟩, n9⟩ := hnd
  have hlt := h.lt
  have sub : ∀ j ∈ S, j ∈ x.ids := hS
  have nx : ∀ j, j ∉ x.ids → j ∉ S := fun j hj q => hj (sub j q)
  have hp : p ∉ S := nx _ fun q => n1 (.tail _ (List.mem_append_right _ (List.mem_append_right _ (List.mem_append_left _ q))))
  have hmid : L.mid ∉ S := nx _ fun q => n2 (List.mem_append_right _ (List.mem_append_right _ (List.mem_append_left _ q)))
  have hkeep : ∀ j ∈ rid L.keep, j ∉ S := fun j hj => nx _ fun q => n9 _ hj _ (List.mem_append_right _ (List.mem_append_left _ q)) rfl
  have hA : ∀ y ∈ a, ∀ j ∈ y.ids, j ∉ S := fun y hy j hj => nx _ fun q => n8 _ (List.mem_flatMap.2 ⟨y, hy, hj⟩) _ (List.mem_append_left _ q) rfl
  have hB : ∀ y ∈ b, ∀ j ∈ y.ids, j ∉ S := fun y hy j hj => nx _ fun q => n7 _ q _ (List.mem_flatMap.2 ⟨y, hy, hj⟩) rfl
  -- the new object of the row is nobody else's
  have key : ∀ j ∈ FC.ids ⟨x.id, sl, x.born, f⟩, j ∈ x.ids ∨ H.next ≤ j := by
    intro j hj
    rcases List.mem_cons.1 hj with rfl | hj
    · exact .inl (.head _)
    · exact (hr j hj).imp (List.mem_cons_of_mem _) id
  have away : ∀ j ∈ FC.ids ⟨x.id, sl, x.born, f⟩, ∀ k ∈ foot p L, k ∉ x.ids → j ≠ k := by
    intro j hj k hk hkx e
    rcases key j hj with q | q
    · exact hkx (e ▸ q)
    · have := hlt k hk; omega
  have mA : ∀ y ∈ a, y ∈ L.cs := fun y hy => by rw [hL]; exact List.mem_append_left _ hy
  have mB : ∀ y ∈ b, y ∈ L.cs := fun y hy => by rw [hL]; exact List.mem_append_right _ (.tail _ hy)
  refine ⟨⟨h.head.out ho hp, ?_, ?_, h.keep.out ho hkeep, ?_, ?_, hfs, ⟨h.ok.room, hsum, ?_, ?_, h.ok.fuse, ?_, ?_, ?_⟩⟩, ho.mono fun j hj => St.mem_file hxL (sub j hj), ?_⟩
  · have hm := h.map.out ho hmid
    rw [hL] at hm
    rw [List.map_append, List.map_cons] at hm ⊢
    have : FC.me ⟨x.id, sl, x.born, f⟩ = x.me := by unfold FC.me; rw [hnm]
    rw [this]; exact hm
  · intro y hy
    rcases List.mem_append.1 hy with hy | hy
    · exact ⟨(h.file y (mA y hy)).1.out ho (hA y hy _ (.head _)), (h.file y (mA y hy)).2.out ho fun j hj => hA y hy j (.tail _ hj)⟩
    · rcases List.mem_cons.1 hy with rfl | hy
      · exact ⟨hc, hw⟩
      · exact ⟨(h.file y (mB y hy)).1.out ho (hB y hy _ (.head _)), (h.file y (mB y hy)).2.out ho fun j hj => hB y hy j (.tail _ hj)⟩
  · unfold foot
    rw [List.flatMap_append, List.flatMap_cons, List.nodup_cons, List.nodup_cons, List.nodup_append, List.nodup_append, List.nodup_append]
    have pX : p ∉ x.ids := fun q => n1 (.tail _ (List.mem_append_right _ (List.mem_append_right _ (List.mem_append_left _ q))))
    have mX : L.mid ∉ x.ids := fun q => n2 (List.mem_append_right _ (List.mem_append_right _ (List.mem_append_left _ q)))
    have aX : ∀ k ∈ a.flatMap FC.ids, k ∉ x.ids := fun k hk q => n8 _ hk _ (List.mem_append_left _ q) rfl
    have bX : ∀ k ∈ b.flatMap FC.ids, k ∉ x.ids := fun k hk q => n7 _ q _ hk rfl
    have kX : ∀ k ∈ rid L.keep, k ∉ x.ids := fun k hk q => n9 _ hk _ (List.mem_append_right _ (List.mem_append_left _ q)) rfl
    have fA : ∀ k ∈ a.flatMap FC.ids, k ∈ foot p L := fun k hk => by
      obtain ⟨y, hy, hk⟩ := List.mem_flatMap.1 hk
      exact St.mem_file (mA y hy) hk
    have fB : ∀ k ∈ b.flatMap FC.ids, k ∈ foot p L := fun k hk => by
      obtain ⟨y, hy, hk⟩ := List.mem_flatMap.1 hk
      exact St.mem_file (mB y hy) hk
    refine ⟨fun e => ?_, fun e => ?_, n3, ⟨n4, ⟨?_, n6, fun j hj k hk => away j hj k (fB k hk) (bX k hk)⟩, fun j hj k hk e => ?_⟩, fun j hj k hk e => ?_⟩
    · rcases List.mem_cons.1 e with e | e
      · exact n1 (by rw [e]; exact .head _)
      rcases List.mem_append.1 e with e | e
      · exact n1 (.tail _ (List.mem_append_left _ e))
      rcases List.mem_append.1 e with e | e
      · exact n1 (.tail _ (List.mem_append_right _ (List.mem_append_left _ e)))
      rcases List.mem_append.1 e with e | e
      · exact away _ e p St.mem_p pX rfl
      · exact n1 (.tail _ (List.mem_append_right _ (List.mem_append_right _ (List.mem_append_right _ e))))
    · rcases List.mem_append.1 e with e | e
      · exact n2 (List.mem_append_left _ e)
      rcases List.mem_append.1 e with e | e
      · exact n2 (List.mem_append_right _ (List.mem_append_left _ e))
      rcases List.mem_append.1 e with e | e
      · exact away _ e L.mid St.mem_mid mX rfl
      · exact n2 (List.mem_append_right _ (List.mem_append_right _ (List.mem_append_right _ e)))
    · show (x.id :: rid sl).Nodup
      rw [List.nodup_cons]
      refine ⟨fun q => ?_, hrd⟩
      rcases hr _ q with q | q
      · have : (x.id :: rid x.sl).Nodup := n5
        rw [List.nodup_cons] at this
        exact this.1 q
      · have := hlt x.id (St.mem_file hxL (.head _)); omega
    · rcases List.mem_append.1 hk with hk | hk
      · exact away k hk j (fA j hj) (aX j hj) e.symm
      · exact n8 _ hj _ (List.mem_append_right _ hk) e
    · rcases List.mem_append.1 hk with hk | hk
      · exact n9 _ hj _ (List.mem_append_left _ hk) e
      rcases List.mem_append.1 hk with hk | hk
      · exact away k hk j (St.mem_keep hj) (kX j hj) e.symm
      · exact n9 _ hj _ (List.mem_append_right _ (List.mem_append_right _ hk)) e
  · have hbn := h.born
    rw [hL] at hbn
    rw [List.map_append, List.map_cons] at hbn ⊢
    have : FC.me ⟨x.id, sl, x.born, f⟩ = x.me := by unfold FC.me; rw [hnm]
    rw [this]; exact hbn
  · intro g hg
    unfold setF at hg
    obtain ⟨g', hg', rfl⟩ := List.mem_map.1 hg
    split
    · exact hsure
    · exact h.ok.sure g' hg'
  · intro g hg
    unfold setF at hg
    obtain ⟨g', hg', rfl⟩ := List.mem_map.1 hg
    split
    · exact hbyte
    · exact h.ok.byte g' hg'
  · have : (setF x.f.nm f m.fs).map (·.nm) = m.fs.map (·.nm) := by
      unfold setF
      rw [List.map_map]
      refine List.map_congr_left fun g hg => ?_
      simp only [Function.comp]
      split
      · rename_i q; rw [q, hnm]
      · rfl
    rw [this]; exact h.ok.names
  · intro g hg
    unfold setF at hg
    obtain ⟨g', hg', rfl⟩ := List.mem_map.1 hg
    split
    · rename_i q; rw [hnm, ← q]; exact h.ok.good g' hg'
    · exact h.ok.good g' hg'
  · simp only [setF, List.length_map]; exact h.ok.many
  · intro j hj
    unfold foot at hj
    rcases List.mem_cons.1 hj with rfl | hj
    · exact .inl St.mem_p
    rcases List.mem_cons.1 hj with rfl | hj
    · exact .inl St.mem_mid
    rcases List.mem_append.1 hj with hj | hj
    · exact .inl (St.mem_keep hj)
    · obtain ⟨y, hy, hj'⟩ := List.mem_flatMap.1 hj
      rcases List.mem_append.1 hy with hy | hy
      · exact .inl (St.mem_file (mA y hy) hj')
      · rcases List.mem_cons.1 hy with rfl | hy
        · exact (key j hj').imp (St.mem_file hxL) id
        · exact .inl (St.mem_file (mB y hy) hj')
end

/-! the room that is left, the names -/
theorem sumF_files {H : Hp} : ∀ cs : List FC, (∀ x ∈ cs, C0 H x.id [x.sl, .int .i64 x.f.sure] ∧ Ow H 5 1 x.sl (bs x.f.b)) → sumF H (cs.map FC.me) = some (sumB (cs.map (·.f)))
  | [], _ => rfl
  | x :: cs, h => by
    obtain ⟨h1, h2⟩ := h x (.head _)
    have ih := sumF_files cs fun y hy => h y (.tail _ hy)
    have hl : lenAt H x.me.val = some x.f.b.length := by
      show F.oE lenC (F.cellAt H x.id 0) = _
      rw [F.oE_eq, F.cellAt_eq]
      have h1' : cellAt H x.id 0 = some x.sl := h1.ld (o := 0) rfl
      rw [h1']
      have h3 := h2.rw.len1
      rw [bs_len] at h3
      show lenC x.sl = _
      cases hsl : x.sl <;> rw [hsl] at h3 <;> first | (cases h3; done) | skip
      · simp only [lenx, Option.some.injEq, AV.int.injEq, true_and] at h3
        simp only [lenC, Option.some.injEq]; omega
      · simp only [lenx, Option.some.injEq, AV.int.injEq, true_and] at h3
        simp only [lenC, Option.some.injEq]; omega
    show F.oE (sum2 (sumF H (cs.map FC.me))) (lenAt H x.me.val) = _
    rw [hl, ih]
    show F.forceN some (Nat.add x.f.b.length (sumB (cs.map (·.f)))) = _
    rw [F.forceN_eq]
    rfl
section
variable {H : Hp} {p : Nat} {m : SM} {L : Lay}
theorem free_c (h : St H p m L) : cK (.func (.func 17) [] []) [.ptr p 0] H = some (.int .i64 ((m.room : Int) - sumB m.fs), H) := by
  refine ck_prim prim_free ?_
  have h0 : cellAt H p 0 = some (.int .i64 m.room) := h.head.ld (o := 0) rfl
  have h1 : cellAt H p 1 = some (.map L.mid) := h.head.ld (o := 1) rfl
  have hroom := h.ok.room
  have hsum := h.ok.sum
  have hr : okRoom (m.room : Int) = true := by
    show Nat.ble m.room 9223372036854775807 = true
    rw [Nat.ble_eq]; omega
  show free1 H p 0 = _
  unfold free1
  rw [F.cellAt_eq, F.cellAt_eq, h0, h1]
  show free2 H (.int .i64 m.room) (.map L.mid) = _
  unfold free2
  simp only
  rw [F.bothB_eq, hr, F.get_eq]
  show F.oE (free3 H (m.room : Int)) (H.h.get L.mid) = _
  rw [h.map.2, F.oE_eq]
  show free3 H (m.room : Int) (.map (L.cs.map FC.me) L.clk) = _
  unfold free3
  simp only [h.born]
  show F.oE (free4 H (m.room : Int)) (sumF H (L.cs.map FC.me)) = _
  rw [sumF_files L.cs h.file, F.oE_eq, ← h.fs]
  show free4 H (m.room : Int) (sumB m.fs) = _
  unfold free4
  rw [F.subI_eq, F.oP_eq]
  have : IntKind.wrap .i64 ((m.room : Int) - Int.ofNat (sumB m.fs)) = (m.room : Int) - sumB m.fs := wrap_i64 (by simp only [Int.ofNat_eq_natCast]; omega) (by simp only [Int.ofNat_eq_natCast]; omega)
  rw [this]; rfl
theorem keysN_files : ∀ cs : List FC, keysN (cs.map FC.me) = some (cs.map (·.f.nm))
  | [] => rfl
  | x :: cs => by
    show key1 (keysN (cs.map FC.me)) (.str x.f.nm) = _
    rw [keysN_files cs]; rfl
theorem nodupN_of : ∀ l : List (List Nat), l.Nodup → nodupN l = true
  | [], _ => rfl
  | x :: l, h => by
    rw [List.nodup_cons] at h
    have h1 : memL x l = false := by rw [← Bool.not_eq_true]; exact fun q => h.1 ((memL_iff x l).1 q)
    show @Bool.rec (fun _ => Bool) (nodupN l) false (memL x l) = true
    rw [h1]; exact nodupN_of l h.2
theorem shortN_of : ∀ l : List (List Nat), (∀ x ∈ l, x.length ≤ 16777216) → shortN l = true
  | [], _ => rfl
  | x :: l, h => by
    show F.bothB (Nat.ble (F.lenL x) 16777216) (shortN l) = true
    rw [F.bothB_eq, F.lenL_eq, shortN_of l fun y hy => h y (.tail _ hy), Bool.and_true, Nat.ble_eq]
    exact h x (.head _)
theorem okName_len {s : List Nat} (h : okName s = true) : s.length ≤ 16 := by
  unfold okName at h
  simp only [Bool.and_eq_true, decide_eq_true_eq] at h
  omega
noncomputable def names (m : SM) : List (List Nat) := sortN (m.fs.map (·.nm))
theorem insN_len (x : List Nat) : ∀ l : List (List Nat), (insN x l).length = l.length + 1
  | [] => rfl
  | y :: l => by
    show (@Bool.rec (fun _ => List (List Nat)) (x :: y :: l) (y :: insN x l) (ltN y x)).length = _
    cases ltN y x
    · rfl
    · show (insN x l).length + 1 = _
      rw [insN_len x l]; rfl
theorem sortN_len : ∀ l : List (List Nat), (sortN l).length = l.length
  | [] => rfl
  | x :: l => by
    show (insN x (sortN l)).length = _
    rw [insN_len, sortN_len l]; rfl
theorem insN_mem (x y : List Nat) : ∀ l : List (List Nat), y ∈ insN x l ↔ y = x ∨ y ∈ l
  | [] => by show y ∈ [x] ↔ _; simp
  | z :: l => by
    show y ∈ @Bool.rec (fun _ => List (List Nat)) (x :: z :: l) (z :: insN x l) (ltN z x) ↔ _
    cases ltN z x
    · show y ∈ x :: z :: l ↔ _
      simp
    · show y ∈ z :: insN x l ↔ _
      rw [List.mem_cons, insN_mem x y l, List.mem_cons]
      constructor
      · rintro (h | h | h)
        · exact .inr (.inl h)
        · exact .inl h
        · exact .inr (.inr h)
      · rintro (h | h | h)
        · exact .inr (.inl h)
        · exact .inl h
        · exact .inr (.inr h)
theorem sortN_mem (y : List Nat) : ∀ l : List (List Nat), y ∈ sortN l ↔ y ∈ l
  | [] => Iff.rfl
  | x :: l => by
    show y ∈ insN x (sortN l) ↔ _
    rw [insN_mem, sortN_mem y l, List.mem_cons]
def strs (l : List (List Nat)) : List AV := l.map AV.str
theorem names_c (h : St H p m L) : ∃ x H', cK (.func (.func 22) [] []) [.ptr p 0] H = some (x, H') ∧ Rw H' 1 x (strs (names m)) ∧ Out [] H H' ∧ (∀ j ∈ rid x, H.next ≤ j) ∧ lenx x = some (.int .i64 (names m).length) := by
  have h1 : cellAt H p 1 = some (.map L.mid) := h.head.ld (o := 1) rfl
  have hgood : ∀ x ∈ L.cs.map (·.f.nm), x.length ≤ 16777216 := by
    intro x hx
    obtain ⟨y, hy, rfl⟩ := List.mem_map.1 hx
    have := okName_len (h.ok.good y.f (by rw [h.fs]; exact List.mem_map.2 ⟨y, hy, rfl⟩))
    omega
  have hnd : (L.cs.map (·.f.nm)).Nodup := by
    have := h.ok.names
    rw [h.fs, List.map_map] at this
    exact this
  have hmany := h.ok.many
  rw [h.fs, List.length_map] at hmany
  have hN : names m = sortN (L.cs.map (·.f.nm)) := by unfold names; rw [h.fs, List.map_map]; rfl
  have hp : namesP 9 [.ptr p 0] H = names4 9 H (names m) := by
    show names1 9 H p 0 = _
    unfold names1
    rw [F.cellAt_eq, h1]
    show F.oE (names2 9 H) (F.get H.1 L.mid) = _
    rw [F.get_eq, F.oE_eq]
    show (H.h.get L.mid).bind _ = _
    rw [h.map.2]
    show names2 9 H (.map (L.cs.map FC.me) L.clk) = _
    show F.oE (names3 9 H L.clk (L.cs.map FC.me)) (keysN (L.cs.map FC.me)) = _
    rw [keysN_files, F.oE_eq]
    show names3 9 H L.clk (L.cs.map FC.me) (L.cs.map (·.f.nm)) = _
    unfold names3
    rw [F.bothB_eq, F.bothB_eq, F.bothB_eq, h.born, nodupN_of _ hnd, shortN_of _ hgood, F.lenL_eq]
    have : Nat.ble (L.cs.map FC.me).length 16777216 = true := by rw [Nat.ble_eq, List.length_map]; omega
    rw [this, hN]; rfl
  have hlen : (names m).length = L.cs.length := by rw [hN, sortN_len, List.length_map]
  cases hn : names m with
  | nil =>
    refine ⟨.slice0, H, ck_prim prim_names ?_, .nil, Out.refl _ _, (fun j hj => by cases hj), rfl⟩
    rw [hp, hn]; rfl
  | cons y ys =>
    obtain ⟨H', q1, q2, q3, q4⟩ := newCells_ok H (strs (y :: ys)) 9 0 (by unfold strs; rw [List.length_map, ← hn, hlen]; omega)
    refine ⟨.slice H.next 0 (y :: ys).length (y :: ys).length false 1, H', ck_prim prim_names ?_, .mk q2.ro (by unfold strs; rw [List.length_map, Nat.mul_one]) (Nat.le_refl _) rfl, q3, fun j hj => ?_, rfl⟩
    · rw [hp, hn]
      show F.newC H 9 0 (sl1 (F.lenL (y :: ys))) (F.mapL AV.str (y :: ys)) = _
      rw [F.newC_eq, F.mapL_eq, F.lenL_eq]
      have : newCells H (List.map AV.str (y :: ys)) 9 0 = some (H.next, H') := q1
      rw [this]; rfl
    · simp only [rid, Bool.false_and, cond_false, List.mem_singleton] at hj
      omega
end

/-! the calls -/
theorem rw_one {H : Hp} {es : Nat} {x : AV} {l : List AV} (h : Rw H es x l) : oneC x = true := by cases h <;> rfl
def look (m : SM) (at' : List Nat) : Option Fl := m.fs.find? (fun f => f.nm == at')
noncomputable def ofE (m : SM) (at' : List Nat) : Int := if m.off = true then 11 else if okName at' = false then 1 else if (look m at').isNone = true then 4 else 0
theorem clone_b {H : Hp} {x : AV} {l : List AV} (hx : Rw H 1 x l) (h1 : ∀ v ∈ l, oneC v = true) (hl : l.length ≤ 16777216) :
    ∃ x' H', cK (.func (.func 38) [] []) [x] H = some (x', H') ∧ Ow H' 5 1 x' l ∧ Out [] H H' ∧ ∀ j ∈ rid x', H.next ≤ j := by
  have hgen : ∀ i off n cap ex, x = .slice i off n cap ex 1 → ∃ x' H', cK (.func (.func 38) [] []) [x] H = some (x', H') ∧ Ow H' 5 1 x' l ∧ Out [] H H' ∧ ∀ j ∈ rid x', H.next ≤ j := by
    intro i off n cap ex he
    subst he
    obtain ⟨H1, a1, a2, a3, a4⟩ := newCells_ok H [] 5 0 (by simp)
    have hx1 := hx.out a3 (fun j _ q => by cases q)
    obtain ⟨x', H', b1, b2, b3, b4⟩ := append_ok (H := H1) (el := 5) (es := 1) (z := [.int .u8 0]) (s := .slice H.next 0 0 0 true 1) (l := []) .emp hx1 h1 (by omega) (by simpa using hl)
    refine ⟨x', H', c_slices_Clone___byte_byte_ ?_, by simpa using b2, a3.then b3 (fun j hj => by cases hj), fun j hj => ?_⟩
    · unfold s_slices_Clone___byte_byte_
      simp only [gA_es, IFT_t, nilS_f Tryd.underlying22, fl_nil, a1, b1, JN_0, JN_1, JN_2, JN_3, JN_4, JN_5, JN_6, JN_7, JN_8, JN_9, JN_10, JN_11, JN_12, JN_13, JN_14, JN_15, JN_16, JN_17, JN_18, JN_19, JN_20, JN_21, JN_22, JN_23, JN_24, B1_s, B2_s, BN_s, CD_t, CD_f, GO_tt, GO_ft, GO_tf, GO_ff, GO_ut, GO_uf, GD2_tt, GD2_ft, GD2_tf, GD2_ff, pk_t, pk_f, nilA_p, nilA_i, fa_p, fd_a, ex_t, iadd_i, isub_i, imul_i, ieq_i, ine_i, ilt_i, ile_i, igt_i, ige_i, seq_s, sne_s, slt_s, lens_s, lenx_0, lenx_s, not_b, bb_e, bb_n, cv_i, pe_00, pe_0p, pe_p0, eqB_e, eqB_n, List.getElem?_cons_zero, List.getElem?_cons_succ, Nat.zero_add, Bool.not_true, Bool.not_false, decide_true, decide_false, Int.reduceBEq, Int.reduceBNe, Int.reduceLT, Int.reduceLE, Int.reduceGT, Int.reduceGE, Int.reduceNeg, BEq.rfl, bne_self_eq_false, ge_iff_le, gt_iff_lt]
    · rcases b4 j hj with q | q
      · cases q
      · omega
  cases hx with
  | nil =>
    refine ⟨.slice0, H, c_slices_Clone___byte_byte_ ?_, .nil, Out.refl _ _, fun j hj => by cases hj⟩
    unfold s_slices_Clone___byte_byte_
    simp only [gA_e0, IFT_t, nilS_t Tryd.underlying22, JN_0, JN_1, JN_2, JN_3, JN_4, JN_5, JN_6, JN_7, JN_8, JN_9, JN_10, JN_11, JN_12, JN_13, JN_14, JN_15, JN_16, JN_17, JN_18, JN_19, JN_20, JN_21, JN_22, JN_23, JN_24, B1_s, B2_s, BN_s, CD_t, CD_f, GO_tt, GO_ft, GO_tf, GO_ff, GO_ut, GO_uf, GD2_tt, GD2_ft, GD2_tf, GD2_ff, pk_t, pk_f, nilA_p, nilA_i, fa_p, fd_a, ex_t, iadd_i, isub_i, imul_i, ieq_i, ine_i, ilt_i, ile_i, igt_i, ige_i, seq_s, sne_s, slt_s, lens_s, lenx_0, lenx_s, not_b, bb_e, bb_n, cv_i, pe_00, pe_0p, pe_p0, eqB_e, eqB_n, List.getElem?_cons_zero, List.getElem?_cons_succ, Nat.zero_add, Bool.not_true, Bool.not_false, decide_true, decide_false, Int.reduceBEq, Int.reduceBNe, Int.reduceLT, Int.reduceLE, Int.reduceGT, Int.reduceGE, Int.reduceNeg, BEq.rfl, bne_self_eq_false, ge_iff_le, gt_iff_lt]
  | emp => exact hgen _ _ _ _ _ rfl
  | mk => exact hgen _ _ _ _ _ rfl
theorem clone_i {H : Hp} {x : AV} {l : List AV} (hx : Rw H 1 x l) (h1 : ∀ v ∈ l, oneC v = true) (hl : l.length ≤ 16777216) :
    ∃ x' H', cK (.func (.func 39) [] []) [x] H = some (x', H') ∧ Ow H' 3 1 x' l ∧ Out [] H H' ∧ ∀ j ∈ rid x', H.next ≤ j := by
  have hgen : ∀ i off n cap ex, x = .slice i off n cap ex 1 → ∃ x' H', cK (.func (.func 39) [] []) [x] H = some (x', H') ∧ Ow H' 3 1 x' l ∧ Out [] H H' ∧ ∀ j ∈ rid x', H.next ≤ j := by
    intro i off n cap ex he
    subst he
    obtain ⟨H1, a1, a2, a3, a4⟩ := newCells_ok H [] 3 0 (by simp)
    have hx1 := hx.out a3 (fun j _ q => by cases q)
    obtain ⟨x', H', b1, b2, b3, b4⟩ := append_ok (H := H1) (el := 3) (es := 1) (z := [.int .i64 0]) (s := .slice H.next 0 0 0 true 1) (l := []) .emp hx1 h1 (by omega) (by simpa using hl)
    refine ⟨x', H', c_slices_Clone___int_int_ ?_, by simpa using b2, a3.then b3 (fun j hj => by cases hj), fun j hj => ?_⟩
    · unfold s_slices_Clone___int_int_
      simp only [gA_es, IFT_t, nilS_f Tryd.underlying40, fl_nil, a1, b1, JN_0, JN_1, JN_2, JN_3, JN_4, JN_5, JN_6, JN_7, JN_8, JN_9, JN_10, JN_11, JN_12, JN_13, JN_14, JN_15, JN_16, JN_17, JN_18, JN_19, JN_20, JN_21, JN_22, JN_23, JN_24, B1_s, B2_s, BN_s, CD_t, CD_f, GO_tt, GO_ft, GO_tf, GO_ff, GO_ut, GO_uf, GD2_tt, GD2_ft, GD2_tf, GD2_ff, pk_t, pk_f, nilA_p, nilA_i, fa_p, fd_a, ex_t, iadd_i, isub_i, imul_i, ieq_i, ine_i, ilt_i, ile_i, igt_i, ige_i, seq_s, sne_s, slt_s, lens_s, lenx_0, lenx_s, not_b, bb_e, bb_n, cv_i, pe_00, pe_0p, pe_p0, eqB_e, eqB_n, List.getElem?_cons_zero, List.getElem?_cons_succ, Nat.zero_add, Bool.not_true, Bool.not_false, decide_true, decide_false, Int.reduceBEq, Int.reduceBNe, Int.reduceLT, Int.reduceLE, Int.reduceGT, Int.reduceGE, Int.reduceNeg, BEq.rfl, bne_self_eq_false, ge_iff_le, gt_iff_lt]
    · rcases b4 j hj with q | q
      · cases q
      · omega
  cases hx with
  | nil =>
    refine ⟨.slice0, H, c_slices_Clone___int_int_ ?_, .nil, Out.refl _ _, fun j hj => by cases hj⟩
    unfold s_slices_Clone___int_int_
    simp only [gA_e0, IFT_t, nilS_t Tryd.underlying40, JN_0, JN_1, JN_2, JN_3, JN_4, JN_5, JN_6, JN_7, JN_8, JN_9, JN_10, JN_11, JN_12, JN_13, JN_14, JN_15, JN_16, JN_17, JN_18, JN_19, JN_20, JN_21, JN_22, JN_23, JN_24, B1_s, B2_s, BN_s, CD_t, CD_f, GO_tt, GO_ft, GO_tf, GO_ff, GO_ut, GO_uf, GD2_tt, GD2_ft, GD2_tf, GD2_ff, pk_t, pk_f, nilA_p, nilA_i, fa_p, fd_a, ex_t, iadd_i, isub_i, imul_i, ieq_i, ine_i, ilt_i, ile_i, igt_i, ige_i, seq_s, sne_s, slt_s, lens_s, lenx_0, lenx_s, not_b, bb_e, bb_n, cv_i, pe_00, pe_0p, pe_p0, eqB_e, eqB_n, List.getElem?_cons_zero, List.getElem?_cons_succ, Nat.zero_add, Bool.not_true, Bool.not_false, decide_true, decide_false, Int.reduceBEq, Int.reduceBNe, Int.reduceLT, Int.reduceLE, Int.reduceGT, Int.reduceGE, Int.reduceNeg, BEq.rfl, bne_self_eq_false, ge_iff_le, gt_iff_lt]
  | emp => exact hgen _ _ _ _ _ rfl
  | mk => exact hgen _ _ _ _ _ rfl
section
variable {H : Hp} {p : Nat} {m : SM} {L : Lay}
theorem St.lookC (h : St H p m L) (at' : List Nat) : (fp L at' = .ptr0 ∧ look m at' = none ∧ ∀ x ∈ L.cs, x.f.nm ≠ at') ∨
    ∃ a x b, L.cs = a ++ x :: b ∧ x.f.nm = at' ∧ (∀ y ∈ a, y.f.nm ≠ at') ∧ (∀ y ∈ b, y.f.nm ≠ at') ∧ fp L at' = .ptr x.id 0 ∧ look m at' = some x.f := by
  rcases h.find at' with ⟨h1, h2, h3⟩ | ⟨a, x, b, h1, h2, h3, h4, h5, h6⟩
  · refine .inl ⟨h1, ?_, h3⟩
    unfold look
    rw [h.fs, List.find?_eq_none]
    intro f hf
    obtain ⟨x, hx, rfl⟩ := List.mem_map.1 hf
    simpa using h3 x hx
  · refine .inr ⟨a, x, b, h1, h2, h3, h4, h5, ?_⟩
    unfold look
    rw [h.fs, List.find?_eq_some_iff_append]
    exact ⟨by simpa using h2, a.map (·.f), b.map (·.f), by rw [h1, List.map_append, List.map_cons], fun f hf => by
      obtain ⟨y, hy, rfl⟩ := List.mem_map.1 hf
      simpa using h3 y hy⟩
theorem St.ld_map (h : St H p m L) : ld (.ptr p 1) H = some (.map L.mid) := h.head.ld (o := 1) rfl
theorem St.ld_off (h : St H p m L) : ld (.ptr p 2) H = some (.bool m.off) := h.head.ld (o := 2) rfl
theorem St.ld_fuse (h : St H p m L) : ld (.ptr p 3) H = some (.int .i64 m.fuse) := h.head.ld (o := 3) rfl
theorem St.ld_keep (h : St H p m L) : ld (.ptr p 4) H = some L.keep := h.head.ld (o := 4) rfl
theorem of_c (h : St H p m L) (at' : List Nat) : cK (.func (.func 36) [] []) [.ptr p 0, .str at'] H =
    some (.tuple [if m.off = true ∨ okName at' = false then .ptr0 else fp L at', .int .i64 (ofE m at')], H) := by
  refine c_store_Store_of ?_
  unfold s_store_Store_of
  have h1 := h.ld_map
  have h2 := h.ld_off
  have h3 := h.lkp at'
  have h4 := name_c at' H
  have h5 := h.pe0 at' H
  simp only [h1, h2, h3, h4, h5, JN_0, JN_1, JN_2, JN_3, JN_4, JN_5, JN_6, JN_7, JN_8, JN_9, JN_10, JN_11, JN_12, JN_13, JN_14, JN_15, JN_16, JN_17, JN_18, JN_19, JN_20, JN_21, JN_22, JN_23, JN_24, B1_s, B2_s, BN_s, CD_t, CD_f, GO_tt, GO_ft, GO_tf, GO_ff, GO_ut, GO_uf, GD2_tt, GD2_ft, GD2_tf, GD2_ff, pk_t, pk_f, nilA_p, nilA_i, fa_p, fd_a, ex_t, iadd_i, isub_i, imul_i, ieq_i, ine_i, ilt_i, ile_i, igt_i, ige_i, seq_s, sne_s, slt_s, lens_s, lenx_0, lenx_s, not_b, bb_e, bb_n, cv_i, pe_00, pe_0p, pe_p0, eqB_e, eqB_n, List.getElem?_cons_zero, List.getElem?_cons_succ, Nat.zero_add, Bool.not_true, Bool.not_false, decide_true, decide_false, Int.reduceBEq, Int.reduceBNe, Int.reduceLT, Int.reduceLE, Int.reduceGT, Int.reduceGE, Int.reduceNeg, BEq.rfl, bne_self_eq_false, ge_iff_le, gt_iff_lt]
  cases ho : m.off with
  | true => simp only [JN_0, JN_1, JN_2, JN_3, JN_4, JN_5, JN_6, JN_7, JN_8, JN_9, JN_10, JN_11, JN_12, JN_13, JN_14, JN_15, JN_16, JN_17, JN_18, JN_19, JN_20, JN_21, JN_22, JN_23, JN_24, B1_s, B2_s, BN_s, CD_t, CD_f, GO_tt, GO_ft, GO_tf, GO_ff, GO_ut, GO_uf, GD2_tt, GD2_ft, GD2_tf, GD2_ff, pk_t, pk_f, nilA_p, nilA_i, fa_p, fd_a, ex_t, iadd_i, isub_i, imul_i, ieq_i, ine_i, ilt_i, ile_i, igt_i, ige_i, seq_s, sne_s, slt_s, lens_s, lenx_0, lenx_s, not_b, bb_e, bb_n, cv_i, pe_00, pe_0p, pe_p0, eqB_e, eqB_n, List.getElem?_cons_zero, List.getElem?_cons_succ, Nat.zero_add, Bool.not_true, Bool.not_false, decide_true, decide_false, Int.reduceBEq, Int.reduceBNe, Int.reduceLT, Int.reduceLE, Int.reduceGT, Int.reduceGE, Int.reduceNeg, BEq.rfl, bne_self_eq_false, ge_iff_le, gt_iff_lt, true_or, if_true, ofE, ho]
  | false =>
    cases hk : okName at' with
    | false => simp only [JN_0, JN_1, JN_2, JN_3, JN_4, JN_5, JN_6, JN_7, JN_8, JN_9, JN_10, JN_11, JN_12, JN_13, JN_14, JN_15, JN_16, JN_17, JN_18, JN_19, JN_20, JN_21, JN_22, JN_23, JN_24, B1_s, B2_s, BN_s, CD_t, CD_f, GO_tt, GO_ft, GO_tf, GO_ff, GO_ut, GO_uf, GD2_tt, GD2_ft, GD2_tf, GD2_ff, pk_t, pk_f, nilA_p, nilA_i, fa_p, fd_a, ex_t, iadd_i, isub_i, imul_i, ieq_i, ine_i, ilt_i, ile_i, igt_i, ige_i, seq_s, sne_s, slt_s, lens_s, lenx_0, lenx_s, not_b, bb_e, bb_n, cv_i, pe_00, pe_0p, pe_p0, eqB_e, eqB_n, List.getElem?_cons_zero, List.getElem?_cons_succ, Nat.zero_add, Bool.not_true, Bool.not_false, decide_true, decide_false, Int.reduceBEq, Int.reduceBNe, Int.reduceLT, Int.reduceLE, Int.reduceGT, Int.reduceGE, Int.reduceNeg, BEq.rfl, bne_self_eq_false, ge_iff_le, gt_iff_lt, or_true, if_true, ofE, ho, hk, Bool.false_eq_true, if_false]
    | true =>
      simp only [JN_0, JN_1, JN_2, JN_3, JN_4, JN_5, JN_6, JN_7, JN_8, JN_9, JN_10, JN_11, JN_12, JN_13, JN_14, JN_15, JN_16, JN_17, JN_18, JN_19, JN_20, JN_21, JN_22, JN_23, JN_24, B1_s, B2_s, BN_s, CD_t, CD_f, GO_tt, GO_ft, GO_tf, GO_ff, GO_ut, GO_uf, GD2_tt, GD2_ft, GD2_tf, GD2_ff, pk_t, pk_f, nilA_p, nilA_i, fa_p, fd_a, ex_t, iadd_i, isub_i, imul_i, ieq_i, ine_i, ilt_i, ile_i, igt_i, ige_i, seq_s, sne_s, slt_s, lens_s, lenx_0, lenx_s, not_b, bb_e, bb_n, cv_i, pe_00, pe_0p, pe_p0, eqB_e, eqB_n, List.getElem?_cons_zero, List.getElem?_cons_succ, Nat.zero_add, Bool.not_true, Bool.not_false, decide_true, decide_false, Int.reduceBEq, Int.reduceBNe, Int.reduceLT, Int.reduceLE, Int.reduceGT, Int.reduceGE, Int.reduceNeg, BEq.rfl, bne_self_eq_false, ge_iff_le, gt_iff_lt, or_self, if_false, ofE, ho, hk, Bool.false_eq_true, Bool.true_eq_false]
      rcases h.find at' with ⟨q1, q2, q3⟩ | ⟨a, x, b, q1, q2, q3, q4, q5, q6⟩ <;> rcases h.lookC at' with ⟨r1, r2, r3⟩ | ⟨a', x', b', r1, r2, r3, r4, r5, r6⟩
      · simp only [q1, q2, r2, JN_0, JN_1, JN_2, JN_3, JN_4, JN_5, JN_6, JN_7, JN_8, JN_9, JN_10, JN_11, JN_12, JN_13, JN_14, JN_15, JN_16, JN_17, JN_18, JN_19, JN_20, JN_21, JN_22, JN_23, JN_24, B1_s, B2_s, BN_s, CD_t, CD_f, GO_tt, GO_ft, GO_tf, GO_ff, GO_ut, GO_uf, GD2_tt, GD2_ft, GD2_tf, GD2_ff, pk_t, pk_f, nilA_p, nilA_i, fa_p, fd_a, ex_t, iadd_i, isub_i, imul_i, ieq_i, ine_i, ilt_i, ile_i, igt_i, ige_i, seq_s, sne_s, slt_s, lens_s, lenx_0, lenx_s, not_b, bb_e, bb_n, cv_i, pe_00, pe_0p, pe_p0, eqB_e, eqB_n, List.getElem?_cons_zero, List.getElem?_cons_succ, Nat.zero_add, Bool.not_true, Bool.not_false, decide_true, decide_false, Int.reduceBEq, Int.reduceBNe, Int.reduceLT, Int.reduceLE, Int.reduceGT, Int.reduceGE, Int.reduceNeg, BEq.rfl, bne_self_eq_false, ge_iff_le, gt_iff_lt, Option.isNone_none, if_true]
      · exact absurd r2 (q3 x' (by rw [r1]; simp))
      · exact absurd q2 (r3 x (by rw [q1]; simp))
      · simp only [q5, q6, r6, JN_0, JN_1, JN_2, JN_3, JN_4, JN_5, JN_6, JN_7, JN_8, JN_9, JN_10, JN_11, JN_12, JN_13, JN_14, JN_15, JN_16, JN_17, JN_18, JN_19, JN_20, JN_21, JN_22, JN_23, JN_24, B1_s, B2_s, BN_s, CD_t, CD_f, GO_tt, GO_ft, GO_tf, GO_ff, GO_ut, GO_uf, GD2_tt, GD2_ft, GD2_tf, GD2_ff, pk_t, pk_f, nilA_p, nilA_i, fa_p, fd_a, ex_t, iadd_i, isub_i, imul_i, ieq_i, ine_i, ilt_i, ile_i, igt_i, ige_i, seq_s, sne_s, slt_s, lens_s, lenx_0, lenx_s, not_b, bb_e, bb_n, cv_i, pe_00, pe_0p, pe_p0, eqB_e, eqB_n, List.getElem?_cons_zero, List.getElem?_cons_succ, Nat.zero_add, Bool.not_true, Bool.not_false, decide_true, decide_false, Int.reduceBEq, Int.reduceBNe, Int.reduceLT, Int.reduceLE, Int.reduceGT, Int.reduceGE, Int.reduceNeg, BEq.rfl, bne_self_eq_false, ge_iff_le, gt_iff_lt, Option.isNone_some, if_false, Bool.false_eq_true]
end
section
variable {H : Hp} {p : Nat} {m : SM} {L : Lay}
theorem on_c (h : St H p m L) : ∃ H', cK (.func (.func 14) [] []) [.ptr p 0] H = some (.tuple [], H') ∧ St H' p { m with off := false } L ∧ Go' p H L H' L := by
  obtain ⟨H', h1, h2, h3, h4⟩ := h.head.st (o := 2) (v := .bool false) (by simp) rfl
  have hk := h.keep.out h3 fun j hj q => by
    have hnd := h.nd
    unfold foot at hnd
    rw [List.nodup_cons] at hnd
    simp only [List.mem_singleton] at q
    exact hnd.1 (q ▸ .tail _ (List.mem_append_left _ hj))
  obtain ⟨q1, q2⟩ := h.setHead (off := false) (fuse := m.fuse) (keep := L.keep) (kl := m.keep) h2 h.ok.fuse h3 (fun j hj => .inl (by simpa using hj)) hk (fun j hj => .inl hj) (rid_nd _)
  refine ⟨H', c_store_Store_On ?_, q1, q2⟩
  unfold s_store_Store_On
  simp only [h1, JN_0, JN_1, JN_2, JN_3, JN_4, JN_5, JN_6, JN_7, JN_8, JN_9, JN_10, JN_11, JN_12, JN_13, JN_14, JN_15, JN_16, JN_17, JN_18, JN_19, JN_20, JN_21, JN_22, JN_23, JN_24, B1_s, B2_s, BN_s, CD_t, CD_f, GO_tt, GO_ft, GO_tf, GO_ff, GO_ut, GO_uf, GD2_tt, GD2_ft, GD2_tf, GD2_ff, pk_t, pk_f, nilA_p, nilA_i, fa_p, fd_a, ex_t, iadd_i, isub_i, imul_i, ieq_i, ine_i, ilt_i, ile_i, igt_i, ige_i, seq_s, sne_s, slt_s, lens_s, lenx_0, lenx_s, not_b, bb_e, bb_n, cv_i, pe_00, pe_0p, pe_p0, eqB_e, eqB_n, List.getElem?_cons_zero, List.getElem?_cons_succ, Nat.zero_add, Bool.not_true, Bool.not_false, decide_true, decide_false, Int.reduceBEq, Int.reduceBNe, Int.reduceLT, Int.reduceLE, Int.reduceGT, Int.reduceGE, Int.reduceNeg, BEq.rfl, bne_self_eq_false, ge_iff_le, gt_iff_lt]
theorem off_c (h : St H p m L) : cK (.func (.func 23) [] []) [.ptr p 0] H = some (.bool m.off, H) := by
  refine c_store_Store_Off ?_
  unfold s_store_Store_Off
  simp only [h.ld_off, JN_0, JN_1, JN_2, JN_3, JN_4, JN_5, JN_6, JN_7, JN_8, JN_9, JN_10, JN_11, JN_12, JN_13, JN_14, JN_15, JN_16, JN_17, JN_18, JN_19, JN_20, JN_21, JN_22, JN_23, JN_24, B1_s, B2_s, BN_s, CD_t, CD_f, GO_tt, GO_ft, GO_tf, GO_ff, GO_ut, GO_uf, GD2_tt, GD2_ft, GD2_tf, GD2_ff, pk_t, pk_f, nilA_p, nilA_i, fa_p, fd_a, ex_t, iadd_i, isub_i, imul_i, ieq_i, ine_i, ilt_i, ile_i, igt_i, ige_i, seq_s, sne_s, slt_s, lens_s, lenx_0, lenx_s, not_b, bb_e, bb_n, cv_i, pe_00, pe_0p, pe_p0, eqB_e, eqB_n, List.getElem?_cons_zero, List.getElem?_cons_succ, Nat.zero_add, Bool.not_true, Bool.not_false, decide_true, decide_false, Int.reduceBEq, Int.reduceBNe, Int.reduceLT, Int.reduceLE, Int.reduceGT, Int.reduceGE, Int.reduceNeg, BEq.rfl, bne_self_eq_false, ge_iff_le, gt_iff_lt]
def sureM (m : SM) (at' : List Nat) : Nat := match look m at' with | some f => f.sure | none => 0
theorem sure_c (h : St H p m L) (at' : List Nat) : cK (.func (.func 16) [] []) [.ptr p 0, .str at'] H = some (.int .i64 (sureM m at'), H) := by
  refine c_store_Store_Sure ?_
  unfold s_store_Store_Sure sureM
  have h1 := h.ld_map
  have h2 := h.lkp at'
  rcases h.lookC at' with ⟨r1, r2, r3⟩ | ⟨a, x, b, r1, r2, r3, r4, r5, r6⟩
  · simp only [h1, h2, r1, r2, JN_0, JN_1, JN_2, JN_3, JN_4, JN_5, JN_6, JN_7, JN_8, JN_9, JN_10, JN_11, JN_12, JN_13, JN_14, JN_15, JN_16, JN_17, JN_18, JN_19, JN_20, JN_21, JN_22, JN_23, JN_24, B1_s, B2_s, BN_s, CD_t, CD_f, GO_tt, GO_ft, GO_tf, GO_ff, GO_ut, GO_uf, GD2_tt, GD2_ft, GD2_tf, GD2_ff, pk_t, pk_f, nilA_p, nilA_i, fa_p, fd_a, ex_t, iadd_i, isub_i, imul_i, ieq_i, ine_i, ilt_i, ile_i, igt_i, ige_i, seq_s, sne_s, slt_s, lens_s, lenx_0, lenx_s, not_b, bb_e, bb_n, cv_i, pe_00, pe_0p, pe_p0, eqB_e, eqB_n, List.getElem?_cons_zero, List.getElem?_cons_succ, Nat.zero_add, Bool.not_true, Bool.not_false, decide_true, decide_false, Int.reduceBEq, Int.reduceBNe, Int.reduceLT, Int.reduceLE, Int.reduceGT, Int.reduceGE, Int.reduceNeg, BEq.rfl, bne_self_eq_false, ge_iff_le, gt_iff_lt]; rfl
  · have h3 := (h.file x (by rw [r1]; simp)).1.ld (o := 1) rfl
    simp only [h1, h2, r5, r6, h3, JN_0, JN_1, JN_2, JN_3, JN_4, JN_5, JN_6, JN_7, JN_8, JN_9, JN_10, JN_11, JN_12, JN_13, JN_14, JN_15, JN_16, JN_17, JN_18, JN_19, JN_20, JN_21, JN_22, JN_23, JN_24, B1_s, B2_s, BN_s, CD_t, CD_f, GO_tt, GO_ft, GO_tf, GO_ff, GO_ut, GO_uf, GD2_tt, GD2_ft, GD2_tf, GD2_ff, pk_t, pk_f, nilA_p, nilA_i, fa_p, fd_a, ex_t, iadd_i, isub_i, imul_i, ieq_i, ine_i, ilt_i, ile_i, igt_i, ige_i, seq_s, sne_s, slt_s, lens_s, lenx_0, lenx_s, not_b, bb_e, bb_n, cv_i, pe_00, pe_0p, pe_p0, eqB_e, eqB_n, List.getElem?_cons_zero, List.getElem?_cons_succ, Nat.zero_add, Bool.not_true, Bool.not_false, decide_true, decide_false, Int.reduceBEq, Int.reduceBNe, Int.reduceLT, Int.reduceLE, Int.reduceGT, Int.reduceGE, Int.reduceNeg, BEq.rfl, bne_self_eq_false, ge_iff_le, gt_iff_lt]
noncomputable def readM (m : SM) (at' : List Nat) : List Nat := if ofE m at' = 0 then (match look m at' with | some f => f.b | none => []) else []
theorem ofE_cases (m : SM) (at' : List Nat) : (ofE m at' = 11 ∧ m.off = true) ∨ (ofE m at' = 1 ∧ m.off = false ∧ okName at' = false) ∨ (ofE m at' = 4 ∧ m.off = false ∧ okName at' = true ∧ look m at' = none) ∨
    (ofE m at' = 0 ∧ m.off = false ∧ okName at' = true ∧ ∃ f, look m at' = some f) := by
  unfold ofE
  cases ho : m.off with
  | true => exact .inl ⟨by simp, rfl⟩
  | false =>
    cases hk : okName at' with
    | false => exact .inr (.inl ⟨by simp, rfl, rfl⟩)
    | true =>
      cases hl : look m at' with
      | none => exact .inr (.inr (.inl ⟨by simp, rfl, rfl, rfl⟩))
      | some f => exact .inr (.inr (.inr ⟨by simp, rfl, rfl, f, rfl⟩))
/-- the file that is told, where there is one -/
theorem St.ofP (h : St H p m L) {at' : List Nat} (he : ofE m at' = 0) : m.off = false ∧ okName at' = true ∧ ∃ a x b, L.cs = a ++ x :: b ∧ x.f.nm = at' ∧ (∀ y ∈ a, y.f.nm ≠ at') ∧ (∀ y ∈ b, y.f.nm ≠ at') ∧ fp L at' = .ptr x.id 0 ∧ look m at' = some x.f ∧ x ∈ L.cs ∧ x.f ∈ m.fs := by
  rcases ofE_cases m at' with ⟨q, _⟩ | ⟨q, _⟩ | ⟨q, _⟩ | ⟨_, q1, q2, f, q3⟩
  · rw [he] at q; cases q
  · rw [he] at q; cases q
  · rw [he] at q; cases q
  · rcases h.lookC at' with ⟨r1, r2, r3⟩ | ⟨a, x, b, r1, r2, r3, r4, r5, r6⟩
    · rw [r2] at q3; cases q3
    · have hx : x ∈ L.cs := by rw [r1]; simp
      exact ⟨q1, q2, a, x, b, r1, r2, r3, r4, r5, r6, hx, by rw [h.fs]; exact List.mem_map.2 ⟨x, hx, rfl⟩⟩
theorem len_le {f : Fl} {fs : List Fl} (hf : f ∈ fs) : f.b.length ≤ sumB fs := by
  induction fs with
  | nil => cases hf
  | cons g fs ih =>
    have e : sumB (g :: fs) = g.b.length + sumB fs := by unfold sumB; rw [List.map_cons, List.sum_cons]
    rw [e]
    rcases List.mem_cons.1 hf with rfl | hf
    · omega
    · have := ih hf; omega
theorem read_c (h : St H p m L) (at' : List Nat) : ∃ x' H', cK (.func (.func 15) [] []) [.ptr p 0, .str at'] H = some (.tuple [x', .int .i64 (ofE m at')], H') ∧
    Rw H' 1 x' (bs (readM m at')) ∧ Out [] H H' ∧ ∀ j ∈ rid x', H.next ≤ j := by
  have h0 := of_c h at'
  by_cases he : ofE m at' = 0
  · obtain ⟨q1, q2, a, x, b, r1, r2, r3, r4, r5, r6, hx, hf⟩ := h.ofP he
    obtain ⟨hf1, hf2⟩ := h.file x hx
    have hl := hf1.ld (o := 0) rfl
    have hb : (bs x.f.b).length ≤ 16777216 := by
      rw [bs_len]
      have := len_le hf; have := h.ok.sum; have := h.ok.room; omega
    obtain ⟨x', H', c1, c2, c3, c4⟩ := clone_b hf2.rw (bs_one _) hb
    refine ⟨x', H', c_store_Store_Read ?_, ?_, c3, c4⟩
    · unfold s_store_Store_Read
      simp only [h0, he, q1, q2, r5, hl, c1, Bool.false_eq_true, Bool.true_eq_false, or_self, if_false, JN_0, JN_1, JN_2, JN_3, JN_4, JN_5, JN_6, JN_7, JN_8, JN_9, JN_10, JN_11, JN_12, JN_13, JN_14, JN_15, JN_16, JN_17, JN_18, JN_19, JN_20, JN_21, JN_22, JN_23, JN_24, B1_s, B2_s, BN_s, CD_t, CD_f, GO_tt, GO_ft, GO_tf, GO_ff, GO_ut, GO_uf, GD2_tt, GD2_ft, GD2_tf, GD2_ff, pk_t, pk_f, nilA_p, nilA_i, fa_p, fd_a, ex_t, iadd_i, isub_i, imul_i, ieq_i, ine_i, ilt_i, ile_i, igt_i, ige_i, seq_s, sne_s, slt_s, lens_s, lenx_0, lenx_s, not_b, bb_e, bb_n, cv_i, pe_00, pe_0p, pe_p0, eqB_e, eqB_n, List.getElem?_cons_zero, List.getElem?_cons_succ, Nat.zero_add, Bool.not_true, Bool.not_false, decide_true, decide_false, Int.reduceBEq, Int.reduceBNe, Int.reduceLT, Int.reduceLE, Int.reduceGT, Int.reduceGE, Int.reduceNeg, BEq.rfl, bne_self_eq_false, ge_iff_le, gt_iff_lt]
    · unfold readM
      rw [if_pos he, r6]; exact c2.rw
  · refine ⟨.slice0, H, c_store_Store_Read ?_, ?_, Out.refl _ _, fun j hj => by cases hj⟩
    · unfold s_store_Store_Read
      have : (ofE m at' != 0) = true := by simpa using he
      simp only [h0, this, JN_0, JN_1, JN_2, JN_3, JN_4, JN_5, JN_6, JN_7, JN_8, JN_9, JN_10, JN_11, JN_12, JN_13, JN_14, JN_15, JN_16, JN_17, JN_18, JN_19, JN_20, JN_21, JN_22, JN_23, JN_24, B1_s, B2_s, BN_s, CD_t, CD_f, GO_tt, GO_ft, GO_tf, GO_ff, GO_ut, GO_uf, GD2_tt, GD2_ft, GD2_tf, GD2_ff, pk_t, pk_f, nilA_p, nilA_i, fa_p, fd_a, ex_t, iadd_i, isub_i, imul_i, ieq_i, ine_i, ilt_i, ile_i, igt_i, ige_i, seq_s, sne_s, slt_s, lens_s, lenx_0, lenx_s, not_b, bb_e, bb_n, cv_i, pe_00, pe_0p, pe_p0, eqB_e, eqB_n, List.getElem?_cons_zero, List.getElem?_cons_succ, Nat.zero_add, Bool.not_true, Bool.not_false, decide_true, decide_false, Int.reduceBEq, Int.reduceBNe, Int.reduceLT, Int.reduceLE, Int.reduceGT, Int.reduceGE, Int.reduceNeg, BEq.rfl, bne_self_eq_false, ge_iff_le, gt_iff_lt]
    · unfold readM
      rw [if_neg he]; exact .nil
/-- what a fuse is -/
def fuseM (m : SM) (calls : Int) (kl : List Int) : SM := if m.off = true then m else { m with fuse := calls.toNat, keep := kl }
theorem ints_one (l : List Int) : ∀ v ∈ ints l, oneC v = true := by
  intro v hv
  obtain ⟨z, _, rfl⟩ := List.mem_map.1 hv
  rfl
theorem fuse_c (h : St H p m L) {calls : Int} {x : AV} {kl : List Int} (hc : calls ≤ 9223372036854775807) (hx : Rw H 1 x (ints kl)) (hxd : ∀ j ∈ rid x, j ∉ foot p L) (hlen : kl.length ≤ 16777216) :
    ∃ H' L', cK (.func (.func 19) [] []) [.ptr p 0, .int .i64 calls, x] H = some (.tuple [], H') ∧ St H' p (fuseM m calls kl) L' ∧ Go' p H L H' L' := by
  have h2 := h.ld_off
  cases ho : m.off with
  | true =>
    rw [ho] at h2
    refine ⟨H, L, c_store_Store_Fuse ?_, by unfold fuseM; rw [if_pos ho]; exact h, Go'.refl _ _ _⟩
    unfold s_store_Store_Fuse
    simp only [h2, JN_0, JN_1, JN_2, JN_3, JN_4, JN_5, JN_6, JN_7, JN_8, JN_9, JN_10, JN_11, JN_12, JN_13, JN_14, JN_15, JN_16, JN_17, JN_18, JN_19, JN_20, JN_21, JN_22, JN_23, JN_24, B1_s, B2_s, BN_s, CD_t, CD_f, GO_tt, GO_ft, GO_tf, GO_ff, GO_ut, GO_uf, GD2_tt, GD2_ft, GD2_tf, GD2_ff, pk_t, pk_f, nilA_p, nilA_i, fa_p, fd_a, ex_t, iadd_i, isub_i, imul_i, ieq_i, ine_i, ilt_i, ile_i, igt_i, ige_i, seq_s, sne_s, slt_s, lens_s, lenx_0, lenx_s, not_b, bb_e, bb_n, cv_i, pe_00, pe_0p, pe_p0, eqB_e, eqB_n, List.getElem?_cons_zero, List.getElem?_cons_succ, Nat.zero_add, Bool.not_true, Bool.not_false, decide_true, decide_false, Int.reduceBEq, Int.reduceBNe, Int.reduceLT, Int.reduceLE, Int.reduceGT, Int.reduceGE, Int.reduceNeg, BEq.rfl, bne_self_eq_false, ge_iff_le, gt_iff_lt]
  | false =>
    rw [ho] at h2
    obtain ⟨H1, a1, a2, a3, a4⟩ := h.head.st (o := 3) (v := .int .i64 calls.toNat) (by simp) rfl
    have hp : p ∈ foot p L := St.mem_p
    have hx1 := hx.out a3 fun j hj q => hxd j hj (by rw [List.mem_singleton.1 q]; exact hp)
    obtain ⟨x', H2, b1, b2, b3, b4⟩ := clone_i hx1 (ints_one kl) (by unfold ints; rw [List.length_map]; exact hlen)
    have hh2 := a2.out b3 (fun q => by cases q)
    obtain ⟨H3, c1, c2, c3, c4⟩ := hh2.st (o := 4) (v := x') (by simp) (rw_one b2.rw)
    have hplt := h.head.lt
    have hb2 : Rw H3 1 x' (ints kl) := b2.rw.out c3 fun j hj q => by
      have := b4 j hj
      rw [List.mem_singleton.1 q] at this
      have := a3.1; omega
    have ho : Out [p] H H3 := (a3.trans (b3.mono (fun j hj => by cases hj))).trans c3
    obtain ⟨q1, q2⟩ := h.setHead (off := false) (fuse := calls.toNat) (keep := x') (kl := kl) (by simpa [ho, ‹m.off = false›] using c2) (by omega) ho (fun j hj => .inl (by simpa using hj)) hb2 (fun j hj => .inr (Nat.le_trans a3.1 (b4 j hj))) (rid_nd _)
    refine ⟨H3, _, c_store_Store_Fuse ?_, ?_, q2⟩
    · unfold s_store_Store_Fuse
      have hm : (if calls < 0 then (0 : Int) else calls) = (calls.toNat : Int) := by split <;> omega
      simp only [h2, max_i, hm, a1, b1, c1, JN_0, JN_1, JN_2, JN_3, JN_4, JN_5, JN_6, JN_7, JN_8, JN_9, JN_10, JN_11, JN_12, JN_13, JN_14, JN_15, JN_16, JN_17, JN_18, JN_19, JN_20, JN_21, JN_22, JN_23, JN_24, B1_s, B2_s, BN_s, CD_t, CD_f, GO_tt, GO_ft, GO_tf, GO_ff, GO_ut, GO_uf, GD2_tt, GD2_ft, GD2_tf, GD2_ff, pk_t, pk_f, nilA_p, nilA_i, fa_p, fd_a, ex_t, iadd_i, isub_i, imul_i, ieq_i, ine_i, ilt_i, ile_i, igt_i, ige_i, seq_s, sne_s, slt_s, lens_s, lenx_0, lenx_s, not_b, bb_e, bb_n, cv_i, pe_00, pe_0p, pe_p0, eqB_e, eqB_n, List.getElem?_cons_zero, List.getElem?_cons_succ, Nat.zero_add, Bool.not_true, Bool.not_false, decide_true, decide_false, Int.reduceBEq, Int.reduceBNe, Int.reduceLT, Int.reduceLE, Int.reduceGT, Int.reduceGE, Int.reduceNeg, BEq.rfl, bne_self_eq_false, ge_iff_le, gt_iff_lt]
    · unfold fuseM
      rw [if_neg (by rw [‹m.off = false›]; simp)]
      have : { m with off := false, fuse := calls.toNat, keep := kl } = { m with fuse := calls.toNat, keep := kl } := by rw [← ‹m.off = false›]
      rw [← this]; exact q1
end
section
variable {H : Hp} {p : Nat} {m : SM} {L : Lay}
theorem St.id_nd (h : St H p m L) {x : FC} (hx : x ∈ L.cs) : x.id ∉ rid x.sl := by
  have hnd := h.nd
  unfold foot at hnd
  rw [List.nodup_cons, List.nodup_cons, List.nodup_append] at hnd
  obtain ⟨a, b, hL⟩ := List.append_of_mem hx
  have h1 := hnd.2.2.2.1
  rw [hL, List.flatMap_append, List.flatMap_cons, List.nodup_append, List.nodup_append] at h1
  have h2 : (x.id :: rid x.sl).Nodup := h1.2.1.1
  exact (List.nodup_cons.1 h2).1
/-- a file's row anew -/
theorem St.put0 (h : St H p m L) {x : FC} (hx : x ∈ L.cs) {H0 : Hp} {sl : AV} {b : List Nat} (ho : Out (rid x.sl) H H0) (hw : Ow H0 5 1 sl (bs b)) (hr : ∀ j ∈ rid sl, j ∈ rid x.sl ∨ H.next ≤ j) :
    ∃ H1, st 1 (.ptr x.id 0) sl H0 = some H1 ∧ C0 H1 x.id [sl, .int .i64 x.f.sure] ∧ Out x.ids H H1 ∧ Ow H1 5 1 sl (bs b) := by
  have hid := h.id_nd hx
  have hc := (h.file x hx).1.out ho hid
  obtain ⟨H1, h1, h2, h3, h4⟩ := hc.st (o := 0) (v := sl) (by simp) (rw_one hw.rw)
  have hlt := (h.file x hx).1.lt
  refine ⟨H1, h1, h2, (ho.mono fun j hj => List.mem_cons_of_mem _ hj).trans (h3.mono fun j hj => by rw [List.mem_singleton.1 hj]; exact .head _), hw.out h3 fun j hj q => ?_⟩
  rw [List.mem_singleton.1 q] at hj
  rcases hr _ hj with q | q
  · exact hid q
  · omega
/-- how far a file is sure, anew -/
theorem put1 {i : Nat} {sl : AV} {s t : Int} {b : List Nat} {H1 : Hp} (hc : C0 H1 i [sl, .int .i64 s]) (hw : Ow H1 5 1 sl (bs b)) (hi : i ∉ rid sl) :
    ∃ H2, st 1 (.ptr i 1) (.int .i64 t) H1 = some H2 ∧ C0 H2 i [sl, .int .i64 t] ∧ Out [i] H1 H2 ∧ Ow H2 5 1 sl (bs b) := by
  obtain ⟨H2, h1, h2, h3, h4⟩ := hc.st (o := 1) (v := .int .i64 t) (by simp) rfl
  exact ⟨H2, h1, h2, h3, hw.out h3 fun j hj q => hi (by rw [List.mem_singleton.1 q] at hj; exact hj)⟩
theorem sumB_app (a b : List Fl) : sumB (a ++ b) = sumB a + sumB b := by unfold sumB; rw [List.map_append, List.sum_append]
theorem sumB_cons (f : Fl) (b : List Fl) : sumB (f :: b) = f.b.length + sumB b := by unfold sumB; rw [List.map_cons, List.sum_cons]
theorem St.sum_set (h : St H p m L) {a b : List FC} {x : FC} (hL : L.cs = a ++ x :: b) (ha : ∀ y ∈ a, y.f.nm ≠ x.f.nm) (hb : ∀ y ∈ b, y.f.nm ≠ x.f.nm) (f : Fl) : sumB (setF x.f.nm f m.fs) + x.f.b.length = sumB m.fs + f.b.length := by
  rw [h.fs, hL, setF_split rfl ha hb, List.map_append, List.map_cons, sumB_app, sumB_app, sumB_cons, sumB_cons]
  omega
/-- nothing but files' objects -/
def inF (L : Lay) (j : Nat) : Prop := ∃ y ∈ L.cs, j ∈ y.ids
/-- a file is cut -/
def cutTo (f : Fl) (n : Nat) : Fl := ⟨f.nm, f.b.take n, n⟩
theorem bs_take (l : List Nat) (n : Nat) : bs (l.take n) = (bs l).take n := by unfold bs; rw [List.map_take]
theorem St.cut (h : St H p m L) {a b : List FC} {x : FC} (hL : L.cs = a ++ x :: b) (ha : ∀ y ∈ a, y.f.nm ≠ x.f.nm) (hb : ∀ y ∈ b, y.f.nm ≠ x.f.nm) {n s : Nat} (hn : n ≤ x.f.b.length) (hs : s ≤ n) :
    ∃ sl H1 H2 L', sll 1 x.sl none (some (.int .i64 n)) none = some sl ∧ st 1 (.ptr x.id 0) sl H = some H1 ∧ ld (.ptr x.id 0) H1 = some sl ∧ ld (.ptr x.id 1) H1 = some (.int .i64 x.f.sure) ∧ lenx sl = some (.int .i64 n) ∧ st 1 (.ptr x.id 1) (.int .i64 s) H1 = some H2 ∧
      St H2 p { m with fs := setF x.f.nm ⟨x.f.nm, x.f.b.take n, s⟩ m.fs } L' ∧ Go' p H L H2 L' ∧ L'.keep = L.keep ∧ L'.mid = L.mid ∧ (∀ j, inF L' j → inF L j ∨ H.next ≤ j) ∧ Out x.ids H H2 := by
  have hx : x ∈ L.cs := by rw [hL]; simp
  obtain ⟨hf1, hf2⟩ := h.file x hx
  have hlen : (bs x.f.b).length = x.f.b.length * 1 := by rw [bs_len, Nat.mul_one]
  obtain ⟨sl, s1, s2, s3⟩ := sll_ow hf2 hlen (by omega) (a := 0) (b := n) (lo := none) (hi := some (.int .i64 n)) (Nat.zero_le _) hn (Bd.no 0) (Bd.yes _ _ _)
  rw [Nat.zero_mul, List.drop_zero, Nat.sub_zero, Nat.mul_one, ← bs_take] at s2
  obtain ⟨H1, p1, p2, p3, p4⟩ := h.put0 hx (Out.refl _ _) s2 fun j hj => .inl (s3 j hj)
  have hid : x.id ∉ rid sl := fun q => h.id_nd hx (s3 _ q)
  obtain ⟨H2, r1, r2, r3, r4⟩ := put1 (t := (s : Int)) p2 p4 hid
  have hout : Out x.ids H H2 := p3.trans (r3.mono fun j hj => by rw [List.mem_singleton.1 hj]; exact .head _)
  have hlen2 : (x.f.b.take n).length = n := by rw [List.length_take]; omega
  have hsum := h.sum_set hL ha hb ⟨x.f.nm, x.f.b.take n, s⟩
  have hfm : x.f ∈ m.fs := by rw [h.fs]; exact List.mem_map.2 ⟨x, hx, rfl⟩
  have hs0 := h.ok.sum
  obtain ⟨q1, q2⟩ := h.setFile (f := ⟨x.f.nm, x.f.b.take n, s⟩) hL ha hb rfl hout (fun j hj => hj) r2 r4 (fun j hj => .inl (s3 j hj)) (rid_nd _) (by simp only; omega) (fun c hc => h.ok.byte x.f hfm c (List.mem_of_mem_take hc))
    (by simp only at hsum ⊢; omega)
  refine ⟨sl, H1, H2, _, s1, p1, p2.ld rfl, p2.ld (o := 1) rfl, ?_, r1, q1, q2, rfl, rfl, fun j hj => ?_, hout⟩
  · have := s2.rw.len1
    rw [bs_len, hlen2] at this
    exact this
  · obtain ⟨y, hy, hj⟩ := hj
    rcases List.mem_append.1 hy with hy | hy
    · exact .inl ⟨y, by rw [hL]; exact List.mem_append_left _ hy, hj⟩
    · rcases List.mem_cons.1 hy with rfl | hy
      · refine .inl ⟨x, hx, ?_⟩
        rcases List.mem_cons.1 hj with rfl | hj
        · exact .head _
        · exact .tail _ (s3 j hj)
      · exact .inl ⟨y, by rw [hL]; exact List.mem_append_right _ (.tail _ hy), hj⟩
end

/-! a fall -/
def kn : List Int → Int
  | [] => 0
  | k :: _ => k
def crashF : List (List Nat) → List Int → List Fl → List Fl
  | [], _, fs => fs
  | n :: ns, keep, fs => match fs.find? (fun f => f.nm == n) with
    | none => fs
    | some f => if f.b.length = f.sure then crashF ns keep fs else crashF ns keep.tail (setF n (cutTo f (f.sure + min (kn keep).toNat (f.b.length - f.sure))) fs)
noncomputable def crashM (m : SM) (keep : List Int) : SM := if m.off = true then m else { m with off := true, fuse := 0, fs := crashF (names m) keep m.fs }
theorem find_setF {fs : List Fl} {n k : List Nat} {g : Fl} (hg : g.nm = n) (h : (fs.find? (fun f => f.nm == k)).isSome = true) : ((setF n g fs).find? (fun f => f.nm == k)).isSome = true := by
  rw [List.find?_isSome] at h ⊢
  obtain ⟨f, hf, he⟩ := h
  unfold setF
  refine ⟨if f.nm = n then g else f, List.mem_map.2 ⟨f, hf, rfl⟩, ?_⟩
  split
  · rename_i q; rw [hg, ← q]; exact he
  · exact he
theorem crash_loop (j7 : Am.K.Fn 1) (p : Nat) (x : AV) (all : List (List Nat)) (hall : all.length ≤ 1000000) : ∀ (rest : List (List Nat)) (i : Nat) (H : Hp) (m : SM) (L : Lay) (kv : AV) (kl : List Int), St H p m L → Rw H 1 x (strs all) → (∀ j ∈ rid x, ¬ inF L j) →
    i + rest.length = all.length → all.drop i = rest → Rw H 1 kv (ints kl) → (∀ j ∈ rid kv, ¬ inF L j) → (∀ n ∈ rest, (look m n).isSome = true) →
    ∃ H' L', l_store_Store_Crash JN GO cK j7 (.ptr p 0) kv x (.int .i64 all.length) (.int .i64 i) H = j7 (.ptr p 0) H' ∧ St H' p { m with fs := crashF rest kl m.fs } L' ∧ Go' p H L H' L' ∧ L'.keep = L.keep
  | [], i, H, m, L, kv, kl, h, hx, hxd, hi, hd, hk, hkd, hl => by
    refine ⟨H, L, ?_, h, Go'.refl _ _ _, rfl⟩
    rw [ql_store_Store_Crash]
    have : decide ((i : Int) < (all.length : Int)) = false := by simp only [List.length_nil] at hi; simp; omega
    simp only [bl_store_Store_Crash, this, JN_0, JN_1, JN_2, JN_3, JN_4, JN_5, JN_6, JN_7, JN_8, JN_9, JN_10, JN_11, JN_12, JN_13, JN_14, JN_15, JN_16, JN_17, JN_18, JN_19, JN_20, JN_21, JN_22, JN_23, JN_24, B1_s, B2_s, BN_s, CD_t, CD_f, GO_tt, GO_ft, GO_tf, GO_ff, GO_ut, GO_uf, GD2_tt, GD2_ft, GD2_tf, GD2_ff, pk_t, pk_f, nilA_p, nilA_i, fa_p, fd_a, ex_t, iadd_i, isub_i, imul_i, ieq_i, ine_i, ilt_i, ile_i, igt_i, ige_i, seq_s, sne_s, slt_s, lens_s, lenx_0, lenx_s, not_b, bb_e, bb_n, cv_i, pe_00, pe_0p, pe_p0, eqB_e, eqB_n, List.getElem?_cons_zero, List.getElem?_cons_succ, Nat.zero_add, Bool.not_true, Bool.not_false, decide_true, decide_false, Int.reduceBEq, Int.reduceBNe, Int.reduceLT, Int.reduceLE, Int.reduceGT, Int.reduceGE, Int.reduceNeg, BEq.rfl, bne_self_eq_false, ge_iff_le, gt_iff_lt]
  | n :: ns, i, H, m, L, kv, kl, h, hx, hxd, hi, hd, hk, hkd, hl => by
    simp only [List.length_cons] at hi
    have hlt : decide ((i : Int) < (all.length : Int)) = true := by simp; omega
    have hn : all[i]? = some n := by
      have := congrArg (fun l => l[0]?) hd
      simpa using this
    obtain ⟨q, hq1, hq2⟩ := hx.ia1 (i := i) (v := .str n) (by unfold strs; rw [List.getElem?_map, hn]; rfl) .i64
    have hd' : all.drop (i + 1) = ns := by
      have := congrArg (List.drop 1) hd
      rw [List.drop_drop] at this
      simpa using this
    have hw : IntKind.wrap .i64 ((i : Int) + 1) = ((i + 1 : Nat) : Int) := by rw [wrap_i64 (by omega) (by omega)]; omega
    have h1 := h.ld_map
    have h2 := h.lkp n
    have hln := hl n (.head _)
    rcases h.lookC n with ⟨r1, r2, r3⟩ | ⟨a, fc, b, r1, r2, r3, r4, r5, r6⟩
    · rw [r2] at hln; cases hln
    have hfx : fc ∈ L.cs := by rw [r1]; simp
    have hfm : fc.f ∈ m.fs := by rw [h.fs]; exact List.mem_map.2 ⟨fc, hfx, rfl⟩
    obtain ⟨hf1, hf2⟩ := h.file fc hfx
    have hld0 := hf1.ld (o := 0) rfl
    have hld1 := hf1.ld (o := 1) rfl
    have hlen := hf2.rw.len1
    rw [bs_len] at hlen
    have hsure := h.ok.sure _ hfm
    have hbig : fc.f.b.length ≤ 16777216 := by
      have := len_le hfm; have := h.ok.sum; have := h.ok.room; omega
    have hwr : IntKind.wrap .i64 ((fc.f.b.length : Int) - (fc.f.sure : Int)) = ((fc.f.b.length - fc.f.sure : Nat) : Int) := by rw [wrap_i64 (by omega) (by omega)]; omega
    rw [ql_store_Store_Crash]
    by_cases heq : fc.f.b.length = fc.f.sure
    · have hz : (((fc.f.b.length - fc.f.sure : Nat) : Int) == 0) = true := by rw [heq]; simp
      obtain ⟨H', L', e1, e2, e3, e4⟩ := crash_loop j7 p x all hall ns (i + 1) H m L kv kl h hx hxd (by omega) hd' hk hkd fun k hk => hl k (.tail _ hk)
      refine ⟨H', L', ?_, ?_, e3, e4⟩
      · simp only [bl_store_Store_Crash, hlt, hq1, hq2, h1, h2, r5, hld0, hld1, hlen, hwr, hz, hw, e1, JN_0, JN_1, JN_2, JN_3, JN_4, JN_5, JN_6, JN_7, JN_8, JN_9, JN_10, JN_11, JN_12, JN_13, JN_14, JN_15, JN_16, JN_17, JN_18, JN_19, JN_20, JN_21, JN_22, JN_23, JN_24, B1_s, B2_s, BN_s, CD_t, CD_f, GO_tt, GO_ft, GO_tf, GO_ff, GO_ut, GO_uf, GD2_tt, GD2_ft, GD2_tf, GD2_ff, pk_t, pk_f, nilA_p, nilA_i, fa_p, fd_a, ex_t, iadd_i, isub_i, imul_i, ieq_i, ine_i, ilt_i, ile_i, igt_i, ige_i, seq_s, sne_s, slt_s, lens_s, lenx_0, lenx_s, not_b, bb_e, bb_n, cv_i, pe_00, pe_0p, pe_p0, eqB_e, eqB_n, List.getElem?_cons_zero, List.getElem?_cons_succ, Nat.zero_add, Bool.not_true, Bool.not_false, decide_true, decide_false, Int.reduceBEq, Int.reduceBNe, Int.reduceLT, Int.reduceLE, Int.reduceGT, Int.reduceGE, Int.reduceNeg, BEq.rfl, bne_self_eq_false, ge_iff_le, gt_iff_lt]
      · have : crashF (n :: ns) kl m.fs = crashF ns kl m.fs := by
          show (match look m n with | none => m.fs | some f => _) = _
          rw [r6]; simp only; rw [if_pos heq]
        rw [this]; exact e2
    · have hz : (((fc.f.b.length - fc.f.sure : Nat) : Int) == 0) = false := by simp; omega
      obtain ⟨sl, H1, H2, L2, c1, c2, c3, c3', c4, c5, c6, c7, c8, c9, c10, c11⟩ := h.cut r1 (by rw [r2]; exact r3) (by rw [r2]; exact r4) (n := fc.f.sure + min (kn kl).toNat (fc.f.b.length - fc.f.sure)) (s := fc.f.sure + min (kn kl).toNat (fc.f.b.length - fc.f.sure)) (by omega) (Nat.le_refl _)
      have hwa : IntKind.wrap .i64 ((fc.f.sure : Int) + ((min (kn kl).toNat (fc.f.b.length - fc.f.sure) : Nat) : Int)) = ((fc.f.sure + min (kn kl).toNat (fc.f.b.length - fc.f.sure) : Nat) : Int) := by rw [wrap_i64 (by omega) (by omega)]; omega
      have hout : ∀ y : AV, (∀ j ∈ rid y, ¬ inF L j) → ∀ j ∈ rid y, j ∉ fc.ids := fun y hy j hj q => hy j hj ⟨fc, hfx, q⟩
      have hx2 := hx.out c11 (hout x hxd)
      have away : ∀ (y : AV) (l : List AV), Rw H 1 y l → (∀ j ∈ rid y, ¬ inF L j) → ∀ j ∈ rid y, ¬ inF L2 j := fun y l hy hyd j hj q => by
        rcases c10 j q with q | q
        · exact hyd j hj q
        · have := hy.lt j hj; omega
      have hl2 : ∀ k ∈ ns, (look { m with fs := setF fc.f.nm ⟨fc.f.nm, fc.f.b.take (fc.f.sure + min (kn kl).toNat (fc.f.b.length - fc.f.sure)), fc.f.sure + min (kn kl).toNat (fc.f.b.length - fc.f.sure)⟩ m.fs } k).isSome = true :=
        fun k hk => find_setF rfl (hl k (.tail _ hk))
      have hcf : crashF (n :: ns) kl m.fs = crashF ns kl.tail (setF fc.f.nm ⟨fc.f.nm, fc.f.b.take (fc.f.sure + min (kn kl).toNat (fc.f.b.length - fc.f.sure)), fc.f.sure + min (kn kl).toNat (fc.f.b.length - fc.f.sure)⟩ m.fs) := by
        show (match look m n with | none => m.fs | some f => _) = _
        rw [r6]; simp only; rw [if_neg heq, ← r2]; rfl
      cases kl with
      | nil =>
        have hk0 : lenx kv = some (.int .i64 0) := by
          have := hk.len1
          exact this
        obtain ⟨H', L', e1, e2, e3, e4⟩ := crash_loop j7 p x all hall ns (i + 1) H2 _ L2 kv [] c6 hx2 (away x _ hx hxd) (by omega) hd' (hk.out c11 (hout kv hkd)) (away kv _ hk hkd) hl2
        refine ⟨H', L', ?_, by rw [hcf]; exact e2, c7.trans e3, e4.trans c8⟩
        have hwa0 : IntKind.wrap .i64 ((fc.f.sure : Int) + 0) = ((fc.f.sure + min (kn []).toNat (fc.f.b.length - fc.f.sure) : Nat) : Int) := by rw [wrap_i64 (by omega) (by omega)]; simp [kn]
        have hf0 : decide ((0 : Int) < 0) = false := rfl
        simp only [bl_store_Store_Crash, hlt, hq1, hq2, h1, h2, r5, hld0, hld1, hlen, hwr, hz, hw, hk0, hf0, hwa0, c1, c2, c3, c4, c5, e1, JN_0, JN_1, JN_2, JN_3, JN_4, JN_5, JN_6, JN_7, JN_8, JN_9, JN_10, JN_11, JN_12, JN_13, JN_14, JN_15, JN_16, JN_17, JN_18, JN_19, JN_20, JN_21, JN_22, JN_23, JN_24, B1_s, B2_s, BN_s, CD_t, CD_f, GO_tt, GO_ft, GO_tf, GO_ff, GO_ut, GO_uf, GD2_tt, GD2_ft, GD2_tf, GD2_ff, pk_t, pk_f, nilA_p, nilA_i, fa_p, fd_a, ex_t, iadd_i, isub_i, imul_i, ieq_i, ine_i, ilt_i, ile_i, igt_i, ige_i, seq_s, sne_s, slt_s, lens_s, lenx_0, lenx_s, not_b, bb_e, bb_n, cv_i, pe_00, pe_0p, pe_p0, eqB_e, eqB_n, List.getElem?_cons_zero, List.getElem?_cons_succ, Nat.zero_add, Bool.not_true, Bool.not_false, decide_true, decide_false, Int.reduceBEq, Int.reduceBNe, Int.reduceLT, Int.reduceLE, Int.reduceGT, Int.reduceGE, Int.reduceNeg, BEq.rfl, bne_self_eq_false, ge_iff_le, gt_iff_lt]
      | cons k ks =>
        have hk1 : lenx kv = some (.int .i64 ((ks.length + 1 : Nat) : Int)) := by
          have := hk.len1
          unfold ints at this
          rw [List.length_map] at this
          exact this
        have hpos : decide ((0 : Int) < ((ks.length + 1 : Nat) : Int)) = true := decide_eq_true (by omega)
        obtain ⟨qk, hk2, hk3⟩ := hk.ia1 (i := 0) (v := .int .i64 k) rfl .i64
        have hkl : (ints (k :: ks)).length = (ks.length + 1) * 1 := by unfold ints; simp
        obtain ⟨kv', k1, k2, k3⟩ := sll_rw hk hkl (by omega) (a := 1) (b := ks.length + 1) (lo := some (.int .i64 1)) (hi := none) (by omega) (Nat.le_refl _) (Bd.yes .i64 1 0) (Bd.no _)
        have hkv' : Rw H 1 kv' (ints ks) := by
          have : ((ints (k :: ks)).drop (1 * 1)).take ((ks.length + 1 - 1) * 1) = ints ks := by
            unfold ints
            simp only [List.map_cons, Nat.mul_one, List.drop_succ_cons, List.drop_zero, Nat.add_sub_cancel]
            rw [List.take_of_length_le (by simp)]
          rw [this] at k2; exact k2
        have hkd' : ∀ j ∈ rid kv', ¬ inF L j := fun j hj => hkd j (k3 j hj)
        obtain ⟨H', L', e1, e2, e3, e4⟩ := crash_loop j7 p x all hall ns (i + 1) H2 _ L2 kv' ks c6 hx2 (away x _ hx hxd) (by omega) hd' (hkv'.out c11 (hout kv' hkd')) (away kv' _ hkv' hkd') hl2
        refine ⟨H', L', ?_, by rw [hcf]; exact e2, c7.trans e3, e4.trans c8⟩
        have hmx : (if ((if k < 0 then (0 : Int) else k)) > ((fc.f.b.length - fc.f.sure : Nat) : Int) then ((fc.f.b.length - fc.f.sure : Nat) : Int) else (if k < 0 then (0 : Int) else k)) = ((min (kn (k :: ks)).toNat (fc.f.b.length - fc.f.sure) : Nat) : Int) := by
          simp only [kn]
          split <;> split <;> omega
        simp only [gt_iff_lt] at hmx
        have hk2' : ia 1 kv (.int .i64 0) = some qk := hk2
        simp only [bl_store_Store_Crash, hlt, hq1, hq2, h1, h2, r5, hld0, hld1, hlen, hwr, hz, hw, hk1, hpos, hk2', hk3, max_i, min_i, hmx, k1, hwa, c1, c2, c3, c4, c5, e1, JN_0, JN_1, JN_2, JN_3, JN_4, JN_5, JN_6, JN_7, JN_8, JN_9, JN_10, JN_11, JN_12, JN_13, JN_14, JN_15, JN_16, JN_17, JN_18, JN_19, JN_20, JN_21, JN_22, JN_23, JN_24, B1_s, B2_s, BN_s, CD_t, CD_f, GO_tt, GO_ft, GO_tf, GO_ff, GO_ut, GO_uf, GD2_tt, GD2_ft, GD2_tf, GD2_ff, pk_t, pk_f, nilA_p, nilA_i, fa_p, fd_a, ex_t, iadd_i, isub_i, imul_i, ieq_i, ine_i, ilt_i, ile_i, igt_i, ige_i, seq_s, sne_s, slt_s, lens_s, lenx_0, lenx_s, not_b, bb_e, bb_n, cv_i, pe_00, pe_0p, pe_p0, eqB_e, eqB_n, List.getElem?_cons_zero, List.getElem?_cons_succ, Nat.zero_add, Bool.not_true, Bool.not_false, decide_true, decide_false, Int.reduceBEq, Int.reduceBNe, Int.reduceLT, Int.reduceLE, Int.reduceGT, Int.reduceGE, Int.reduceNeg, BEq.rfl, bne_self_eq_false, ge_iff_le, gt_iff_lt]
section
variable {H : Hp} {p : Nat} {m : SM} {L : Lay}
theorem St.notF (h : St H p m L) : ¬ inF L p ∧ ¬ inF L L.mid ∧ ∀ j ∈ rid L.keep, ¬ inF L j := by
  have hnd := h.nd
  unfold foot at hnd
  rw [List.nodup_cons, List.nodup_cons, List.nodup_append] at hnd
  obtain ⟨n1, n2, n3, n4, n5⟩ := hnd
  refine ⟨fun ⟨y, hy, hj⟩ => n1 (.tail _ (List.mem_append_right _ (List.mem_flatMap.2 ⟨y, hy, hj⟩))), fun ⟨y, hy, hj⟩ => n2 (List.mem_append_right _ (List.mem_flatMap.2 ⟨y, hy, hj⟩)), fun j hj ⟨y, hy, hk⟩ => n5 _ hj _ (List.mem_flatMap.2 ⟨y, hy, hk⟩) rfl⟩
theorem St.keep_p (h : St H p m L) : p ∉ rid L.keep := by
  have hnd := h.nd
  unfold foot at hnd
  rw [List.nodup_cons] at hnd
  exact fun q => hnd.1 (.tail _ (List.mem_append_left _ q))
theorem names_mem (h : St H p m L) : ∀ n ∈ names m, (look m n).isSome = true := by
  intro n hn
  unfold names at hn
  rw [sortN_mem] at hn
  obtain ⟨f, hf, rfl⟩ := List.mem_map.1 hn
  unfold look
  rw [List.find?_isSome]
  exact ⟨f, hf, by simp⟩
theorem crash_c (h : St H p m L) {kv : AV} {kl : List Int} (hk : Rw H 1 kv (ints kl)) (hkd : ∀ j ∈ rid kv, ¬ inF L j) :
    ∃ H' L', cK (.func (.func 13) [] []) [.ptr p 0, kv] H = some (.tuple [], H') ∧ St H' p (crashM m kl) L' ∧ Go' p H L H' L' := by
  have h2 := h.ld_off
  cases ho : m.off with
  | true =>
    rw [ho] at h2
    refine ⟨H, L, c_store_Store_Crash ?_, by unfold crashM; rw [if_pos ho]; exact h, Go'.refl _ _ _⟩
    unfold s_store_Store_Crash
    simp only [h2, JN_0, JN_1, JN_2, JN_3, JN_4, JN_5, JN_6, JN_7, JN_8, JN_9, JN_10, JN_11, JN_12, JN_13, JN_14, JN_15, JN_16, JN_17, JN_18, JN_19, JN_20, JN_21, JN_22, JN_23, JN_24, B1_s, B2_s, BN_s, CD_t, CD_f, GO_tt, GO_ft, GO_tf, GO_ff, GO_ut, GO_uf, GD2_tt, GD2_ft, GD2_tf, GD2_ff, pk_t, pk_f, nilA_p, nilA_i, fa_p, fd_a, ex_t, iadd_i, isub_i, imul_i, ieq_i, ine_i, ilt_i, ile_i, igt_i, ige_i, seq_s, sne_s, slt_s, lens_s, lenx_0, lenx_s, not_b, bb_e, bb_n, cv_i, pe_00, pe_0p, pe_p0, eqB_e, eqB_n, List.getElem?_cons_zero, List.getElem?_cons_succ, Nat.zero_add, Bool.not_true, Bool.not_false, decide_true, decide_false, Int.reduceBEq, Int.reduceBNe, Int.reduceLT, Int.reduceLE, Int.reduceGT, Int.reduceGE, Int.reduceNeg, BEq.rfl, bne_self_eq_false, ge_iff_le, gt_iff_lt]
  | false =>
    rw [ho] at h2
    obtain ⟨x, H1, n1, n2, n3, n4, n5⟩ := names_c h
    have h1 := h.out n3 fun j _ q => by cases q
    have hlt := h.lt
    have hnl : (names m).length ≤ 1000000 := by
      unfold names
      rw [sortN_len, List.length_map]
      have := h.ok.many; omega
    obtain ⟨H2, L2, e1, e2, e3, e4⟩ := crash_loop (fun x118 h119 =>
        B1 (nilA x118) fun v120 =>
        B1 (fa 2 v120) fun v121 =>
        B1 (st 1 v121 (.bool true) h119) fun h122 =>
        B1 (nilA x118) fun v123 =>
        B1 (fa 3 v123) fun v124 =>
        B1 (st 1 v124 (.int .i64 0) h122) fun h125 =>
        some (.tuple [], h125)) p x (names m) hnl (names m) 0 H1 m L kv kl h1 n2 (fun j hj ⟨y, hy, q⟩ => by
          have := n4 j hj
          have := hlt j (St.mem_file hy q); omega) (by simp) rfl (hk.out n3 fun j _ q => by cases q) hkd (names_mem h)
    obtain ⟨H3, a1, a2, a3, a4⟩ := e2.head.st (o := 2) (v := .bool true) (by simp) rfl
    obtain ⟨H4, b1, b2, b3, b4⟩ := a2.st (o := 3) (v := .int .i64 ((0 : Nat) : Int)) (by simp) rfl
    have ho2 : Out [p] H2 H4 := a3.trans b3
    have hk2 := e2.keep.out ho2 fun j hj q => e2.keep_p (by rw [List.mem_singleton.1 q] at hj; exact hj)
    obtain ⟨q1, q2⟩ := e2.setHead (off := true) (fuse := 0) (keep := L2.keep) (kl := m.keep) b2 (by omega) ho2 (fun j hj => .inl (by simpa using hj)) hk2 (fun j hj => .inl hj) (rid_nd _)
    have hgo : Go' p H L H1 L := ⟨n3.mono (fun j hj => by cases hj), fun j hj => .inl hj⟩
    refine ⟨H4, L2, c_store_Store_Crash ?_, ?_, (hgo.trans e3).trans q2⟩
    · unfold s_store_Store_Crash
      have b1' : st 1 (.ptr p 3) (.int .i64 0) H3 = some H4 := b1
      have e1' : l_store_Store_Crash JN GO cK (fun x118 h119 =>
        B1 (nilA x118) fun v120 =>
        B1 (fa 2 v120) fun v121 =>
        B1 (st 1 v121 (.bool true) h119) fun h122 =>
        B1 (nilA x118) fun v123 =>
        B1 (fa 3 v123) fun v124 =>
        B1 (st 1 v124 (.int .i64 0) h122) fun h125 =>
        some (.tuple [], h125)) (.ptr p 0) kv x (.int .i64 (names m).length) (.int .i64 0) H1 = some (.tuple [], H4) := by
        refine e1.trans ?_
        simp only [a1, b1', JN_0, JN_1, JN_2, JN_3, JN_4, JN_5, JN_6, JN_7, JN_8, JN_9, JN_10, JN_11, JN_12, JN_13, JN_14, JN_15, JN_16, JN_17, JN_18, JN_19, JN_20, JN_21, JN_22, JN_23, JN_24, B1_s, B2_s, BN_s, CD_t, CD_f, GO_tt, GO_ft, GO_tf, GO_ff, GO_ut, GO_uf, GD2_tt, GD2_ft, GD2_tf, GD2_ff, pk_t, pk_f, nilA_p, nilA_i, fa_p, fd_a, ex_t, iadd_i, isub_i, imul_i, ieq_i, ine_i, ilt_i, ile_i, igt_i, ige_i, seq_s, sne_s, slt_s, lens_s, lenx_0, lenx_s, not_b, bb_e, bb_n, cv_i, pe_00, pe_0p, pe_p0, eqB_e, eqB_n, List.getElem?_cons_zero, List.getElem?_cons_succ, Nat.zero_add, Bool.not_true, Bool.not_false, decide_true, decide_false, Int.reduceBEq, Int.reduceBNe, Int.reduceLT, Int.reduceLE, Int.reduceGT, Int.reduceGE, Int.reduceNeg, BEq.rfl, bne_self_eq_false, ge_iff_le, gt_iff_lt]
      simp only [h2, n1, n5, JN_0, JN_1, JN_2, JN_3, JN_4, JN_5, JN_6, JN_7, JN_8, JN_9, JN_10, JN_11, JN_12, JN_13, JN_14, JN_15, JN_16, JN_17, JN_18, JN_19, JN_20, JN_21, JN_22, JN_23, JN_24, B1_s, B2_s, BN_s, CD_t, CD_f, GO_tt, GO_ft, GO_tf, GO_ff, GO_ut, GO_uf, GD2_tt, GD2_ft, GD2_tf, GD2_ff, pk_t, pk_f, nilA_p, nilA_i, fa_p, fd_a, ex_t, iadd_i, isub_i, imul_i, ieq_i, ine_i, ilt_i, ile_i, igt_i, ige_i, seq_s, sne_s, slt_s, lens_s, lenx_0, lenx_s, not_b, bb_e, bb_n, cv_i, pe_00, pe_0p, pe_p0, eqB_e, eqB_n, List.getElem?_cons_zero, List.getElem?_cons_succ, Nat.zero_add, Bool.not_true, Bool.not_false, decide_true, decide_false, Int.reduceBEq, Int.reduceBNe, Int.reduceLT, Int.reduceLE, Int.reduceGT, Int.reduceGE, Int.reduceNeg, BEq.rfl, bne_self_eq_false, ge_iff_le, gt_iff_lt]
      exact e1'
    · unfold crashM
      rw [if_neg (by rw [ho]; simp)]
      exact q1
/-- a call that would be done, counted -/
def burnB (m : SM) : Bool := m.fuse != 1
noncomputable def burnM (m : SM) : SM := if m.fuse = 0 then m else if m.fuse = 1 then crashM { m with fuse := 0 } m.keep else { m with fuse := m.fuse - 1 }
theorem burn_c (h : St H p m L) : ∃ H' L', cK (.func (.func 37) [] []) [.ptr p 0] H = some (.bool (burnB m), H') ∧ St H' p (burnM m) L' ∧ Go' p H L H' L' ∧ (burnB m = true → L' = L ∧ Out [p] H H' ∧ (burnM m).fs = m.fs ∧ (burnM m).room = m.room ∧ (burnM m).off = m.off ∧ (burnM m).keep = m.keep) := by
  have h3 := h.ld_fuse
  by_cases h0 : m.fuse = 0
  · have hB : burnB m = true := by simp [burnB, h0]
    refine ⟨H, L, c_store_Store_burn ?_, by unfold burnM; rw [if_pos h0]; exact h, Go'.refl _ _ _, fun _ => ⟨rfl, Out.refl _ _, by unfold burnM; rw [if_pos h0], by unfold burnM; rw [if_pos h0], by unfold burnM; rw [if_pos h0], by unfold burnM; rw [if_pos h0]⟩⟩
    unfold s_store_Store_burn
    have : ((m.fuse : Int) == 0) = true := by rw [h0]; rfl
    simp only [h3, this, hB, JN_0, JN_1, JN_2, JN_3, JN_4, JN_5, JN_6, JN_7, JN_8, JN_9, JN_10, JN_11, JN_12, JN_13, JN_14, JN_15, JN_16, JN_17, JN_18, JN_19, JN_20, JN_21, JN_22, JN_23, JN_24, B1_s, B2_s, BN_s, CD_t, CD_f, GO_tt, GO_ft, GO_tf, GO_ff, GO_ut, GO_uf, GD2_tt, GD2_ft, GD2_tf, GD2_ff, pk_t, pk_f, nilA_p, nilA_i, fa_p, fd_a, ex_t, iadd_i, isub_i, imul_i, ieq_i, ine_i, ilt_i, ile_i, igt_i, ige_i, seq_s, sne_s, slt_s, lens_s, lenx_0, lenx_s, not_b, bb_e, bb_n, cv_i, pe_00, pe_0p, pe_p0, eqB_e, eqB_n, List.getElem?_cons_zero, List.getElem?_cons_succ, Nat.zero_add, Bool.not_true, Bool.not_false, decide_true, decide_false, Int.reduceBEq, Int.reduceBNe, Int.reduceLT, Int.reduceLE, Int.reduceGT, Int.reduceGE, Int.reduceNeg, BEq.rfl, bne_self_eq_false, ge_iff_le, gt_iff_lt]
  · have hz : ((m.fuse : Int) == 0) = false := by simp; omega
    have hf := h.ok.fuse
    have hw : IntKind.wrap .i64 ((m.fuse : Int) - 1) = ((m.fuse - 1 : Nat) : Int) := by rw [wrap_i64 (by omega) (by omega)]; omega
    obtain ⟨H1, a1, a2, a3, a4⟩ := h.head.st (o := 3) (v := .int .i64 ((m.fuse - 1 : Nat) : Int)) (by simp) rfl
    have hk1 := h.keep.out a3 fun j hj q => h.keep_p (by rw [List.mem_singleton.1 q] at hj; exact hj)
    obtain ⟨q1, q2⟩ := h.setHead (off := m.off) (fuse := m.fuse - 1) (keep := L.keep) (kl := m.keep) a2 (by omega) a3 (fun j hj => .inl (by simpa using hj)) hk1 (fun j hj => .inl hj) (rid_nd _)
    have hld : ld (.ptr p 3) H1 = some (.int .i64 ((m.fuse - 1 : Nat) : Int)) := a2.ld (o := 3) rfl
    have hld4 : ld (.ptr p 4) H1 = some L.keep := a2.ld (o := 4) rfl
    by_cases h1 : m.fuse = 1
    · have hB : burnB m = false := by simp [burnB, h1]
      have hn : decide ((0 : Int) < ((m.fuse - 1 : Nat) : Int)) = false := decide_eq_false (by omega)
      obtain ⟨H2, L2, c1, c2, c3⟩ := crash_c q1 (kv := L.keep) (kl := m.keep) hk1 q1.notF.2.2
      refine ⟨H2, L2, c_store_Store_burn ?_, ?_, q2.trans c3, fun q => by rw [hB] at q; cases q⟩
      · unfold s_store_Store_burn
        simp only [h3, hz, hw, a1, hld, hn, hld4, c1, hB, JN_0, JN_1, JN_2, JN_3, JN_4, JN_5, JN_6, JN_7, JN_8, JN_9, JN_10, JN_11, JN_12, JN_13, JN_14, JN_15, JN_16, JN_17, JN_18, JN_19, JN_20, JN_21, JN_22, JN_23, JN_24, B1_s, B2_s, BN_s, CD_t, CD_f, GO_tt, GO_ft, GO_tf, GO_ff, GO_ut, GO_uf, GD2_tt, GD2_ft, GD2_tf, GD2_ff, pk_t, pk_f, nilA_p, nilA_i, fa_p, fd_a, ex_t, iadd_i, isub_i, imul_i, ieq_i, ine_i, ilt_i, ile_i, igt_i, ige_i, seq_s, sne_s, slt_s, lens_s, lenx_0, lenx_s, not_b, bb_e, bb_n, cv_i, pe_00, pe_0p, pe_p0, eqB_e, eqB_n, List.getElem?_cons_zero, List.getElem?_cons_succ, Nat.zero_add, Bool.not_true, Bool.not_false, decide_true, decide_false, Int.reduceBEq, Int.reduceBNe, Int.reduceLT, Int.reduceLE, Int.reduceGT, Int.reduceGE, Int.reduceNeg, BEq.rfl, bne_self_eq_false, ge_iff_le, gt_iff_lt]
      · unfold burnM
        rw [if_neg h0, if_pos h1]
        have : m.fuse - 1 = 0 := by omega
        rw [this] at c2; exact c2
    · have hB : burnB m = true := by simp [burnB, h1]
      have hn : decide ((0 : Int) < ((m.fuse - 1 : Nat) : Int)) = true := decide_eq_true (by omega)
      have hbm : burnM m = { m with fuse := m.fuse - 1 } := by unfold burnM; rw [if_neg h0, if_neg h1]
      refine ⟨H1, L, c_store_Store_burn ?_, by rw [hbm]; exact q1, q2, fun _ => ⟨rfl, a3, by rw [hbm], by rw [hbm], by rw [hbm], by rw [hbm]⟩⟩
      unfold s_store_Store_burn
      simp only [h3, hz, hw, a1, hld, hn, hB, JN_0, JN_1, JN_2, JN_3, JN_4, JN_5, JN_6, JN_7, JN_8, JN_9, JN_10, JN_11, JN_12, JN_13, JN_14, JN_15, JN_16, JN_17, JN_18, JN_19, JN_20, JN_21, JN_22, JN_23, JN_24, B1_s, B2_s, BN_s, CD_t, CD_f, GO_tt, GO_ft, GO_tf, GO_ff, GO_ut, GO_uf, GD2_tt, GD2_ft, GD2_tf, GD2_ff, pk_t, pk_f, nilA_p, nilA_i, fa_p, fd_a, ex_t, iadd_i, isub_i, imul_i, ieq_i, ine_i, ilt_i, ile_i, igt_i, ige_i, seq_s, sne_s, slt_s, lens_s, lenx_0, lenx_s, not_b, bb_e, bb_n, cv_i, pe_00, pe_0p, pe_p0, eqB_e, eqB_n, List.getElem?_cons_zero, List.getElem?_cons_succ, Nat.zero_add, Bool.not_true, Bool.not_false, decide_true, decide_false, Int.reduceBEq, Int.reduceBNe, Int.reduceLT, Int.reduceLE, Int.reduceGT, Int.reduceGE, Int.reduceNeg, BEq.rfl, bne_self_eq_false, ge_iff_le, gt_iff_lt]
/-- a file is synced -/
noncomputable def syncM (m : SM) (at' : List Nat) : Int × SM := if ofE m at' ≠ 0 then (ofE m at', m) else if burnB m = false then (11, burnM m) else
  (0, { burnM m with fs := match look m at' with | some f => setF at' ⟨f.nm, f.b, f.b.length⟩ m.fs | none => m.fs })
theorem ne_of_ofE {m : SM} {at' : List Nat} (he : ofE m at' ≠ 0) : (ofE m at' != 0) = true := by simpa using he
theorem sync_c (h : St H p m L) (at' : List Nat) : ∃ H' L', cK (.func (.func 12) [] []) [.ptr p 0, .str at'] H = some (.int .i64 (syncM m at').1, H') ∧ St H' p (syncM m at').2 L' ∧ Go' p H L H' L' := by
  have h0 := of_c h at'
  by_cases he : ofE m at' = 0
  · obtain ⟨q1, q2, a, x, b, r1, r2, r3, r4, r5, r6, hx, hf⟩ := h.ofP he
    obtain ⟨H1, L1, b1, b2, b3, b4⟩ := burn_c h
    cases hB : burnB m with
    | false =>
      have : syncM m at' = (11, burnM m) := by unfold syncM; rw [if_neg (by simp [he]), if_pos hB]
      rw [this]
      refine ⟨H1, L1, c_store_Store_Sync ?_, b2, b3⟩
      unfold s_store_Store_Sync
      simp only [h0, he, q1, q2, b1, hB, Bool.false_eq_true, Bool.true_eq_false, or_self, if_false, JN_0, JN_1, JN_2, JN_3, JN_4, JN_5, JN_6, JN_7, JN_8, JN_9, JN_10, JN_11, JN_12, JN_13, JN_14, JN_15, JN_16, JN_17, JN_18, JN_19, JN_20, JN_21, JN_22, JN_23, JN_24, B1_s, B2_s, BN_s, CD_t, CD_f, GO_tt, GO_ft, GO_tf, GO_ff, GO_ut, GO_uf, GD2_tt, GD2_ft, GD2_tf, GD2_ff, pk_t, pk_f, nilA_p, nilA_i, fa_p, fd_a, ex_t, iadd_i, isub_i, imul_i, ieq_i, ine_i, ilt_i, ile_i, igt_i, ige_i, seq_s, sne_s, slt_s, lens_s, lenx_0, lenx_s, not_b, bb_e, bb_n, cv_i, pe_00, pe_0p, pe_p0, eqB_e, eqB_n, List.getElem?_cons_zero, List.getElem?_cons_succ, Nat.zero_add, Bool.not_true, Bool.not_false, decide_true, decide_false, Int.reduceBEq, Int.reduceBNe, Int.reduceLT, Int.reduceLE, Int.reduceGT, Int.reduceGE, Int.reduceNeg, BEq.rfl, bne_self_eq_false, ge_iff_le, gt_iff_lt]
    | true =>
      obtain ⟨e1, e2, e3, e4, e5, e6⟩ := b4 hB
      rw [e1] at b2 b3
      obtain ⟨hf1, hf2⟩ := b2.file x hx
      have hl := hf1.ld (o := 0) rfl
      have hlen := hf2.rw.len1
      rw [bs_len] at hlen
      obtain ⟨H2, c1, c2, c3, c4⟩ := put1 (t := (x.f.b.length : Int)) hf1 hf2 (b2.id_nd hx)
      have hset := b2.setFile (f := ⟨x.f.nm, x.f.b, x.f.b.length⟩) r1 (by rw [r2]; exact r3) (by rw [r2]; exact r4) rfl c3 (fun j hj => by rw [List.mem_singleton.1 hj]; exact .head _) c2 c4 (fun j hj => .inl hj) (rid_nd _) (Nat.le_refl _) (h.ok.byte x.f hf) (by
        have := b2.sum_set r1 (by rw [r2]; exact r3) (by rw [r2]; exact r4) ⟨x.f.nm, x.f.b, x.f.b.length⟩
        have := b2.ok.sum
        simp only at *; omega)
      obtain ⟨s1, s2⟩ := hset
      have : syncM m at' = (0, { burnM m with fs := setF x.f.nm ⟨x.f.nm, x.f.b, x.f.b.length⟩ (burnM m).fs }) := by
        unfold syncM; rw [if_neg (by simp [he]), if_neg (by simp [hB]), r6, ← r2, e3]
      rw [this]
      refine ⟨H2, _, c_store_Store_Sync ?_, s1, b3.trans s2⟩
      unfold s_store_Store_Sync
      simp only [h0, he, q1, q2, b1, hB, r5, hl, hlen, c1, Bool.false_eq_true, Bool.true_eq_false, or_self, if_false, JN_0, JN_1, JN_2, JN_3, JN_4, JN_5, JN_6, JN_7, JN_8, JN_9, JN_10, JN_11, JN_12, JN_13, JN_14, JN_15, JN_16, JN_17, JN_18, JN_19, JN_20, JN_21, JN_22, JN_23, JN_24, B1_s, B2_s, BN_s, CD_t, CD_f, GO_tt, GO_ft, GO_tf, GO_ff, GO_ut, GO_uf, GD2_tt, GD2_ft, GD2_tf, GD2_ff, pk_t, pk_f, nilA_p, nilA_i, fa_p, fd_a, ex_t, iadd_i, isub_i, imul_i, ieq_i, ine_i, ilt_i, ile_i, igt_i, ige_i, seq_s, sne_s, slt_s, lens_s, lenx_0, lenx_s, not_b, bb_e, bb_n, cv_i, pe_00, pe_0p, pe_p0, eqB_e, eqB_n, List.getElem?_cons_zero, List.getElem?_cons_succ, Nat.zero_add, Bool.not_true, Bool.not_false, decide_true, decide_false, Int.reduceBEq, Int.reduceBNe, Int.reduceLT, Int.reduceLE, Int.reduceGT, Int.reduceGE, Int.reduceNeg, BEq.rfl, bne_self_eq_false, ge_iff_le, gt_iff_lt]
  · have : syncM m at' = (ofE m at', m) := by unfold syncM; rw [if_pos he]
    rw [this]
    refine ⟨H, L, c_store_Store_Sync ?_, h, Go'.refl _ _ _⟩
    unfold s_store_Store_Sync
    simp only [h0, ne_of_ofE he, JN_0, JN_1, JN_2, JN_3, JN_4, JN_5, JN_6, JN_7, JN_8, JN_9, JN_10, JN_11, JN_12, JN_13, JN_14, JN_15, JN_16, JN_17, JN_18, JN_19, JN_20, JN_21, JN_22, JN_23, JN_24, B1_s, B2_s, BN_s, CD_t, CD_f, GO_tt, GO_ft, GO_tf, GO_ff, GO_ut, GO_uf, GD2_tt, GD2_ft, GD2_tf, GD2_ff, pk_t, pk_f, nilA_p, nilA_i, fa_p, fd_a, ex_t, iadd_i, isub_i, imul_i, ieq_i, ine_i, ilt_i, ile_i, igt_i, ige_i, seq_s, sne_s, slt_s, lens_s, lenx_0, lenx_s, not_b, bb_e, bb_n, cv_i, pe_00, pe_0p, pe_p0, eqB_e, eqB_n, List.getElem?_cons_zero, List.getElem?_cons_succ, Nat.zero_add, Bool.not_true, Bool.not_false, decide_true, decide_false, Int.reduceBEq, Int.reduceBNe, Int.reduceLT, Int.reduceLE, Int.reduceGT, Int.reduceGE, Int.reduceNeg, BEq.rfl, bne_self_eq_false, ge_iff_le, gt_iff_lt]
end
end Go.Proofs.YtnabkcdchklnpaaDoor.StC
