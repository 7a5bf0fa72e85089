/- seg.Name and seg.Parse as contracts of the evaluator. No conditions. -/
import Derived.Test.YtdacjomfipkpaaaDoorAm15
import Derived.Test.YtdacjomfipkpaaaDoorSegParsef
namespace Go.Proofs.YtdacjomfipkpaaaDoor.SegPrim
open Go Go.RowKit Hp Sg SgW Am
set_option maxRecDepth 100000
set_option linter.unusedVariables false
theorem only_below {w w' : World} (h : Only (fun _ => False) w w') : Below w.heap.size w w' :=
  ⟨h.os, h.tape, h.output, h.size, fun k hk => h.block k hk (fun h => h)⟩
/-- what the two read of the listed variables -/
structure VsA (H : Am.Hp) : Prop where
  tab : cellAt H 5 15 = some (.int .u8 4)
  syn : ∃ t p, cellAt H 1 0 = some (.iface t p)
  rng : ∃ t p, cellAt H 2 0 = some (.iface t p)
theorem VsA.vs {F : Nat → Prop} {W : World} {e : Em} {H : Am.Hp} {w : World} (h : VsA H) (hR : RH Tryd.prog.globals.size F W e H w) : Vs w := by
  have hs1 : 5 < Tryd.prog.globals.size := by rw [← Nat.blt_eq]; kernel_rfl
  have hs2 : 1 < Tryd.prog.globals.size := by rw [← Nat.blt_eq]; kernel_rfl
  have hs3 : 2 < Tryd.prog.globals.size := by rw [← Nat.blt_eq]; kernel_rfl
  have key : ∀ g k v, g < Tryd.prog.globals.size → cellAt H g (k : Nat) = some v → ∃ v', w.cell? ⟨g, k, none⟩ = some v' ∧ VR e v v' := by
    intro g k v hg hc
    obtain ⟨_, o, ho, v', h1, h2⟩ := hR.load hc
    obtain ⟨_, hb, hd⟩ := hR.glob g hg
    rw [hb] at h1
    rw [hd] at ho
    obtain rfl : o = k := by omega
    exact ⟨v', h1, h2⟩
  refine ⟨?_, ?_, ?_⟩
  · obtain ⟨v', h1, h2⟩ := key _ 15 _ hs1 h.tab
    cases h2
    exact h1
  · obtain ⟨t, p, hc⟩ := h.syn
    obtain ⟨v', h1, h2⟩ := key _ 0 _ hs2 hc
    cases h2
    exact ⟨_, _, h1⟩
  · obtain ⟨t, p, hc⟩ := h.rng
    obtain ⟨v', h1, h2⟩ := key _ 0 _ hs3 hc
    cases h2
    exact ⟨_, _, h1⟩
def inN (a : Int) : Bool := decide (0 ≤ a) && decide (a < 17592186044416)
def nms (a : Int) : List Nat := bif inN a then (nm a.toNat).map (·.toNat) else []
def sps (s : List Nat) : Nat × Bool := sp (s.map UInt8.ofNat)
noncomputable section
open Classical in
def nameP : Prim := fun args H => match args with
  | [.int .i64 a] => if VsA H then some (.tuple [.str (nms a), .bool (inN a)], H) else none
  | _ => none
open Classical in
def parseP : Prim := fun args H => match args with
  | [.str s] => if VsA H ∧ s.length ≤ 281474976710656 then some (.tuple [.int .i64 (sps s).1, .bool (sps s).2], H) else none
  | _ => none
end
theorem namesOK0 : Am.NamesOK Tryd.prog := by unfold Am.NamesOK; kernel_rfl
theorem VR.two {e : Em} {a b : AV} {a' b' : Value} (h : VR e a a') (k : VR e b b') : VR e (.tuple [a, b]) (.tuple #[a', b']) := by
  refine .tuple _ _ rfl ?_
  intro i v v' h1 h2
  match i, h1, h2 with
  | 0, h1, h2 => cases h1; cases h2; exact h
  | 1, h1, h2 => cases h1; cases h2; exact k
theorem nameOne : Am.PrimOne Tryd.prog 10 nameP := by
  intro args H v H' hp F W e w as' hR ha
  unfold nameP at hp
  split at hp
  · rename_i a
    split at hp
    · rename_i hV
      cases hp
      obtain ⟨a', r1, e1, hv1, hr1⟩ := ha.cons_inv
      obtain rfl := hr1.nil_inv
      cases hv1
      obtain rfl : as' = #[.int .i64 a] := Array.toList_inj.1 e1
      refine ⟨Am.run_enter namesOK0 Tryd.func10 rfl _ w, ?_⟩
      have hv := hV.vs hR
      by_cases hi : 0 ≤ a ∧ a < 17592186044416
      · obtain ⟨n, rfl⟩ : ∃ n : Nat, a = n := ⟨a.toNat, by omega⟩
        refine (name_in n (by omega) w hv.tab).mono ?_
        rintro en w' ⟨rfl, ho⟩
        refine ⟨e, _, rfl, e.le_refl, hR.below (only_below ho), ?_⟩
        have h1 : inN (n : Int) = true := by unfold inN; simp [hi]
        have h2 : nms (n : Int) = Am.bytes ⟨(nm n).toArray⟩ := by unfold nms Am.bytes; rw [h1]; simp
        rw [h1, h2]
        exact VR.two (.str _) (.bool _)
      · refine (name_out a (by omega) w).mono ?_
        rintro en w' ⟨rfl, rfl⟩
        refine ⟨e, _, rfl, e.le_refl, hR, ?_⟩
        have h1 : inN a = false := by unfold inN; simp; omega
        have h2 : nms a = Am.bytes ⟨#[]⟩ := by unfold nms Am.bytes; rw [h1]; rfl
        rw [h1, h2]
        exact VR.two (.str _) (.bool _)
    · cases hp
  · cases hp
theorem parseOne : Am.PrimOne Tryd.prog 11 parseP := by
  intro args H v H' hp F W e w as' hR ha
  unfold parseP at hp
  split at hp
  · rename_i s
    split at hp
    · rename_i hV
      cases hp
      obtain ⟨a', r1, e1, hv1, hr1⟩ := ha.cons_inv
      obtain rfl := hr1.nil_inv
      obtain ⟨s', rfl, rfl⟩ := hv1.str_inv
      obtain rfl : as' = #[.string s'] := Array.toList_inj.1 e1
      refine ⟨Am.run_enter namesOK0 Tryd.func11 rfl _ w, ?_⟩
      have hv := hV.1.vs hR
      have hl : s'.size ≤ 281474976710656 := by
        have : s'.size = (Am.bytes s').length := by simp [Am.bytes]
        have := hV.2
        omega
      refine (parse s' hl w hv).mono ?_
      rintro en w' ⟨rfl, ho⟩
      refine ⟨e, _, rfl, e.le_refl, hR.below (only_below ho), ?_⟩
      have h2 : sps (Am.bytes s') = sp s'.data.toList := by
        unfold sps Am.bytes
        rw [List.map_map]
        congr 1
        rw [List.map_congr_left (g := id) (fun x _ => by simp)]
        simp
      rw [h2]
      exact VR.two (.int _ _) (.bool _)
    · cases hp
  · cases hp
end Go.Proofs.YtdacjomfipkpaaaDoor.SegPrim
