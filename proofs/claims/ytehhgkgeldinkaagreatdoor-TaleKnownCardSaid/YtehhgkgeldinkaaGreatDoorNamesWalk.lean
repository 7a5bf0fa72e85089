/- (*store.Store).Names, in whatever order the map is walked: a new slice that holds the files' names, sorted. Conditions: what the store's cells hold, as stated. -/
import Derived.Test.YtehhgkgeldinkaaGreatDoorAm9
import Derived.Test.YtehhgkgeldinkaaGreatDoorShelf
import Derived.Shelf.SlIter.Nil
import Derived.Shelf.SortM.Plain
import Derived.Shelf.SortM.SortNone
import Derived.Ground.GgzProg
import Derived.Ground.SlgmProg
import Derived.Tactics
import Derived.Tactics2
import Derived.StillTactics
import Derived.WalkKit
import Derived.Test.YtehhgkgeldinkaaGreatDoorProg
import Derived.ProofKit
set_option linter.unusedVariables false
set_option linter.unusedSimpArgs false
namespace Go.Proofs
open Go.RowKit Go.Maps Go.Sort Go.Shelf
theorem Tryz.sortsN (m : Nat) : AnyZ.SortsIn Tryz.prog Tryz.sorted119_ren Fence.wide m :=
  ⟨fun blk off cap ss W hH hblk hsz => callsIn_wide.2 (AnyM.slices_Sort_string Tryz.sort179 blk off cap ss W hH hblk hsz),
   fun p cap W => callsIn_wide.2 (AnyM.slices_Sort_string_none Tryz.sort179 p cap W)⟩
theorem Tryz.maps_KeysN (mb:Option Nat) (W:World):CallsIn Fence.wide 5 Tryz.prog 120 #[.map mb] W fun e w'=>e = .returned (.func (.func 180) #[] #[.pointer (some ⟨W.heap.size,0,none⟩)])∧w'=W.alloc (.cells #[.map mb] 104):=
 AnyZ.keys_in Tryz.keys120 Fence.wide 5 trivial rfl mb W
set_option maxHeartbeats 1000000 in
theorem Tryz.slices_SortedN {H:Type} (b nn:Nat) (D0:DataW H) (R:Value→Option (DataW H × List MemPlace)) (w:World) (hown:w.ownsMap Tryz.prog 9 R b nn D0) (hmax:Maps.size D0≤maxLen) (hbytes:Maps.size D0 * 16≤140737488355328) :
  CallsIn Fence.wide 5 Tryz.prog 119 #[.func (.func 180) #[] #[.pointer (some ⟨w.heap.size,0,none⟩)]] (w.alloc (.cells #[.map (some b)] 104)) fun e w'=>∃ (v:Value) (ss:List (List UInt8)),e = .returned v∧ss.Perm (strKeys D0)∧
   w'.ownsRow (w.alloc (.cells #[.map (some b)] 104)).heap.size 9 1 v ss.length ((ss.mergeSort (fun x y=>decide (x≤y))).map encStr)∧(v = .slice none 0 0 ↔ ss=[])∧Below (w.alloc (.cells #[.map (some b)] 104)).heap.size (w.alloc (.cells #[.map (some b)] 104)) w':=by
 have hbl:=hown.lt
 have hseq:SeqGives Fence.wide 2 Tryz.prog 180 #[.pointer (some ⟨w.heap.size,0,none⟩)] encStr (fun ss=>ss.Perm (strKeys D0)) (Maps.size D0) (w.alloc (.cells #[.map (some b)] 104)):=
  AnyZ.keys_gives (ρ:=Tryz.keys120_ren) { Tryz.keys120 with } Fence.wide _ trivial rfl (by omega) w.heap.size b nn D0 _ (by simp) (by simp) (by
   obtain ⟨es,clock,hb,Ft,hs,hD⟩:=hown
   exact ⟨es,clock,(Below.heap_alloc _ _ b hbl).trans hb,Ft,hs,hD⟩)
 exact AnyZ.sorted_in Tryz.sorted119 Fence.wide 5 trivial trivial trivial trivial rfl (by omega) (Tryz.sortsN _) (enters_of Tryz.func179 (by kernel_rfl) rfl) 180 #[.pointer (some ⟨w.heap.size,0,none⟩)] trivial (enters_of Tryz.func180 (by kernel_rfl) rfl) _ _ hmax hbytes _ hseq
end Go.Proofs
namespace Go.Proofs.YtehhgkgeldinkaaGreatDoor.NamesWalk
open Go Go.Proofs Go.RowKit Go.Maps Go.Sort Go.Shelf
set_option maxHeartbeats 1000000 in
theorem walk (bs o bm nn:Nat) (D0:DataW Unit) (R:Value→Option (DataW Unit × List MemPlace)) (w:World) (h1:w.cell? ⟨bs,o + 1,none⟩=some (.map (some bm))) (hown:w.ownsMap Tryz.prog 9 R bm nn D0) (hmax:Maps.size D0≤maxLen) (hbytes:Maps.size D0 * 16≤140737488355328) :
  Calls Tryz.prog 66 #[.pointer (some ⟨bs,o,none⟩)] w fun e w'=>∃ (v:Value) (ss:List (List UInt8)),e = .returned v∧ss.Perm (strKeys D0)∧
   w'.ownsRow w.heap.size 9 1 v ss.length ((ss.mergeSort (fun x y=>decide (x≤y))).map encStr)∧(v = .slice none 0 0 ↔ ss=[])∧Below w.heap.size w w':=by
 refine (callsIn_wide (n:=6)).1 ?_
 have hfK:Fence.wide.fn 120:=trivial
 have hfS:Fence.wide.fn 119:=trivial
 refine callsIn_of_wp Tryz.func66 rfl trivial ?_ rfl
 simp only [Tryz.ntmps66,List.size_toArray,List.length_cons,List.length_nil,Nat.reduceAdd,Nat.reduceSub,Array.replicate_succ,Array.replicate_zero,List.push_toArray,List.append_toArray,List.nil_append,List.cons_append]
 gi_wp2_with (first
  | (gi_at_call 120; refine (Tryz.maps_KeysN _ _).mono ?_; rintro e w' ⟨rfl,rfl⟩)
  | (gi_at_call 119; refine (Tryz.slices_SortedN bm nn D0 R w hown hmax hbytes).mono ?_; rintro e w' ⟨v,ss,rfl,hS,hrow,hnil,hb⟩))
 go_ret
 exact ⟨v,ss,rfl,hS,ownsRow_base_a hrow (by simp),hnil,((Below.refl _ w).alloc (Nat.le_refl _) _).trans (hb.mono (by simp))⟩
theorem namesOne:Am.PrimOne Tryz.prog 66 (Am.namesP 9):=by
 refine Am.names_ok (fun as' w=>Am.run_enter (by unfold Am.NamesOK; kernel_rfl) Tryz.func66 rfl as' w) Tryz.underlying9 ?_
 intro bs o bm nn D0 R w h1 hown hmax hbytes
 exact walk bs o bm nn D0 R w h1 hown hmax hbytes
end Go.Proofs.YtehhgkgeldinkaaGreatDoor.NamesWalk
