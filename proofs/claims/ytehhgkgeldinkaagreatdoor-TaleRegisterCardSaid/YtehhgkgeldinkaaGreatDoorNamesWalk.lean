/- Laws that the proof uses. -/
import Derived.Test.YtehhgkgeldinkaaGreatDoorAm9
import Derived.Test.YtehhgkgeldinkaaGreatDoorShelf
import Derived.Shelf.SlIter.Nil
import Derived.Shelf.SortM.Plain
import Derived.Shelf.SortM.SortNone
import Derived.Ground.GgzProg
import Derived.Ground.SlgmProg
import Derived.Tactics
import Derived.Tactics2
import Derived.StillTactics
import Derived.WalkKit
import Derived.Test.YtehhgkgeldinkaaGreatDoorProg
import Derived.ProofKit
set_option maxHeartbeats 1000000
set_option linter.unusedVariables false
set_option linter.unusedSimpArgs false
set_option maxRecDepth 100000
namespace Go.Proofs
open Go.RowKit Go.Maps Go.Sort Go.Shelf
theorem Tryz.amO (m : Nat) : AnyZ.SortsIn Tryz.prog Tryz.sorted119_ren Fence.wide m :=
  ⟨fun dY off cap ss W hH HP dp => callsIn_wide.2 (AnyM.slices_Sort_string Tryz.sort179 dY off cap ss W hH HP dp),
   fun p cap W => callsIn_wide.2 (AnyM.slices_Sort_string_none Tryz.sort179 p cap W)⟩
theorem Tryz.anh (mb:Option Nat)(W:World):CallsIn Fence.wide 5 Tryz.prog 120 #[.map mb] W fun e w'=>e = .returned (.func (.func 180) #[] #[.pointer (some ⟨W.heap.size,0,none⟩)])/\w'=W.alloc (.cells #[.map mb] 104):=
 AnyZ.keys_in Tryz.keys120 Fence.wide 5 trivial rfl mb W
theorem Tryz.alk {H:Type}(b nn:Nat)(D0:DataW H)(R:Value->Option (DataW H × List MemPlace))(w:World)(wM:w.ownsMap Tryz.prog 9 R b nn D0)(uu:Maps.size D0<=maxLen)(Cu:Maps.size D0*16<=140737488355328) :
  CallsIn Fence.wide 5 Tryz.prog 119 #[.func (.func 180) #[] #[.pointer (some ⟨w.heap.size,0,none⟩)]] (w.alloc (.cells #[.map (some b)] 104)) fun e w'=>∃ (v:Value) (ss:List (List UInt8)),e = .returned v/\ss.Perm (strKeys D0)/\
   w'.ownsRow (w.alloc (.cells #[.map (some b)] 104)).heap.size 9 1 v ss.length ((ss.mergeSort (fun x y=>decide (x<=y))).map encStr)/\(v = .slice none 0 0↔ss=[])/\Below (w.alloc (.cells #[.map (some b)] 104)).heap.size (w.alloc (.cells #[.map (some b)] 104)) w':=by
 have qG:=wM.lt
 have om:SeqGives Fence.wide 2 Tryz.prog 180 #[.pointer (some ⟨w.heap.size,0,none⟩)] encStr (fun ss=>ss.Perm (strKeys D0)) (Maps.size D0) (w.alloc (.cells #[.map (some b)] 104)):=
  AnyZ.keys_gives (ρ:=Tryz.keys120_ren) { Tryz.keys120 with } Fence.wide _ trivial rfl (by omega) w.heap.size b nn D0 _ (by simp) (by simp) (by
   obtain⟨es,clock,hb,Ft,hs,hD⟩:=wM
   exact⟨es,clock,(Below.heap_alloc _ _ b qG).trans hb,Ft,hs,hD⟩)
 exact AnyZ.sorted_in Tryz.sorted119 Fence.wide 5 trivial trivial trivial trivial rfl (by omega) (Tryz.amO _) (enters_of Tryz.func179 (by kernel_rfl) rfl) 180 #[.pointer (some ⟨w.heap.size,0,none⟩)] trivial (enters_of Tryz.func180 (by kernel_rfl) rfl) _ _ uu Cu _ om
end Go.Proofs
namespace Go.Proofs.YtehhgkgeldinkaaGreatDoor.XC
open Go Go.Proofs Go.RowKit Go.Maps Go.Sort Go.Shelf
theorem walk (bs o bm nn:Nat)(D0:DataW Unit)(R:Value->Option (DataW Unit × List MemPlace))(w:World)(h1:w.cell? ⟨bs,o+1,none⟩=some (.map (some bm)))(wM:w.ownsMap Tryz.prog 9 R bm nn D0)(uu:Maps.size D0<=maxLen)(Cu:Maps.size D0*16<=140737488355328) :
  Calls Tryz.prog 66 #[.pointer (some ⟨bs,o,none⟩)] w fun e w'=>∃ (v:Value) (ss:List (List UInt8)),e = .returned v/\ss.Perm (strKeys D0)/\
   w'.ownsRow w.heap.size 9 1 v ss.length ((ss.mergeSort (fun x y=>decide (x<=y))).map encStr)/\(v = .slice none 0 0↔ss=[])/\Below w.heap.size w w':=by
 refine (callsIn_wide (n:=6)).1 ?_
 have hfK:Fence.wide.fn 120:=trivial
 have hfS:Fence.wide.fn 119:=trivial
 refine callsIn_of_wp Tryz.func66 rfl trivial ?_ rfl
 simp only[Tryz.ntmps66,List.size_toArray,abn,abY,Nat.reduceAdd,Nat.reduceSub,Array.replicate_succ,Array.replicate_zero,List.push_toArray,List.append_toArray,afE,ahd]
 gi_wp2_with (first
  | (gi_at_call 120;refine (Tryz.anh _ _).mono ?_;rintro e w' ⟨rfl,rfl⟩)
  | (gi_at_call 119;refine (Tryz.alk bm nn D0 R w wM uu Cu).mono ?_;rintro e w' ⟨v,ss,rfl,hS,jC,lS,hb⟩))
 go_ret
 exact⟨v,ss,rfl,hS,ownsRow_base_a jC (by simp),lS,((Below.refl _ w).alloc (aar _) _).trans (hb.mono (by simp))⟩
theorem ahL:Am.pt Tryz.prog 66 (Am.CG 9):=by
 refine Am.aqJ (fun ar w=>Am.rF (by unfold Am.jY;kernel_rfl) Tryz.func66 rfl ar w) Tryz.underlying9 ?_
 intro bs o bm nn D0 R w h1 wM uu Cu
 exact walk bs o bm nn D0 R w h1 wM uu Cu
end Go.Proofs.YtehhgkgeldinkaaGreatDoor.XC
namespace Go.Proofs.YtehhgkgeldinkaaGreatDoor.Xh
open Go Go.Proofs Go.RowKit Go.Shelf
theorem acY:Am.pt Tryz.prog 60 Am.F7:=by
 refine Am.aeM (fun ar w=>Am.rF (by unfold Am.jY;kernel_rfl) Tryz.func60 rfl ar w) ?_
 intro s c w hs hc ha
 exact Any.strings_Trim_laid Tryz.lays160 (by kernel_rfl) s c w hs hc ha
end Go.Proofs.YtehhgkgeldinkaaGreatDoor.Xh
