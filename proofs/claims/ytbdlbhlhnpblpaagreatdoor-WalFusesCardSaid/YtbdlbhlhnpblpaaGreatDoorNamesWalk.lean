/- Laws that the proof uses. -/
import Derived.Test.YtbdlbhlhnpblpaaGreatDoorAm9
import Derived.Test.YtbdlbhlhnpblpaaGreatDoorShelf
import Derived.Shelf.SlIter.Nil
import Derived.Shelf.SortM.Plain
import Derived.Shelf.SortM.SortNone
import Derived.Ground.GgzProg
import Derived.Ground.SlgmProg
import Derived.Tactics
import Derived.Tactics2
import Derived.StillTactics
import Derived.WalkKit
import Derived.Test.YtbdlbhlhnpblpaaGreatDoorProg
import Derived.ProofKit
set_option maxHeartbeats 1000000
set_option linter.unusedVariables false
set_option linter.unusedSimpArgs false
set_option maxRecDepth 100000
namespace Go.Proofs
open Go.RowKit Go.Maps Go.Sort Go.Shelf
theorem Tryz.ai5 (m : Nat) : AnyZ.SortsIn Tryz.prog Tryz.sorted48_ren Fence.wide m :=
  ⟨fun dm off cap ss W hH G5 cC => callsIn_wide.2 (AnyM.slices_Sort_string Tryz.sort64 dm off cap ss W hH G5 cC),
   fun p cap W => callsIn_wide.2 (AnyM.slices_Sort_string_none Tryz.sort64 p cap W)⟩
theorem Tryz.ajz (mb:Option Nat)(W:World):CallsIn Fence.wide 5 Tryz.prog 49 #[.map mb] W fun e w'=>e = .returned (.func (.func 65) #[] #[.pointer (some ⟨W.heap.size,0,none⟩)])/\w'=W.alloc (.cells #[.map mb] 74):=
 AnyZ.keys_in Tryz.keys49 Fence.wide 5 trivial rfl mb W
theorem Tryz.ah3 {H:Type}(b nn:Nat)(D0:DataW H)(R:Value->Option (DataW H × List MemPlace))(w:World)(uH:w.ownsMap Tryz.prog 9 R b nn D0)(rT:Maps.size D0<=maxLen)(HD:Maps.size D0*16<=140737488355328) :
  CallsIn Fence.wide 5 Tryz.prog 48 #[.func (.func 65) #[] #[.pointer (some ⟨w.heap.size,0,none⟩)]] (w.alloc (.cells #[.map (some b)] 74)) fun e w'=>∃ (v:Value) (ss:List (List UInt8)),e = .returned v/\ss.Perm (strKeys D0)/\
   w'.ownsRow (w.alloc (.cells #[.map (some b)] 74)).heap.size 9 1 v ss.length ((ss.mergeSort (fun x y=>decide (x<=y))).map encStr)/\(v = .slice none 0 0↔ss=[])/\Below (w.alloc (.cells #[.map (some b)] 74)).heap.size (w.alloc (.cells #[.map (some b)] 74)) w':=by
 have jr:=uH.lt
 have ajV:SeqGives Fence.wide 2 Tryz.prog 65 #[.pointer (some ⟨w.heap.size,0,none⟩)] encStr (fun ss=>ss.Perm (strKeys D0)) (Maps.size D0) (w.alloc (.cells #[.map (some b)] 74)):=
  AnyZ.keys_gives (ρ:=Tryz.keys49_ren) { Tryz.keys49 with } Fence.wide _ trivial rfl (by omega) w.heap.size b nn D0 _ (by simp) (by simp) (by
   obtain⟨es,clock,hb,Ft,hs,hD⟩:=uH
   exact⟨es,clock,(Below.heap_alloc _ _ b jr).trans hb,Ft,hs,hD⟩)
 exact AnyZ.sorted_in Tryz.sorted48 Fence.wide 5 trivial trivial trivial trivial rfl (by omega) (Tryz.ai5 _) (enters_of Tryz.func64 (by kernel_rfl) rfl) 65 #[.pointer (some ⟨w.heap.size,0,none⟩)] trivial (enters_of Tryz.func65 (by kernel_rfl) rfl) _ _ rT HD _ ajV
end Go.Proofs
namespace Go.Proofs.YtbdlbhlhnpblpaaGreatDoor.Xr
open Go Go.Proofs Go.RowKit Go.Maps Go.Sort Go.Shelf
theorem walk (bs o bm nn:Nat)(D0:DataW Unit)(R:Value->Option (DataW Unit × List MemPlace))(w:World)(h1:w.cell? ⟨bs,o+1,none⟩=some (.map (some bm)))(uH:w.ownsMap Tryz.prog 9 R bm nn D0)(rT:Maps.size D0<=maxLen)(HD:Maps.size D0*16<=140737488355328) :
  Calls Tryz.prog 35 #[.pointer (some ⟨bs,o,none⟩)] w fun e w'=>∃ (v:Value) (ss:List (List UInt8)),e = .returned v/\ss.Perm (strKeys D0)/\
   w'.ownsRow w.heap.size 9 1 v ss.length ((ss.mergeSort (fun x y=>decide (x<=y))).map encStr)/\(v = .slice none 0 0↔ss=[])/\Below w.heap.size w w':=by
 refine (callsIn_wide (n:=6)).1 ?_
 have hfK:Fence.wide.fn 49:=trivial
 have hfS:Fence.wide.fn 48:=trivial
 refine callsIn_of_wp Tryz.func35 rfl trivial ?_ rfl
 simp only[Tryz.ntmps35,agw,abg,abQ,Nat.reduceAdd,Nat.reduceSub,Array.replicate_succ,Array.replicate_zero,List.push_toArray,List.append_toArray,adt,aew]
 gi_wp2_with (first
  | (gi_at_call 49;refine (Tryz.ajz _ _).mono ?_;rintro e w' ⟨rfl,rfl⟩)
  | (gi_at_call 48;refine (Tryz.ah3 bm nn D0 R w uH rT HD).mono ?_;rintro e w' ⟨v,ss,rfl,hS,gV,lA,hb⟩))
 go_ret
 exact⟨v,ss,rfl,hS,ownsRow_base_a gV (by simp),lA,((Below.refl _ w).alloc (zf _) _).trans (hb.mono (by simp))⟩
theorem afn:Am.od Tryz.prog 35 (Am.Bz 9):=by
 refine Am.ame (fun bV w=>Am.nM (by unfold Am.jA;kernel_rfl) Tryz.func35 rfl bV w) Tryz.underlying9 ?_
 intro bs o bm nn D0 R w h1 uH rT HD
 exact walk bs o bm nn D0 R w h1 uH rT HD
end Go.Proofs.YtbdlbhlhnpblpaaGreatDoor.Xr
namespace Go.Proofs.YtbdlbhlhnpblpaaGreatDoor.W8
open Go Go.Proofs Go.RowKit Go.Shelf
theorem ab5:Am.od Tryz.prog 73 Am.E8:=by
 refine Am.adx (fun bV w=>Am.nM (by unfold Am.jA;kernel_rfl) Tryz.func73 rfl bV w) ?_
 intro s c w hs hc ha
 exact Any.strings_Trim_laid Tryz.lays160 (by kernel_rfl) s c w hs hc ha
end Go.Proofs.YtbdlbhlhnpblpaaGreatDoor.W8
