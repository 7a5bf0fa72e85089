/- Laws that the proof uses. -/
import Derived.RangeFuncNested
import Derived.RangeFuncBound
import Derived.RangeFuncCalls
import Derived.RangeFuncLeaves
import Derived.RangeFuncBox
import Derived.Shelf.Abstract
import Derived.Shelf.RegionOpen
import Derived.WalkKit
import Derived.OwnWalkIn
import Derived.TacticsInMore
import Derived.LoopNIn
import Derived.LoopIn
import Derived.Maps.OwnIn
import Derived.Test.YtbdlbhlhnpblpaaGreatDoorProg
import Derived.Test.YtbdlbhlhnpblpaaGreatDoorAm1
set_option maxRecDepth 100000
set_option maxHeartbeats 2000000
set_option linter.unusedVariables false
set_option linter.unusedSimpArgs false
namespace Go.Proofs.YtbdlbhlhnpblpaaGreatDoor.Sz
open Go Go.RowKit Go.Shelf
attribute [local go_sem] Oper.semAt_some
abbrev Pl (zs:List Int):={ x:Nat × Int // zs[x.1]? = some x.2 }
def Kp (Bs b off len:Nat)(A B:World):Prop:=∀ a v,(a=⟨Bs,0,none⟩\/∃ j,j<len/\a=⟨b,off+j,none⟩)->A.cell? a=some v->B.cell? a=some v
theorem Kp.trans {Bs b off len:Nat}{A B C:World}(h:Kp Bs b off len A B)(k:Kp Bs b off len B C):Kp Bs b off len A C:=fun a v hs hc=>k a v hs (h a v hs hc)
theorem aeM {α:Type}{l:List α}{k:Nat}{x:α}(h:l[k]? = some x):l.take (k+1)=l.take k++[x]:=by
 rw[List.take_add_one,h];rfl
theorem akO (F:Fence)(n:Nat)(hf:F.fn 83)(kI:F.round=none)(hn:1<=n)(l Bs b off len cap:Nat)(zs:List Int)(hz:zs.length=len)(It:len*8<=140737488351232)(J Jx:List (Pl zs)->World->Prop)
  (hY:∀ pre (x:Pl zs) W,J pre W->pre.length<len->YieldAt F (n-1) Tryz.prog l #[.int .i64 (x.1.1:Int),.int .i64 x.1.2] W fun e W'=>
   (e = .returned (.bool true)/\J (pre++[x]) W'/\Kp Bs b off len W W')\/(e = .returned (.bool false)/\Jx (pre++[x]) W'))
  (W:World) (Y7:W.cell? ⟨Bs,0,none⟩=some (.slice (some ⟨b,off,none⟩) len cap)) (hc:∀ j z,zs[j]? = some z->W.cell? ⟨b,off+j,none⟩=some (.int .i64 z)) (h0:J [] W) :
  CallsIn F n Tryz.prog 83 #[.func (.yield l) #[] #[],.pointer (some ⟨Bs,0,none⟩)] W fun e W'=>(∃ v,e = .returned v)/\
   ((∃ ys:List (Pl zs),ys.map (·.1.2)=zs.reverse/\J ys W')\/(∃ pre:List (Pl zs),(∃ k,pre.map (·.1.2)=zs.reverse.take k)/\Jx pre W')):=by
 refine callsIn_of_wp Tryz.func83 rfl hf ?_ kI
 simp only[Tryz.ntmps83,agw,abg,abQ,Nat.reduceAdd,Nat.reduceSub,Array.replicate_succ,Array.replicate_zero,List.push_toArray,List.append_toArray,adt,aew]
 gi_wp2
 gi_loopw [3] (fun i wr=>∃ (k:Nat) (pre:List (Pl zs)),k<=len/\i = .int .i64 ((len:Int)-1-k)/\pre.length=k/\pre.map (·.1.2)=zs.reverse.take k/\J pre wr/\Kp Bs b off len W wr)
  (fun i _=>(intOf i+1).toNat)
 case atStart=>exact⟨0,[],ack _,by simp[wrap64]<;>omega,rfl,rfl,h0,fun a v _ h=>h⟩
 case round=>
  obtain⟨k,pre,hk,rfl,hZ,oF,IJ,BG⟩:=hrel
  by_cases bW:k<len
  ·obtain⟨z,HU⟩:∃ z,zs[len-1-k]? = some z:=⟨_,abb (by omega)⟩
   have anh:=BG _ _ (.inr ⟨len-1-k,by omega,rfl⟩) (hc _ _ HU)
   have hbx:=BG _ _ (.inl rfl) Y7
   have hi:((len:Int)-1-k)=((len-1-k:Nat):Int):=by omega
   rw[hi]
   obtain⟨fn,tmps,assign,body,hy,hR⟩:=hY pre ⟨(len-1-k,z),HU⟩ wr IJ (by rw[hZ];exact bW)
   dsimp only at hy
   gi_wp2
   refine hR.mono ?_
   have sS:zs.reverse[k]? = some z:=by rw[List.getElem?_reverse (by omega),hz];exact HU
   have hm:(pre++[⟨(len-1-k,z),HU⟩]:List (Pl zs)).map (·.1.2)=zs.reverse.take (k+1):=by rw[abz,oF,aeM sS];rfl
   rintro e W3 (⟨rfl,hJ3,TV⟩ | ⟨rfl,ale⟩)
   ·gi_wp2
    go_roundw
    case rel=>exact⟨k+1,_,by omega,by simp[wrap64]<;>omega,by simp[hZ],hm,hJ3,BG.trans TV⟩
    case measure=>simp[intOf,wrap64]<;>omega
   ·gi_wp2
    refine bodyPost_ret (results_none rfl _ _ _) rfl ?_
    exact⟨⟨_,rfl⟩,.inr ⟨_,⟨k+1,hm⟩,ale⟩⟩
  ·obtain rfl:k=len:=by omega
   have hi:((k:Int)-1-k) = -1:=by omega
   rw[hi]
   gi_wp2
   go_end0
   exact⟨⟨_,rfl⟩,.inl ⟨_,by rw[oF,acI (by simp[hz])],IJ⟩⟩
theorem acO (F:Fence)(n:Nat)(hf:F.fn 83)(kI:F.round=none)(l Bs c:Nat)(a:Option Addr)(J:World->Prop)(W:World)(Y7:W.cell? ⟨Bs,0,none⟩=some (.slice a 0 c))(h0:J W) :
  CallsIn F n Tryz.prog 83 #[.func (.yield l) #[] #[],.pointer (some ⟨Bs,0,none⟩)] W fun e W'=>(∃ v,e = .returned v)/\J W':=by
 refine callsIn_of_wp Tryz.func83 rfl hf ?_ kI
 simp only[Tryz.ntmps83,agw,abg,abQ,Nat.reduceAdd,Nat.reduceSub,Array.replicate_succ,Array.replicate_zero,List.push_toArray,List.append_toArray,adt,aew]
 gi_wp2
 gi_loopw [3] (fun i wr=>i = .int .i64 (-1)/\J wr) (fun _ _=>0)
 case atStart=>exact⟨by simp[wrap64],h0⟩
 case round=>
  obtain⟨rfl,IJ⟩:=hrel
  gi_wp2
  go_end0
  exact⟨⟨_,rfl⟩,IJ⟩
theorem aj2 (F:Fence)(n:Nat)(hf:F.fn 66)(kI:F.round=none)(a:Option Addr)(len cap:Nat)(w:World) :
  CallsIn F n Tryz.prog 66 #[.slice a len cap] w fun e w'=>e = .returned (.func (.func 83) #[] #[.pointer (some ⟨w.heap.size,0,none⟩)])/\w'=w.alloc (.cells #[.slice a len cap] 83):=by
 refine callsIn_of_wp Tryz.func66 rfl hf ?_ kI
 simp only[Tryz.ntmps66,agw,abg,abQ,Nat.reduceAdd,Nat.reduceSub,Array.replicate_succ,Array.replicate_zero,List.push_toArray,List.append_toArray,adt,aew]
 gi_wp2
 go_ret
 exact⟨rfl,rfl⟩
def Row (W:World)(sv:Value)(b off:Nat)(zs:List Int):Prop:=
 (zs=[]/\∃ a c,sv = .slice a 0 c)\/(∃ cap,sv = .slice (some ⟨b,off,none⟩) zs.length cap/\∀ j z,zs[j]? = some z->W.cell? ⟨b,off+j,none⟩=some (.int .i64 z))
theorem abD (F:Fence)(n:Nat)(hf:F.fn 83)(kI:F.round=none)(hn:1<=n)(Bs b off:Nat)(sv:Value)(zs:List Int)(It:zs.length*8<=140737488351232)(w:World)
  (hc:w.cell? ⟨Bs,0,none⟩=some sv) (hI:Row w sv b off zs) :
  SeqStopsK F n Tryz.prog 83 #[.pointer (some ⟨Bs,0,none⟩)] (fun x:Pl zs => #[Value.int .i64 (x.1.1:Int),Value.int .i64 x.1.2]) (Kp Bs b off zs.length) (fun ys=>ys.map (·.1.2)=zs.reverse) (fun pre=>∃ k,pre.map (·.1.2)=zs.reverse.take k) zs.length w:=fun l J Jx W hW _ _ hY h0=>by
 have old:∀ (a:Addr) (v:Value),w.cell? a=some v->W.cell? a=some v:=fun a v h=>by
  have bW:a.block<w.heap.size:=by
   unfold World.cell? at h
   split at h
   ·rename_i hx;exact (abH.1 hx).1
   ·cases h
  have:=hW.cell (p:=a) bW
  rw[this];exact h
 have tW:=old _ _ hc
 rcases hI with⟨rfl,a,c,rfl⟩ | ⟨cap,rfl,dP⟩
 ·exact (acO F n hf kI l Bs c a (J []) W tW h0).mono fun e W' ⟨he,hj⟩=>⟨he,.inl ⟨[],rfl,hj⟩⟩
 ·refine (akO F n hf kI hn l Bs b off zs.length cap zs rfl It J Jx hY W tW (fun j z hj=>old _ _ (dP j z hj)) h0).mono ?_
  rintro e W' ⟨he,⟨ys,hy,hj⟩ | ⟨pre,hp,hj⟩⟩
  ·exact⟨he,.inl ⟨ys,hy,hj⟩⟩
  ·exact⟨he,.inr ⟨pre,hp,hj⟩⟩
end Go.Proofs.YtbdlbhlhnpblpaaGreatDoor.Sz
