/- Laws that the proof uses. -/
import Derived.Test.YtbdlbhlhnpblpaaGreatDoorHp
import Derived.Test.YtbdlbhlhnpblpaaGreatDoorAm16
import Derived.Test.YtbdlbhlhnpblpaaGreatDoorAm13
import Derived.Test.YtbdlbhlhnpblpaaGreatDoorAm15
set_option linter.unusedVariables false
set_option linter.unusedSimpArgs false
set_option maxRecDepth 10000
namespace Go.Proofs.YtbdlbhlhnpblpaaGreatDoor.du
open Go Am Am.K eU
theorem alv (H:Hp)(l:List AV)(el fl:Nat):Cs ⟨H.h.put 34 H.next (.cells (Tr.cR .nil 0 l) 0 l.length el fl),H.next+1⟩ H.next l el fl/\Out [] H ⟨H.h.put 34 H.next (.cells (Tr.cR .nil 0 l) 0 l.length el fl),H.next+1⟩:=by
 refine⟨⟨aeE _,Tr.cR .nil 0 l,?_,?_⟩,⟨Nat.le_succ _,?_⟩⟩
 ·show (Tr.put 34 H.h H.next _).get _=_
  rw[Tr.put,Tr.eS,if_pos rfl]
 ·intro k v hv
  rw[Kq,if_pos ⟨ack _,by have:=(aaL.1 hv).1;omega⟩,adD]
  exact hv
 ·intro j hj _
  show (Tr.put 34 H.h H.next _).get j=_
  rw[Tr.put,Tr.eS,if_neg (by omega)]
theorem U7 {H:Hp}{x:AV}{l:List Nat}(hx:Rw H 1 x (bs l))(hl:l.length<=140737488355328) :
  ∃ y H',cK (.func (.func 25) [] []) [x] H=some (y,H')/\Ow H' 5 1 y (bs l)/\Out [] H H'/\∀ j∈aa y,H.next<=j:=by
 have h1:=CJ l
 have hz:∃ zs:List Int,bs l=zs.map (AV.int .u8):=⟨l.map (fun (b:Nat)=>(b:Int)),by simp[bs]⟩
 have hlen:=gu l
 have hp:b7 25=some zW.Cy:=by kernel_rfl
 generalize bs l=m at *
 obtain⟨c1,c2⟩:=alv H m 5 0
 have hf:∀ n,m.length=n->∃ y H',(some (AV.slice H.next 0 n n false 1,(⟨H.h.put 34 H.next (.cells (Tr.cR .nil 0 m) 0 m.length 5 0),H.next+1⟩:Hp)):Option (AV × Hp))=some (y,H')/\Ow H' 5 1 y m/\Out [] H H'/\∀ j∈aa y,H.next<=j:=by
  intro n hn
  refine⟨_,_,rfl,c1.ow (n:=n) (by omega) (by omega) h1 false,c2,fun j hj => ?_⟩
  simp only[aa,agf,cond_false,yX] at hj
  omega
 cases hx with
 | nil=>exact⟨.ae,H,lh hp rfl,.nil,Out.refl _ _,fun j hj=>by cases hj⟩
 | @emp i off=>
  obtain⟨y,H',e,q⟩:=hf 0 rfl
  refine⟨y,H',lh hp ?_,q⟩
  rw[<-e]
  have hc:Am.cU H i off 0=some []:=rfl
  unfold zW.Cy
  simp only[hc]
  rw[if_pos ⟨ack _,hz⟩]
  rfl
 | @mk i off n cap ex _ hr hn hc he=>
  rw[adO] at hn
  obtain⟨y,H',e,q⟩:=hf n hn
  refine⟨y,H',lh hp ?_,q⟩
  rw[<-e]
  have hc:Am.cU H i off n=some m:=by rw[<-hn];exact hr.cU
  unfold zW.Cy
  simp only[hc]
  rw[if_pos ⟨by omega,hz⟩]
  rfl
end Go.Proofs.YtbdlbhlhnpblpaaGreatDoor.du
namespace Go.Proofs.YtbdlbhlhnpblpaaGreatDoor.cS
open Go Am Am.K eU du
theorem ahq:b7 73=some E8:=by kernel_rfl
theorem aif:b7 44=some D8:=by kernel_rfl
theorem Z4:b7 35=some (Bz 9):=by kernel_rfl
abbrev zX:List Nat:=[97,98,99,100,101,102,103,104,105,106,107,108,109,110,111,112,113,114,115,116,117,118,119,120,121,122,48,49,50,51,52,53,54,55,56,57,45]
theorem aiU (s:List Nat)(H:Hp)(hs:s.length<=4294967296):cK (.func (.func 73) [] []) [.str s,.str zX] H=some (.str (Ba s zX),H):=by
 refine lh ahq ?_
 have h1:Dc zX=true:=by decide
 have h2:F.lW (Dc zX) (F.lW (Nat.ble (F.lP s) 4294967296) (Nat.ble (F.lP zX) 4294967280))=true:=by
  rw[F.pA,F.pA,F.rz,F.rz,h1]
  simp only[Bool.true_and,aaK,acN]
  exact⟨hs,by decide⟩
 show IG H s zX=_
 unfold IG
 rw[h2]
noncomputable def jB (s:List Nat):Bool := !(s==[])&&(decide ((s.length:Int)<=16)&&(Ba s zX==[]))
theorem SJ (s:List Nat)(H:Hp):cK (.func (.func 60) [] []) [.str s] H=some (.bool (jB s),H):=by
 refine ab8 ?_
 unfold X7 jB
 cases h0:(s==[]) with
 | true=>simp only[az,bd,aw,av,bG,aH,au,ak,aK,aA,aP,bK,aE,bO,bC,aR,bu,ay,bF,aT,aC,bq,aU,bI,bM,ba,aI,aW,aQ,ar,aV,a7,bS,aF,aO,bt,bJ,aN,aM,aD,bB,br,aY,bQ,bT,bk,bH,af,bp,ag,bP,ah,aB,aG,bw,bA,bR,aL,bN,bD,bo,aj,bh,bg,aq,ai,aS,a8,aZ,bE,aJ,nq,gk,wc,yL,yB,decide_true,decide_false,Int.reduceBEq,Int.reduceBNe,Int.reduceLT,Int.reduceLE,Int.reduceGT,Int.reduceGE,Int.reduceNeg,aaJ,bne_self_eq_false,ge_iff_le,gt_iff_lt,h0,agf]
 | false=>
  by_cases h1:(s.length:Int)<=16
  ·have ht:=aiU s H (by omega)
   simp only[az,bd,aw,av,bG,aH,au,ak,aK,aA,aP,bK,aE,bO,bC,aR,bu,ay,bF,aT,aC,bq,aU,bI,bM,ba,aI,aW,aQ,ar,aV,a7,bS,aF,aO,bt,bJ,aN,aM,aD,bB,br,aY,bQ,bT,bk,bH,af,bp,ag,bP,ah,aB,aG,bw,bA,bR,aL,bN,bD,bo,aj,bh,bg,aq,ai,aS,a8,aZ,bE,aJ,nq,gk,wc,yL,yB,decide_true,decide_false,Int.reduceBEq,Int.reduceBNe,Int.reduceLT,Int.reduceLE,Int.reduceGT,Int.reduceGE,Int.reduceNeg,aaJ,bne_self_eq_false,ge_iff_le,gt_iff_lt,h0,h1,ht,Bool.true_and]
  ·simp only[az,bd,aw,av,bG,aH,au,ak,aK,aA,aP,bK,aE,bO,bC,aR,bu,ay,bF,aT,aC,bq,aU,bI,bM,ba,aI,aW,aQ,ar,aV,a7,bS,aF,aO,bt,bJ,aN,aM,aD,bB,br,aY,bQ,bT,bk,bH,af,bp,ag,bP,ah,aB,aG,bw,bA,bR,aL,bN,bD,bo,aj,bh,bg,aq,ai,aS,a8,aZ,bE,aJ,nq,gk,wc,yL,yB,decide_true,decide_false,Int.reduceBEq,Int.reduceBNe,Int.reduceLT,Int.reduceLE,Int.reduceGT,Int.reduceGE,Int.reduceNeg,aaJ,bne_self_eq_false,ge_iff_le,gt_iff_lt,h0,h1,Bool.true_and,agf]
structure Fl where
 nm:List Nat
 b:List Nat
 sure:Nat
structure SM where
 room:Nat
 off:Bool
 cq:Nat
 cp:List Int
 fs:List Fl
structure FC where
 id:Nat
 sl:AV
 born:Nat
 f:Fl
def FC.me (x:FC):ME:=⟨.str x.f.nm,.ptr x.id 0,x.born⟩
def FC.ids (x:FC):List Nat:=x.id::aa x.sl
structure Lay where
 dU:Nat
 iC:Nat
 cp:AV
 cs:List FC
def cB (p:Nat)(L:Lay):List Nat:=p::L.dU::(aa L.cp++L.cs.flatMap FC.ids)
def ints (l:List Int):List AV:=l.map fun z => .int .i64 z
def gy (fs:List Fl):Nat:=(fs.map (·.b.length)).sum
def C0 (H:Hp)(i:Nat)(l:List AV):Prop:=∃ el,Cs H i l el 0
theorem C0.out {H H':Hp}{i:Nat}{l:List AV}{S:List Nat}(h:C0 H i l)(k:Out S H H')(hi:i∉S):C0 H' i l:=by
 obtain⟨el,h⟩:=h;exact⟨el,h.out k hi⟩
theorem C0.ld {H:Hp}{i:Nat}{l:List AV}(h:C0 H i l){o:Nat}{v:AV}(hv:l[o]? = some v):ld (.ptr i o) H=some v:=by
 obtain⟨el,h⟩:=h;exact h.ld hv
theorem C0.st {H:Hp}{i:Nat}{l:List AV}(h:C0 H i l){o:Nat}(ho:o<l.length){v:AV}(hv:dF v=true) :
  ∃ H',st 1 (.ptr i o) v H=some H'/\C0 H' i (l.set o v)/\Out [i] H H'/\H'.next=H.next:=by
 obtain⟨el,h⟩:=h
 obtain⟨H',h1,h2,h3,h4⟩:=DM h (by omega) ho hv
 exact⟨H',h1,⟨el,h2⟩,h3,h4⟩
theorem C0.lt {H:Hp}{i:Nat}{l:List AV}(h:C0 H i l):i<H.next:=by obtain⟨el,h⟩:=h;exact h.1
structure RB (m:SM):Prop where
 room:m.room<=16777216
 sum:gy m.fs<=m.room
 sure:∀ f∈m.fs,f.sure<=f.b.length
 byte:∀ f∈m.fs,∀ c∈f.b,c<256
 cq:(m.cq:Int)<=9223372036854775807
 names:(m.fs.map (·.nm)).Nodup
 qD:∀ f∈m.fs,jB f.nm=true
 many:m.fs.length<=64
structure St (H:Hp)(p:Nat)(m:SM)(L:Lay):Prop where
 head:C0 H p [.int .i64 m.room,.map L.dU,.bool m.off,.int .i64 m.cq,L.cp]
 map:Mp H L.dU (L.cs.map FC.me) L.iC
 file:∀ x∈L.cs,C0 H x.id [x.sl,.int .i64 x.f.sure]/\Ow H 5 1 x.sl (bs x.f.b)
 cp:Rw H 1 L.cp (ints m.cp)
 nd:(cB p L).Nodup
 born:ou L.iC (L.cs.map FC.me) 0=true
 fs:m.fs=L.cs.map (·.f)
 ok:RB m
def fC (p:Nat)(H:Hp)(L:Lay)(H':Hp)(L':Lay):Prop:=Out (cB p L) H H'/\∀ j∈cB p L',j∈cB p L\/H.next<=j
theorem fC.refl (p:Nat)(H:Hp)(L:Lay):fC p H L H L:=⟨Out.refl _ _,fun _ h => .inl h⟩
theorem fC.trans {p:Nat}{H H' sC:Hp}{L L' Wj:Lay}(h:fC p H L H' L')(k:fC p H' L' sC Wj):fC p H L sC Wj:=
 ⟨h.1.then k.1 h.2,fun j hj=>(k.2 j hj).elim (fun q=>h.2 j q) (fun q => .inr (abl h.1.1 q))⟩
section
variable {H:Hp}{p:Nat}{m:SM}{L:Lay}
theorem St.mQ:p∈cB p L := .head _
theorem St.mD:L.dU∈cB p L := .tail _ (.head _)
theorem St.wP {j:Nat}(h:j∈aa L.cp):j∈cB p L := .tail _ (.tail _ (aaz _ h))
theorem St.nf {x:FC}(hx:x∈L.cs){j:Nat}(h:j∈x.ids):j∈cB p L := .tail _ (.tail _ (No _ (adr.2 ⟨x,hx,h⟩)))
theorem St.lt (h:St H p m L):∀ j∈cB p L,j<H.next:=by
 intro j hj
 unfold cB at hj
 rcases aap.1 hj with rfl | hj
 ·exact h.head.lt
 rcases aap.1 hj with rfl | hj
 ·exact h.map.1
 rcases aac.1 hj with hj | hj
 ·exact h.cp.lt j hj
 ·obtain⟨x,hx,hj⟩:=adr.1 hj
  rcases aap.1 hj with rfl | hj
  ·exact (h.file x hx).1.lt
  ·exact (h.file x hx).2.rw.lt j hj
theorem St.out {H' : Hp}{S : List Nat}(h : St H p m L)(k : Out S H H')(hs : ∀ j ∈ cB p L, j ∉ S) : St H' p m L :=
  ⟨h.head.out k (hs _ St.mQ), h.map.out k (hs _ St.mD), fun x hx => ⟨(h.file x hx).1.out k (hs _ (St.nf hx (.head _))), (h.file x hx).2.out k fun j hj => hs _ (St.nf hx (.tail _ hj))⟩,
   h.cp.out k fun j hj => hs _ (St.wP hj), h.nd, h.born, h.fs, h.ok⟩
def fp (L:Lay)(at':List Nat):AV:=match L.cs.find? (fun x=>x.f.nm==at') with | none => .cD | some x => .ptr x.id 0
def J9 (fs:List Fl)(at':List Nat):Bool:=fs.any (fun f=>f.nm==at')
theorem St.find (h:St H p m L)(at':List Nat):(fp L at' = .cD/\J9 m.fs at'=false/\∀ x∈L.cs,x.f.nm≠at')\/
  ∃ a x b,L.cs=a++x::b/\x.f.nm=at'/\(∀ y∈a,y.f.nm≠at')/\(∀ y∈b,y.f.nm≠at')/\fp L at' = .ptr x.id 0/\J9 m.fs at'=true:=by
 have hn:=h.ok.names
 rw[h.fs,afg] at hn
 unfold fp J9
 rw[h.fs]
 cases hf:L.cs.find? (fun x=>x.f.nm==at') with
 | none=>
  rw[List.find?_eq_none] at hf
  have zS:∀ x∈L.cs,x.f.nm≠at':=fun x hx=>by simpa using hf x hx
  refine .inl ⟨rfl,?_,zS⟩
  rw[List.any_eq_false]
  intro f wZ
  obtain⟨x,hx,rfl⟩:=abn.1 wZ
  simpa using zS x hx
 | some x=>
  obtain⟨h1,a,b,h2,h3⟩:=List.find?_eq_some_iff_append.1 hf
  have h1:x.f.nm=at':=by simpa using h1
  have h3:∀ y∈a,y.f.nm≠at':=fun y hy=>by simpa using h3 y hy
  refine .inr ⟨a,x,b,h2,h1,h3,?_,rfl,?_⟩
  ·intro y hy he
   rw[h2,abz,abc,acd,ab0] at hn
   exact hn.2.1.1 (abn.2 ⟨y,hy,he.trans h1.symm⟩)
  ·rw[List.any_eq_true]
   exact⟨x.f,abn.2 ⟨x,by rw[h2];simp,rfl⟩,by simpa using h1⟩
theorem xW {a:List FC}{at':List Nat}(h:∀ y∈a,y.f.nm≠at'):∀ e∈a.map FC.me,∃ q,e.key = .str q/\q≠at':=by
 intro e he
 obtain⟨y,hy,rfl⟩:=abn.1 he
 exact⟨_,rfl,h y hy⟩
theorem St.ny (h:St H p m L)(at':List Nat):ny .str .cD false (.map L.dU) (.str at') H=some (fp L at'):=by
 rcases h.find at' with⟨h1,h2,h3⟩ | ⟨a,x,b,h1,h2,h3,h4,h5,h6⟩
 ·rw[ab1 h.map (xW h3),h1];rfl
 ·have hm:=h.map
  rw[h1,abz,abc] at hm
  rw[ahx hm (by rw[FC.me,h2]) (xW h3) (xW h4),h5];rfl
theorem St.OW (h:St H p m L)(at':List Nat)(H':Hp):pe (fp L at') .cD H'=some (!J9 m.fs at'):=by
 rcases h.find at' with⟨h1,h2,h3⟩ | ⟨a,x,b,h1,h2,h3,h4,h5,h6⟩
 ·rw[h1,h2];rfl
 ·rw[h5,h6];rfl
theorem St.IZ {H':Hp}{off:Bool}{cq:Nat}{cp:AV}{kl:List Int}(h:St H p m L)(hc:C0 H' p [.int .i64 m.room,.map L.dU,.bool off,.int .i64 cq,cp])(hf:(cq:Int)<=9223372036854775807)
  {S:List Nat} (ho:Out S H H') (hS:∀ j∈S,j=p\/j∈aa L.cp) (hk:Rw H' 1 cp (ints kl)) (eD:∀ j∈aa cp,j∈aa L.cp\/H.next<=j) (cE:(aa cp).Nodup) :
  St H' p { m with off:=off,cq:=cq,cp:=kl } { L with cp:=cp }/\fC p H L H' { L with cp:=cp }:=by
 have dh:=h.nd
 unfold cB at dh
 rw[ab0,ab0,acd] at dh
 obtain⟨n1,n2,n3,n4,n5⟩:=dh
 have nS:∀ j,j≠p->j∉aa L.cp->j∉S:=fun j h1 h2 hj=>(hS j hj).elim h1 h2
 have CW:L.dU∉S:=nS _ (fun q=>n1 (by rw[<-q];exact .head _)) (fun q=>n2 (aaz _ q))
 have aaT:∀ x∈L.cs,∀ j∈x.ids,j∉S:=fun x hx j hj=>by
  have hm:j∈L.cs.flatMap FC.ids:=adr.2 ⟨x,hx,hj⟩
  exact nS _ (fun q=>n1 (by rw[<-q];exact .tail _ (No _ hm))) (fun q=>n5 _ q _ hm rfl)
 refine⟨⟨hc,h.map.out ho CW,fun x hx=>⟨(h.file x hx).1.out ho (aaT x hx _ (.head _)),(h.file x hx).2.out ho fun j hj=>aaT x hx j (.tail _ hj)⟩,hk,?_,h.born,h.fs,
  ⟨h.ok.room,h.ok.sum,h.ok.sure,h.ok.byte,hf,h.ok.names,h.ok.qD,h.ok.many⟩⟩,ho.mono (fun j hj=>(hS j hj).elim (fun q=>by rw[q];exact St.mQ) St.wP),fun j hj => ?_⟩
 ·have bW:=h.lt
  unfold cB
  rw[ab0,ab0,acd]
  have key:∀ j∈aa cp,j≠p/\j≠L.dU/\j∉L.cs.flatMap FC.ids:=by
   intro j hj
   rcases eD j hj with q | q
   ·exact⟨fun e=>n1 (by rw[<-e];exact .tail _ (aaz _ q)),fun e=>n2 (by rw[<-e];exact aaz _ q),fun e=>n5 _ q _ e rfl⟩
   ·refine⟨fun e => ?_,fun e => ?_,fun e => ?_⟩
    ·have:=bW p St.mQ;omega
    ·have:=bW L.dU St.mD;omega
    ·obtain⟨x,hx,gG⟩:=adr.1 e
     have:=bW j (St.nf hx gG);omega
  refine⟨fun e => ?_,fun e => ?_,cE,n4,fun a ha b hb e=>(key a ha).2.2 (e▸hb)⟩
  ·rcases aap.1 e with e | e
   ·exact n1 (by rw[e];exact .head _)
   ·rcases aac.1 e with e | e
    ·exact (key _ e).1 rfl
    ·exact n1 (.tail _ (No _ e))
  ·rcases aac.1 e with e | e
   ·exact (key _ e).2.1 rfl
   ·exact n2 (No _ e)
 ·unfold cB at hj
  rcases aap.1 hj with rfl | hj
  ·exact .inl St.mQ
  rcases aap.1 hj with rfl | hj
  ·exact .inl St.mD
  rcases aac.1 hj with hj | hj
  ·exact (eD j hj).imp St.wP id
  ·obtain⟨x,hx,gG⟩:=adr.1 hj
   exact .inl (St.nf (L:=L) hx gG)
end
section
variable {H:Hp}{p:Nat}{m:SM}{L:Lay}
def fM (at':List Nat)(f:Fl)(fs:List Fl):List Fl:=fs.map fun g=>if g.nm=at' then f else g
theorem Nd {a b:List FC}{x:FC}{at':List Nat}{f:Fl}(hx:x.f.nm=at')(ha:∀ y∈a,y.f.nm≠at')(hb:∀ y∈b,y.f.nm≠at'):fM at' f ((a++x::b).map (·.f))=a.map (·.f)++f::b.map (·.f):=by
 unfold fM
 rw[abz,abc,abz,abc,if_pos hx]
 congr 1
 ·rw[afg];exact afu fun y hy=>if_neg (ha y hy)
 ·congr 1
  rw[afg];exact afu fun y hy=>if_neg (hb y hy)
theorem St.Lb {H':Hp}{a b:List FC}{x:FC}{f:Fl}{sl:AV}(h:St H p m L)(hL:L.cs=a++x::b)(ha:∀ y∈a,y.f.nm≠x.f.nm)(hb:∀ y∈b,y.f.nm≠x.f.nm)(jj:f.nm=x.f.nm)
  {S:List Nat} (ho:Out S H H') (hS:∀ j∈S,j∈x.ids) (hc:C0 H' x.id [sl,.int .i64 f.sure]) (hw:Ow H' 5 1 sl (bs f.b)) (hr:∀ j∈aa sl,j∈aa x.sl\/H.next<=j) (kA:(aa sl).Nodup)
  (qN:f.sure<=f.b.length) (Lz:∀ c∈f.b,c<256) (vI:gy (fM x.f.nm f m.fs)<=m.room) :
  St H' p { m with fs:=fM x.f.nm f m.fs } { L with cs:=a++⟨x.id,sl,x.born,f⟩::b }/\fC p H L H' { L with cs:=a++⟨x.id,sl,x.born,f⟩::b }:=by
 have Db:x∈L.cs:=by rw[hL];simp
 have gP:fM x.f.nm f m.fs=(a++⟨x.id,sl,x.born,f⟩::b).map (·.f):=by
  rw[h.fs,hL,Nd rfl ha hb,abz,abc]
 have dh:=h.nd
 unfold cB at dh
 rw[hL,afS,aeY,ab0,ab0,acd,acd,acd] at dh
 obtain⟨n1,n2,n3,⟨n4,⟨n5,n6,n7⟩,n8⟩,n9⟩:=dh
 have bW:=h.lt
 have sub:∀ j∈S,j∈x.ids:=hS
 have nx:∀ j,j∉x.ids->j∉S:=fun j hj q=>hj (sub j q)
 have hp:p∉S:=nx _ fun q=>n1 (.tail _ (No _ (No _ (aaz _ q))))
 have CW:L.dU∉S:=nx _ fun q=>n2 (No _ (No _ (aaz _ q)))
 have ak4:∀ j∈aa L.cp,j∉S:=fun j hj=>nx _ fun q=>n9 _ hj _ (No _ (aaz _ q)) rfl
 have hA:∀ y∈a,∀ j∈y.ids,j∉S:=fun y hy j hj=>nx _ fun q=>n8 _ (adr.2 ⟨y,hy,hj⟩) _ (aaz _ q) rfl
 have hB:∀ y∈b,∀ j∈y.ids,j∉S:=fun y hy j hj=>nx _ fun q=>n7 _ q _ (adr.2 ⟨y,hy,hj⟩) rfl
 have key:∀ j∈FC.ids ⟨x.id,sl,x.born,f⟩,j∈x.ids\/H.next<=j:=by
  intro j hj
  rcases aap.1 hj with rfl | hj
  ·exact .inl (.head _)
  ·exact (hr j hj).imp (List.mem_cons_of_mem _) id
 have uf:∀ j∈FC.ids ⟨x.id,sl,x.born,f⟩,∀ k∈cB p L,k∉x.ids->j≠k:=by
  intro j hj k hk hkx e
  rcases key j hj with q | q
  ·exact hkx (e▸q)
  ·have:=bW k hk;omega
 have mA:∀ y∈a,y∈L.cs:=fun y hy=>by rw[hL];exact aaz _ hy
 have mB:∀ y∈b,y∈L.cs:=fun y hy=>by rw[hL];exact No _ (.tail _ hy)
 refine⟨⟨h.head.out ho hp,?_,?_,h.cp.out ho ak4,?_,?_,gP,⟨h.ok.room,vI,?_,?_,h.ok.cq,?_,?_,?_⟩⟩,ho.mono fun j hj=>St.nf Db (sub j hj),?_⟩
 ·have hm:=h.map.out ho CW
  rw[hL] at hm
  rw[abz,abc] at hm ⊢
  have:FC.me ⟨x.id,sl,x.born,f⟩=x.me:=by unfold FC.me;rw[jj]
  rw[this];exact hm
 ·intro y hy
  rcases aac.1 hy with hy | hy
  ·exact⟨(h.file y (mA y hy)).1.out ho (hA y hy _ (.head _)),(h.file y (mA y hy)).2.out ho fun j hj=>hA y hy j (.tail _ hj)⟩
  ·rcases aap.1 hy with rfl | hy
   ·exact⟨hc,hw⟩
   ·exact⟨(h.file y (mB y hy)).1.out ho (hB y hy _ (.head _)),(h.file y (mB y hy)).2.out ho fun j hj=>hB y hy j (.tail _ hj)⟩
 ·unfold cB
  rw[afS,aeY,ab0,ab0,acd,acd,acd]
  have pX:p∉x.ids:=fun q=>n1 (.tail _ (No _ (No _ (aaz _ q))))
  have mX:L.dU∉x.ids:=fun q=>n2 (No _ (No _ (aaz _ q)))
  have aX:∀ k∈a.flatMap FC.ids,k∉x.ids:=fun k hk q=>n8 _ hk _ (aaz _ q) rfl
  have bX:∀ k∈b.flatMap FC.ids,k∉x.ids:=fun k hk q=>n7 _ q _ hk rfl
  have kX:∀ k∈aa L.cp,k∉x.ids:=fun k hk q=>n9 _ hk _ (No _ (aaz _ q)) rfl
  have fA:∀ k∈a.flatMap FC.ids,k∈cB p L:=fun k hk=>by
   obtain⟨y,hy,hk⟩:=adr.1 hk
   exact St.nf (mA y hy) hk
  have fB:∀ k∈b.flatMap FC.ids,k∈cB p L:=fun k hk=>by
   obtain⟨y,hy,hk⟩:=adr.1 hk
   exact St.nf (mB y hy) hk
  refine⟨fun e => ?_,fun e => ?_,n3,⟨n4,⟨?_,n6,fun j hj k hk=>uf j hj k (fB k hk) (bX k hk)⟩,fun j hj k hk e => ?_⟩,fun j hj k hk e => ?_⟩
  ·rcases aap.1 e with e | e
   ·exact n1 (by rw[e];exact .head _)
   rcases aac.1 e with e | e
   ·exact n1 (.tail _ (aaz _ e))
   rcases aac.1 e with e | e
   ·exact n1 (.tail _ (No _ (aaz _ e)))
   rcases aac.1 e with e | e
   ·exact uf _ e p St.mQ pX rfl
   ·exact n1 (.tail _ (No _ (No _ (No _ e))))
  ·rcases aac.1 e with e | e
   ·exact n2 (aaz _ e)
   rcases aac.1 e with e | e
   ·exact n2 (No _ (aaz _ e))
   rcases aac.1 e with e | e
   ·exact uf _ e L.dU St.mD mX rfl
   ·exact n2 (No _ (No _ (No _ e)))
  ·show (x.id::aa sl).Nodup
   rw[ab0]
   refine⟨fun q => ?_,kA⟩
   rcases hr _ q with q | q
   ·have:(x.id::aa x.sl).Nodup:=n5
    rw[ab0] at this
    exact this.1 q
   ·have:=bW x.id (St.nf Db (.head _));omega
  ·rcases aac.1 hk with hk | hk
   ·exact uf k hk j (fA j hj) (aX j hj) e.symm
   ·exact n8 _ hj _ (No _ hk) e
  ·rcases aac.1 hk with hk | hk
   ·exact n9 _ hj _ (aaz _ hk) e
   rcases aac.1 hk with hk | hk
   ·exact uf k hk j (St.wP hj) (kX j hj) e.symm
   ·exact n9 _ hj _ (No _ (No _ hk)) e
 ·have rf:=h.born
  rw[hL] at rf
  rw[abz,abc] at rf ⊢
  have:FC.me ⟨x.id,sl,x.born,f⟩=x.me:=by unfold FC.me;rw[jj]
  rw[this];exact rf
 ·intro g hg
  unfold fM at hg
  obtain⟨g',mU,rfl⟩:=abn.1 hg
  split
  ·exact qN
  ·exact h.ok.sure g' mU
 ·intro g hg
  unfold fM at hg
  obtain⟨g',mU,rfl⟩:=abn.1 hg
  split
  ·exact Lz
  ·exact h.ok.byte g' mU
 ·have:(fM x.f.nm f m.fs).map (·.nm)=m.fs.map (·.nm):=by
   unfold fM
   rw[afg]
   refine afu fun g hg => ?_
   simp only[Function.comp]
   split
   ·rename_i q;rw[q,jj]
   ·rfl
  rw[this];exact h.ok.names
 ·intro g hg
  unfold fM at hg
  obtain⟨g',mU,rfl⟩:=abn.1 hg
  split
  ·rename_i q;rw[jj,<-q];exact h.ok.qD g' mU
  ·exact h.ok.qD g' mU
 ·simp only[fM,acs];exact h.ok.many
 ·intro j hj
  unfold cB at hj
  rcases aap.1 hj with rfl | hj
  ·exact .inl St.mQ
  rcases aap.1 hj with rfl | hj
  ·exact .inl St.mD
  rcases aac.1 hj with hj | hj
  ·exact .inl (St.wP hj)
  ·obtain⟨y,hy,gG⟩:=adr.1 hj
   rcases aac.1 hy with hy | hy
   ·exact .inl (St.nf (mA y hy) gG)
   ·rcases aap.1 hy with rfl | hy
    ·exact (key j gG).imp (St.nf Db) id
    ·exact .inl (St.nf (mB y hy) gG)
end
theorem Ws {H:Hp}:∀ cs:List FC,(∀ x∈cs,C0 H x.id [x.sl,.int .i64 x.f.sure]/\Ow H 5 1 x.sl (bs x.f.b))->xQ H (cs.map FC.me)=some (gy (cs.map (·.f)))
 | [],_=>rfl
 | x::cs,h=>by
  obtain⟨h1,h2⟩:=h x (.head _)
  have ih:=Ws cs fun y hy=>h y (.tail _ hy)
  have hl:Ff H x.me.val=some x.f.b.length:=by
   show F.oE Dr (F.cellAt H x.id 0)=_
   rw[F.ru,F.yv]
   have zv:cellAt H x.id 0=some x.sl:=h1.ld (o:=0) rfl
   rw[zv]
   have h3:=h2.rw.il
   rw[gu] at h3
   show Dr x.sl=_
   cases mN:x.sl<;>rw[mN] at h3<;>first | (cases h3;done) | skip
   ·simp only[cy,acf,AV.int.injEq,true_and] at h3
    simp only[Dr,acf];omega
   ·simp only[cy,acf,AV.int.injEq,true_and] at h3
    simp only[Dr,acf];omega
  show F.oE (KZ (xQ H (cs.map FC.me))) (Ff H x.me.val)=_
  rw[hl,ih]
  show F.tu some (Nat.add x.f.b.length (gy (cs.map (·.f))))=_
  rw[F.Cb]
  rfl
section
variable {H:Hp}{p:Nat}{m:SM}{L:Lay}
theorem adU (h:St H p m L):cK (.func (.func 44) [] []) [.ptr p 0] H=some (.int .i64 ((m.room:Int)-gy m.fs),H):=by
 refine lh aif ?_
 have h0:cellAt H p 0=some (.int .i64 m.room):=h.head.ld (o:=0) rfl
 have h1:cellAt H p 1=some (.map L.dU):=h.head.ld (o:=1) rfl
 have yE:=h.ok.room
 have vI:=h.ok.sum
 have hr:RW (m.room:Int)=true:=by
  show Nat.ble m.room 9223372036854775807=true
  rw[acN];omega
 show JV H p 0=_
 unfold JV
 rw[F.yv,F.yv,h0,h1]
 show EF H (.int .i64 m.room) (.map L.dU)=_
 unfold EF
 simp only
 rw[F.pA,hr,F.get_eq]
 show F.oE (Du H (m.room:Int)) (H.h.get L.dU)=_
 rw[h.map.2,F.ru]
 show Du H (m.room:Int) (.map (L.cs.map FC.me) L.iC)=_
 unfold Du
 simp only[h.born]
 show F.oE (CQ H (m.room:Int)) (xQ H (L.cs.map FC.me))=_
 rw[Ws L.cs h.file,F.ru,<-h.fs]
 show CQ H (m.room:Int) (gy m.fs)=_
 unfold CQ
 rw[F.VE,F.adg]
 have:IntKind.wrap .i64 ((m.room:Int)-Int.ofNat (gy m.fs))=(m.room:Int)-gy m.fs:=wrap_i64 (by simp only[Int.ofNat_eq_natCast];omega) (by simp only[Int.ofNat_eq_natCast];omega)
 rw[this];rfl
theorem VK:∀ cs:List FC,yW (cs.map FC.me)=some (cs.map (·.f.nm))
 | []=>rfl
 | x::cs=>by
  show K3 (yW (cs.map FC.me)) (.str x.f.nm)=_
  rw[VK cs];rfl
theorem X5:∀ l:List (List Nat),l.Nodup->CI l=true
 | [],_=>rfl
 | x::l,h=>by
  rw[ab0] at h
  have h1:vO x l=false:=by rw[<-Bool.not_eq_true];exact fun q=>h.1 ((RS x l).1 q)
  show @Bool.rec (fun _=>Bool) (CI l) false (vO x l)=true
  rw[h1];exact X5 l h.2
theorem ZC:∀ l:List (List Nat),(∀ x∈l,x.length<=16777216)->Ch l=true
 | [],_=>rfl
 | x::l,h=>by
  show F.lW (Nat.ble (F.lP x) 16777216) (Ch l)=true
  rw[F.pA,F.rz,ZC l fun y hy=>h y (.tail _ hy),Bool.and_true,acN]
  exact h x (.head _)
theorem aby {s:List Nat}(h:jB s=true):s.length<=16:=by
 unfold jB at h
 simp only[aaK,decide_eq_true_eq] at h
 omega
noncomputable def names (m:SM):List (List Nat):=lq (m.fs.map (·.nm))
theorem ZD (x:List Nat):∀ l:List (List Nat),(qK x l).length=l.length+1
 | []=>rfl
 | y::l=>by
  show (@Bool.rec (fun _=>List (List Nat)) (x::y::l) (y::qK x l) (yj y x)).length=_
  cases yj y x
  ·rfl
  ·show (qK x l).length+1=_
   rw[ZD x l];rfl
theorem Kw:∀ l:List (List Nat),(lq l).length=l.length
 | []=>rfl
 | x::l=>by
  show (qK x (lq l)).length=_
  rw[ZD,Kw l];rfl
theorem aaq (x y:List Nat):∀ l:List (List Nat),y∈qK x l↔y=x\/y∈l
 | []=>by show y∈[x]↔_;simp
 | z::l=>by
  show y ∈ @Bool.rec (fun _=>List (List Nat)) (x::z::l) (z::qK x l) (yj z x)↔_
  cases yj z x
  ·show y∈x::z::l↔_
   simp
  ·show y∈z::qK x l↔_
   rw[aap,aaq x y l,aap]
   constructor
   ·rintro (h | h | h)
    ·exact .inr (.inl h)
    ·exact .inl h
    ·exact .inr (.inr h)
   ·rintro (h | h | h)
    ·exact .inr (.inl h)
    ·exact .inl h
    ·exact .inr (.inr h)
theorem KM (y:List Nat):∀ l:List (List Nat),y∈lq l↔y∈l
 | []=>Iff.rfl
 | x::l=>by
  show y∈qK x (lq l)↔_
  rw[aaq,KM y l,aap]
def strs (l:List (List Nat)):List AV:=l.map AV.str
theorem Yi (h:St H p m L):∃ x H',cK (.func (.func 35) [] []) [.ptr p 0] H=some (x,H')/\Rw H' 1 x (strs (names m))/\Out [] H H'/\(∀ j∈aa x,H.next<=j)/\cy x=some (.int .i64 (names m).length):=by
 have h1:cellAt H p 1=some (.map L.dU):=h.head.ld (o:=1) rfl
 have PA:∀ x∈L.cs.map (·.f.nm),x.length<=16777216:=by
  intro x hx
  obtain⟨y,hy,rfl⟩:=abn.1 hx
  have:=aby (h.ok.qD y.f (by rw[h.fs];exact abn.2 ⟨y,hy,rfl⟩))
  omega
 have dh:(L.cs.map (·.f.nm)).Nodup:=by
  have:=h.ok.names
  rw[h.fs,afg] at this
  exact this
 have Jw:=h.ok.many
 rw[h.fs,acs] at Jw
 have hN:names m=lq (L.cs.map (·.f.nm)):=by unfold names;rw[h.fs,afg];rfl
 have hp:Bz 9 [.ptr p 0] H=Rm 9 H (names m):=by
  show Iv 9 H p 0=_
  unfold Iv
  rw[F.yv,h1]
  show F.oE (KF 9 H) (F.get H.1 L.dU)=_
  rw[F.get_eq,F.ru]
  show (H.h.get L.dU).bind _=_
  rw[h.map.2]
  show KF 9 H (.map (L.cs.map FC.me) L.iC)=_
  show F.oE (F7 9 H L.iC (L.cs.map FC.me)) (yW (L.cs.map FC.me))=_
  rw[VK,F.ru]
  show F7 9 H L.iC (L.cs.map FC.me) (L.cs.map (·.f.nm))=_
  unfold F7
  rw[F.pA,F.pA,F.pA,h.born,X5 _ dh,ZC _ PA,F.rz]
  have:Nat.ble (L.cs.map FC.me).length 16777216=true:=by rw[acN,acs];omega
  rw[this,hN];rfl
 have hlen:(names m).length=L.cs.length:=by rw[hN,Kw,acs]
 cases hn:names m with
 | nil=>
  refine⟨.ae,H,lh Z4 ?_,.nil,Out.refl _ _,(fun j hj=>by cases hj),rfl⟩
  rw[hp,hn];rfl
 | cons y ys=>
  obtain⟨H',q1,q2,q3,q4⟩:=iI H (strs (y::ys)) 9 0 (by unfold strs;rw[acs,<-hn,hlen];omega)
  refine⟨.slice H.next 0 (y::ys).length (y::ys).length false 1,H',lh Z4 ?_,.mk q2.ro (by unfold strs;rw[acs,adO]) (zf _) rfl,q3,fun j hj => ?_,rfl⟩
  ·rw[hp,hn]
   show F.Gg H 9 0 (Fi (F.lP (y::ys))) (F.HQ AV.str (y::ys))=_
   rw[F.Yu,F.Uw,F.rz]
   have:cP H (List.map AV.str (y::ys)) 9 0=some (H.next,H'):=q1
   rw[this];rfl
  ·simp only[aa,agf,cond_false,yX] at hj
   omega
end
theorem Vo {H:Hp}{es:Nat}{x:AV}{l:List AV}(h:Rw H es x l):dF x=true:=by cases h<;>rfl
def look (m:SM)(at':List Nat):Option Fl:=m.fs.find? (fun f=>f.nm==at')
noncomputable def cw (m:SM)(at':List Nat):Int:=if m.off=true then 11 else if jB at'=false then 1 else if (look m at').isNone=true then 4 else 0
theorem ama {H:Hp}{x:AV}{l:List Nat}(hx:Rw H 1 x (bs l))(h1:∀ v∈bs l,dF v=true)(hl:(bs l).length<=16777216) :
  ∃ x' H',cK (.func (.func 25) [] []) [x] H=some (x',H')/\Ow H' 5 1 x' (bs l)/\Out [] H H'/\∀ j∈aa x',H.next<=j:=U7 hx (by rw[gu] at hl;omega)
theorem ajS {H:Hp}{x:AV}{l:List AV}(hx:Rw H 1 x l)(h1:∀ v∈l,dF v=true)(hl:l.length<=16777216) :
  ∃ x' H',cK (.func (.func 38) [] []) [x] H=some (x',H')/\Ow H' 3 1 x' l/\Out [] H H'/\∀ j∈aa x',H.next<=j:=by
 have Vc:∀ i off n cap ex,x = .slice i off n cap ex 1->∃ x' H',cK (.func (.func 38) [] []) [x] H=some (x',H')/\Ow H' 3 1 x' l/\Out [] H H'/\∀ j∈aa x',H.next<=j:=by
  intro i off n cap ex he
  subst he
  obtain⟨H1,a1,a2,a3,a4⟩:=iI H [] 3 0 (by simp)
  have kZ:=hx.out a3 (fun j _ q=>by cases q)
  obtain⟨x',H',b1,b2,b3,b4⟩:=tJ (H:=H1) (el:=3) (es:=1) (z:=[.int .i64 0]) (s := .slice H.next 0 0 0 true 1) (l:=[]) .emp kZ h1 (by omega) (by simpa using hl)
  refine⟨x',H',Yx ?_,by simpa using b2,a3.then b3 (fun j hj=>by cases hj),fun j hj => ?_⟩
  ·unfold QY
   simp only[akt,Ys,agi Tryz.underlying49,FX,a1,b1,az,bd,aw,av,bG,aH,au,ak,aK,aA,aP,bK,aE,bO,bC,aR,bu,ay,bF,aT,aC,bq,aU,bI,bM,ba,aI,aW,aQ,ar,aV,a7,bS,aF,aO,bt,bJ,aN,aM,aD,bB,br,aY,bQ,bT,bk,bH,af,bp,ag,bP,ah,aB,aG,bw,bA,bR,aL,bN,bD,bo,aj,bh,bg,aq,ai,aS,a8,aZ,bE,aJ,nq,gk,wc,yL,yB,decide_true,decide_false,Int.reduceBEq,Int.reduceBNe,Int.reduceLT,Int.reduceLE,Int.reduceGT,Int.reduceGE,Int.reduceNeg,aaJ,bne_self_eq_false,ge_iff_le,gt_iff_lt]
  ·rcases b4 j hj with q | q
   ·cases q
   ·omega
 cases hx with
 | nil=>
  refine⟨.ae,H,Yx ?_,.nil,Out.refl _ _,fun j hj=>by cases hj⟩
  unfold QY
  simp only[amL,Ys,acn Tryz.underlying49,az,bd,aw,av,bG,aH,au,ak,aK,aA,aP,bK,aE,bO,bC,aR,bu,ay,bF,aT,aC,bq,aU,bI,bM,ba,aI,aW,aQ,ar,aV,a7,bS,aF,aO,bt,bJ,aN,aM,aD,bB,br,aY,bQ,bT,bk,bH,af,bp,ag,bP,ah,aB,aG,bw,bA,bR,aL,bN,bD,bo,aj,bh,bg,aq,ai,aS,a8,aZ,bE,aJ,nq,gk,wc,yL,yB,decide_true,decide_false,Int.reduceBEq,Int.reduceBNe,Int.reduceLT,Int.reduceLE,Int.reduceGT,Int.reduceGE,Int.reduceNeg,aaJ,bne_self_eq_false,ge_iff_le,gt_iff_lt]
 | emp=>exact Vc _ _ _ _ _ rfl
 | mk=>exact Vc _ _ _ _ _ rfl
section
variable {H:Hp}{p:Nat}{m:SM}{L:Lay}
theorem St.HM (h:St H p m L)(at':List Nat):(fp L at' = .cD/\look m at'=none/\∀ x∈L.cs,x.f.nm≠at')\/
  ∃ a x b,L.cs=a++x::b/\x.f.nm=at'/\(∀ y∈a,y.f.nm≠at')/\(∀ y∈b,y.f.nm≠at')/\fp L at' = .ptr x.id 0/\look m at'=some x.f:=by
 rcases h.find at' with⟨h1,h2,h3⟩ | ⟨a,x,b,h1,h2,h3,h4,h5,h6⟩
 ·refine .inl ⟨h1,?_,h3⟩
  unfold look
  rw[h.fs,List.find?_eq_none]
  intro f hf
  obtain⟨x,hx,rfl⟩:=abn.1 hf
  simpa using h3 x hx
 ·refine .inr ⟨a,x,b,h1,h2,h3,h4,h5,?_⟩
  unfold look
  rw[h.fs,List.find?_eq_some_iff_append]
  exact⟨by simpa using h2,a.map (·.f),b.map (·.f),by rw[h1,abz,abc],fun f hf=>by
   obtain⟨y,hy,rfl⟩:=abn.1 hf
   simpa using h3 y hy⟩
theorem St.Ae (h:St H p m L):ld (.ptr p 1) H=some (.map L.dU):=h.head.ld (o:=1) rfl
theorem St.IA (h:St H p m L):ld (.ptr p 2) H=some (.bool m.off):=h.head.ld (o:=2) rfl
theorem St.akY (h:St H p m L):ld (.ptr p 3) H=some (.int .i64 m.cq):=h.head.ld (o:=3) rfl
theorem uW (h:St H p m L)(at':List Nat):cK (.func (.func 43) [] []) [.ptr p 0,.str at'] H=
  some (.tuple [if m.off=true\/jB at'=false then .cD else fp L at',.int .i64 (cw m at')],H):=by
 refine alf ?_
 unfold WI
 have h1:=h.Ae
 have h2:=h.IA
 have h3:=h.ny at'
 have h4:=SJ at' H
 have h5:=h.OW at' H
 simp only[h1,h2,h3,h4,h5,az,bd,aw,av,bG,aH,au,ak,aK,aA,aP,bK,aE,bO,bC,aR,bu,ay,bF,aT,aC,bq,aU,bI,bM,ba,aI,aW,aQ,ar,aV,a7,bS,aF,aO,bt,bJ,aN,aM,aD,bB,br,aY,bQ,bT,bk,bH,af,bp,ag,bP,ah,aB,aG,bw,bA,bR,aL,bN,bD,bo,aj,bh,bg,aq,ai,aS,a8,aZ,bE,aJ,nq,gk,wc,yL,yB,decide_true,decide_false,Int.reduceBEq,Int.reduceBNe,Int.reduceLT,Int.reduceLE,Int.reduceGT,Int.reduceGE,Int.reduceNeg,aaJ,bne_self_eq_false,ge_iff_le,gt_iff_lt]
 cases ho:m.off with
 | true=>simp only[az,bd,aw,av,bG,aH,au,ak,aK,aA,aP,bK,aE,bO,bC,aR,bu,ay,bF,aT,aC,bq,aU,bI,bM,ba,aI,aW,aQ,ar,aV,a7,bS,aF,aO,bt,bJ,aN,aM,aD,bB,br,aY,bQ,bT,bk,bH,af,bp,ag,bP,ah,aB,aG,bw,bA,bR,aL,bN,bD,bo,aj,bh,bg,aq,ai,aS,a8,aZ,bE,aJ,nq,gk,wc,yL,yB,decide_true,decide_false,Int.reduceBEq,Int.reduceBNe,Int.reduceLT,Int.reduceLE,Int.reduceGT,Int.reduceGE,Int.reduceNeg,aaJ,bne_self_eq_false,ge_iff_le,gt_iff_lt,true_or,if_true,cw,ho]
 | false=>
  cases hk:jB at' with
  | false=>simp only[az,bd,aw,av,bG,aH,au,ak,aK,aA,aP,bK,aE,bO,bC,aR,bu,ay,bF,aT,aC,bq,aU,bI,bM,ba,aI,aW,aQ,ar,aV,a7,bS,aF,aO,bt,bJ,aN,aM,aD,bB,br,aY,bQ,bT,bk,bH,af,bp,ag,bP,ah,aB,aG,bw,bA,bR,aL,bN,bD,bo,aj,bh,bg,aq,ai,aS,a8,aZ,bE,aJ,nq,gk,wc,yL,yB,decide_true,decide_false,Int.reduceBEq,Int.reduceBNe,Int.reduceLT,Int.reduceLE,Int.reduceGT,Int.reduceGE,Int.reduceNeg,aaJ,bne_self_eq_false,ge_iff_le,gt_iff_lt,or_true,if_true,cw,ho,hk,abP,if_false]
  | true=>
   simp only[az,bd,aw,av,bG,aH,au,ak,aK,aA,aP,bK,aE,bO,bC,aR,bu,ay,bF,aT,aC,bq,aU,bI,bM,ba,aI,aW,aQ,ar,aV,a7,bS,aF,aO,bt,bJ,aN,aM,aD,bB,br,aY,bQ,bT,bk,bH,af,bp,ag,bP,ah,aB,aG,bw,bA,bR,aL,bN,bD,bo,aj,bh,bg,aq,ai,aS,a8,aZ,bE,aJ,nq,gk,wc,yL,yB,decide_true,decide_false,Int.reduceBEq,Int.reduceBNe,Int.reduceLT,Int.reduceLE,Int.reduceGT,Int.reduceGE,Int.reduceNeg,aaJ,bne_self_eq_false,ge_iff_le,gt_iff_lt,or_self,if_false,cw,ho,hk,abP,afd]
   rcases h.find at' with⟨q1,q2,q3⟩ | ⟨a,x,b,q1,q2,q3,q4,q5,q6⟩<;>rcases h.HM at' with⟨r1,r2,r3⟩ | ⟨a',x',b',r1,r2,r3,r4,r5,r6⟩
   ·simp only[q1,q2,r2,az,bd,aw,av,bG,aH,au,ak,aK,aA,aP,bK,aE,bO,bC,aR,bu,ay,bF,aT,aC,bq,aU,bI,bM,ba,aI,aW,aQ,ar,aV,a7,bS,aF,aO,bt,bJ,aN,aM,aD,bB,br,aY,bQ,bT,bk,bH,af,bp,ag,bP,ah,aB,aG,bw,bA,bR,aL,bN,bD,bo,aj,bh,bg,aq,ai,aS,a8,aZ,bE,aJ,nq,gk,wc,yL,yB,decide_true,decide_false,Int.reduceBEq,Int.reduceBNe,Int.reduceLT,Int.reduceLE,Int.reduceGT,Int.reduceGE,Int.reduceNeg,aaJ,bne_self_eq_false,ge_iff_le,gt_iff_lt,Option.isNone_none,if_true]
   ·exact absurd r2 (q3 x' (by rw[r1];simp))
   ·exact absurd q2 (r3 x (by rw[q1];simp))
   ·simp only[q5,q6,r6,az,bd,aw,av,bG,aH,au,ak,aK,aA,aP,bK,aE,bO,bC,aR,bu,ay,bF,aT,aC,bq,aU,bI,bM,ba,aI,aW,aQ,ar,aV,a7,bS,aF,aO,bt,bJ,aN,aM,aD,bB,br,aY,bQ,bT,bk,bH,af,bp,ag,bP,ah,aB,aG,bw,bA,bR,aL,bN,bD,bo,aj,bh,bg,aq,ai,aS,a8,aZ,bE,aJ,nq,gk,wc,yL,yB,decide_true,decide_false,Int.reduceBEq,Int.reduceBNe,Int.reduceLT,Int.reduceLE,Int.reduceGT,Int.reduceGE,Int.reduceNeg,aaJ,bne_self_eq_false,ge_iff_le,gt_iff_lt,Option.isNone_some,if_false,abP]
end
section
variable {H:Hp}{p:Nat}{m:SM}{L:Lay}
theorem GJ (h:St H p m L):∃ H',cK (.func (.func 14) [] []) [.ptr p 0] H=some (.tuple [],H')/\St H' p { m with off:=false } L/\fC p H L H' L:=by
 obtain⟨H',h1,h2,h3,h4⟩:=h.head.st (o:=2) (v := .bool false) (by simp) rfl
 have hk:=h.cp.out h3 fun j hj q=>by
  have dh:=h.nd
  unfold cB at dh
  rw[ab0] at dh
  simp only[yX] at q
  exact dh.1 (q ▸ .tail _ (aaz _ hj))
 obtain⟨q1,q2⟩:=h.IZ (off:=false) (cq:=m.cq) (cp:=L.cp) (kl:=m.cp) h2 h.ok.cq h3 (fun j hj => .inl (by simpa using hj)) hk (fun j hj => .inl hj) (tX _)
 refine⟨H',akI ?_,q1,q2⟩
 unfold abw
 simp only[h1,az,bd,aw,av,bG,aH,au,ak,aK,aA,aP,bK,aE,bO,bC,aR,bu,ay,bF,aT,aC,bq,aU,bI,bM,ba,aI,aW,aQ,ar,aV,a7,bS,aF,aO,bt,bJ,aN,aM,aD,bB,br,aY,bQ,bT,bk,bH,af,bp,ag,bP,ah,aB,aG,bw,bA,bR,aL,bN,bD,bo,aj,bh,bg,aq,ai,aS,a8,aZ,bE,aJ,nq,gk,wc,yL,yB,decide_true,decide_false,Int.reduceBEq,Int.reduceBNe,Int.reduceLT,Int.reduceLE,Int.reduceGT,Int.reduceGE,Int.reduceNeg,aaJ,bne_self_eq_false,ge_iff_le,gt_iff_lt]
theorem BQ (h:St H p m L):cK (.func (.func 19) [] []) [.ptr p 0] H=some (.bool m.off,H):=by
 refine adI ?_
 unfold Vr
 simp only[h.IA,az,bd,aw,av,bG,aH,au,ak,aK,aA,aP,bK,aE,bO,bC,aR,bu,ay,bF,aT,aC,bq,aU,bI,bM,ba,aI,aW,aQ,ar,aV,a7,bS,aF,aO,bt,bJ,aN,aM,aD,bB,br,aY,bQ,bT,bk,bH,af,bp,ag,bP,ah,aB,aG,bw,bA,bR,aL,bN,bD,bo,aj,bh,bg,aq,ai,aS,a8,aZ,bE,aJ,nq,gk,wc,yL,yB,decide_true,decide_false,Int.reduceBEq,Int.reduceBNe,Int.reduceLT,Int.reduceLE,Int.reduceGT,Int.reduceGE,Int.reduceNeg,aaJ,bne_self_eq_false,ge_iff_le,gt_iff_lt]
def yd (m:SM)(at':List Nat):Nat:=match look m at' with | some f=>f.sure | none=>0
theorem ad5 (h:St H p m L)(at':List Nat):cK (.func (.func 33) [] []) [.ptr p 0,.str at'] H=some (.int .i64 (yd m at'),H):=by
 refine aiZ ?_
 unfold XL yd
 have h1:=h.Ae
 have h2:=h.ny at'
 rcases h.HM at' with⟨r1,r2,r3⟩ | ⟨a,x,b,r1,r2,r3,r4,r5,r6⟩
 ·simp only[h1,h2,r1,r2,az,bd,aw,av,bG,aH,au,ak,aK,aA,aP,bK,aE,bO,bC,aR,bu,ay,bF,aT,aC,bq,aU,bI,bM,ba,aI,aW,aQ,ar,aV,a7,bS,aF,aO,bt,bJ,aN,aM,aD,bB,br,aY,bQ,bT,bk,bH,af,bp,ag,bP,ah,aB,aG,bw,bA,bR,aL,bN,bD,bo,aj,bh,bg,aq,ai,aS,a8,aZ,bE,aJ,nq,gk,wc,yL,yB,decide_true,decide_false,Int.reduceBEq,Int.reduceBNe,Int.reduceLT,Int.reduceLE,Int.reduceGT,Int.reduceGE,Int.reduceNeg,aaJ,bne_self_eq_false,ge_iff_le,gt_iff_lt];rfl
 ·have h3:=(h.file x (by rw[r1];simp)).1.ld (o:=1) rfl
  simp only[h1,h2,r5,r6,h3,az,bd,aw,av,bG,aH,au,ak,aK,aA,aP,bK,aE,bO,bC,aR,bu,ay,bF,aT,aC,bq,aU,bI,bM,ba,aI,aW,aQ,ar,aV,a7,bS,aF,aO,bt,bJ,aN,aM,aD,bB,br,aY,bQ,bT,bk,bH,af,bp,ag,bP,ah,aB,aG,bw,bA,bR,aL,bN,bD,bo,aj,bh,bg,aq,ai,aS,a8,aZ,bE,aJ,nq,gk,wc,yL,yB,decide_true,decide_false,Int.reduceBEq,Int.reduceBNe,Int.reduceLT,Int.reduceLE,Int.reduceGT,Int.reduceGE,Int.reduceNeg,aaJ,bne_self_eq_false,ge_iff_le,gt_iff_lt]
noncomputable def gq (m:SM)(at':List Nat):List Nat:=if cw m at'=0 then (match look m at' with | some f=>f.b | none=>[]) else []
theorem Zf (m:SM)(at':List Nat):(cw m at'=11/\m.off=true)\/(cw m at'=1/\m.off=false/\jB at'=false)\/(cw m at'=4/\m.off=false/\jB at'=true/\look m at'=none)\/
  (cw m at'=0/\m.off=false/\jB at'=true/\∃ f,look m at'=some f):=by
 unfold cw
 cases ho:m.off with
 | true=>exact .inl ⟨by simp,rfl⟩
 | false=>
  cases hk:jB at' with
  | false=>exact .inr (.inl ⟨by simp,rfl,rfl⟩)
  | true=>
   cases hl:look m at' with
   | none=>exact .inr (.inr (.inl ⟨by simp,rfl,rfl,rfl⟩))
   | some f=>exact .inr (.inr (.inr ⟨by simp,rfl,rfl,f,rfl⟩))
theorem St.BF (h:St H p m L){at':List Nat}(he:cw m at'=0):m.off=false/\jB at'=true/\∃ a x b,L.cs=a++x::b/\x.f.nm=at'/\(∀ y∈a,y.f.nm≠at')/\(∀ y∈b,y.f.nm≠at')/\fp L at' = .ptr x.id 0/\look m at'=some x.f/\x∈L.cs/\x.f∈m.fs:=by
 rcases Zf m at' with⟨q,_⟩ | ⟨q,_⟩ | ⟨q,_⟩ | ⟨_,q1,q2,f,q3⟩
 ·rw[he] at q;cases q
 ·rw[he] at q;cases q
 ·rw[he] at q;cases q
 ·rcases h.HM at' with⟨r1,r2,r3⟩ | ⟨a,x,b,r1,r2,r3,r4,r5,r6⟩
  ·rw[r2] at q3;cases q3
  ·have hx:x∈L.cs:=by rw[r1];simp
   exact⟨q1,q2,a,x,b,r1,r2,r3,r4,r5,r6,hx,by rw[h.fs];exact abn.2 ⟨x,hx,rfl⟩⟩
theorem Ie {f:Fl}{fs:List Fl}(hf:f∈fs):f.b.length<=gy fs:=by
 induction fs with
 | nil=>cases hf
 | cons g fs ih=>
  have e:gy (g::fs)=g.b.length+gy fs:=by unfold gy;rw[abc,List.sum_cons]
  rw[e]
  rcases aap.1 hf with rfl | hf
  ·omega
  ·have:=ih hf;omega
theorem Fc (h:St H p m L)(at':List Nat):∃ x' H',cK (.func (.func 51) [] []) [.ptr p 0,.str at'] H=some (.tuple [x',.int .i64 (cw m at')],H')/\
  Rw H' 1 x' (bs (gq m at'))/\Out [] H H'/\∀ j∈aa x',H.next<=j:=by
 have h0:=uW h at'
 by_cases he:cw m at'=0
 ·obtain⟨q1,q2,a,x,b,r1,r2,r3,r4,r5,r6,hx,hf⟩:=h.BF he
  obtain⟨ki,pL⟩:=h.file x hx
  have hl:=ki.ld (o:=0) rfl
  have hb:(bs x.f.b).length<=16777216:=by
   rw[gu]
   have:=Ie hf;have:=h.ok.sum;have:=h.ok.room;omega
  obtain⟨x',H',c1,c2,c3,c4⟩:=ama pL.rw (CJ _) hb
  refine⟨x',H',Wy ?_,?_,c3,c4⟩
  ·unfold LQ
   simp only[h0,he,q1,q2,r5,hl,c1,abP,afd,or_self,if_false,az,bd,aw,av,bG,aH,au,ak,aK,aA,aP,bK,aE,bO,bC,aR,bu,ay,bF,aT,aC,bq,aU,bI,bM,ba,aI,aW,aQ,ar,aV,a7,bS,aF,aO,bt,bJ,aN,aM,aD,bB,br,aY,bQ,bT,bk,bH,af,bp,ag,bP,ah,aB,aG,bw,bA,bR,aL,bN,bD,bo,aj,bh,bg,aq,ai,aS,a8,aZ,bE,aJ,nq,gk,wc,yL,yB,decide_true,decide_false,Int.reduceBEq,Int.reduceBNe,Int.reduceLT,Int.reduceLE,Int.reduceGT,Int.reduceGE,Int.reduceNeg,aaJ,bne_self_eq_false,ge_iff_le,gt_iff_lt]
  ·unfold gq
   rw[if_pos he,r6];exact c2.rw
 ·refine⟨.ae,H,Wy ?_,?_,Out.refl _ _,fun j hj=>by cases hj⟩
  ·unfold LQ
   have:(cw m at' != 0)=true:=by simpa using he
   simp only[h0,this,az,bd,aw,av,bG,aH,au,ak,aK,aA,aP,bK,aE,bO,bC,aR,bu,ay,bF,aT,aC,bq,aU,bI,bM,ba,aI,aW,aQ,ar,aV,a7,bS,aF,aO,bt,bJ,aN,aM,aD,bB,br,aY,bQ,bT,bk,bH,af,bp,ag,bP,ah,aB,aG,bw,bA,bR,aL,bN,bD,bo,aj,bh,bg,aq,ai,aS,a8,aZ,bE,aJ,nq,gk,wc,yL,yB,decide_true,decide_false,Int.reduceBEq,Int.reduceBNe,Int.reduceLT,Int.reduceLE,Int.reduceGT,Int.reduceGE,Int.reduceNeg,aaJ,bne_self_eq_false,ge_iff_le,gt_iff_lt]
  ·unfold gq
   rw[if_neg he];exact .nil
def Ey (m:SM)(calls:Int)(kl:List Int):SM:=if m.off=true then m else { m with cq:=calls.toNat,cp:=kl }
theorem ai0 (l:List Int):∀ v∈ints l,dF v=true:=by
 intro v hv
 obtain⟨z,_,rfl⟩:=abn.1 hv
 rfl
theorem alh (h:St H p m L){calls:Int}{x:AV}{kl:List Int}(hc:calls<=9223372036854775807)(hx:Rw H 1 x (ints kl))(lF:∀ j∈aa x,j∉cB p L)(hlen:kl.length<=16777216) :
  ∃ H' L',cK (.func (.func 18) [] []) [.ptr p 0,.int .i64 calls,x] H=some (.tuple [],H')/\St H' p (Ey m calls kl) L'/\fC p H L H' L':=by
 have h2:=h.IA
 cases ho:m.off with
 | true=>
  rw[ho] at h2
  refine⟨H,L,VW ?_,by unfold Ey;rw[if_pos ho];exact h,fC.refl _ _ _⟩
  unfold Qn
  simp only[h2,az,bd,aw,av,bG,aH,au,ak,aK,aA,aP,bK,aE,bO,bC,aR,bu,ay,bF,aT,aC,bq,aU,bI,bM,ba,aI,aW,aQ,ar,aV,a7,bS,aF,aO,bt,bJ,aN,aM,aD,bB,br,aY,bQ,bT,bk,bH,af,bp,ag,bP,ah,aB,aG,bw,bA,bR,aL,bN,bD,bo,aj,bh,bg,aq,ai,aS,a8,aZ,bE,aJ,nq,gk,wc,yL,yB,decide_true,decide_false,Int.reduceBEq,Int.reduceBNe,Int.reduceLT,Int.reduceLE,Int.reduceGT,Int.reduceGE,Int.reduceNeg,aaJ,bne_self_eq_false,ge_iff_le,gt_iff_lt]
 | false=>
  rw[ho] at h2
  obtain⟨H1,a1,a2,a3,a4⟩:=h.head.st (o:=3) (v := .int .i64 calls.toNat) (by simp) rfl
  have hp:p∈cB p L:=St.mQ
  have kZ:=hx.out a3 fun j hj q=>lF j hj (by rw[yX.1 q];exact hp)
  obtain⟨x',H2,b1,b2,b3,b4⟩:=ajS kZ (ai0 kl) (by unfold ints;rw[acs];exact hlen)
  have lI:=a2.out b3 (fun q=>by cases q)
  obtain⟨H3,c1,c2,c3,c4⟩:=lI.st (o:=4) (v:=x') (by simp) (Vo b2.rw)
  have an8:=h.head.lt
  have ft:Rw H3 1 x' (ints kl):=b2.rw.out c3 fun j hj q=>by
   have:=b4 j hj
   rw[yX.1 q] at this
   have:=a3.1;omega
  have ho:Out [p] H H3:=(a3.trans (b3.mono (fun j hj=>by cases hj))).trans c3
  obtain⟨q1,q2⟩:=h.IZ (off:=false) (cq:=calls.toNat) (cp:=x') (kl:=kl) (by simpa[ho,‹m.off=false›] using c2) (by omega) ho (fun j hj => .inl (by simpa using hj)) ft (fun j hj => .inr (abl a3.1 (b4 j hj))) (tX _)
  refine⟨H3,_,VW ?_,?_,q2⟩
  ·unfold Qn
   have hm:(if calls<0 then (0:Int) else calls)=(calls.toNat:Int):=by split<;>omega
   simp only[h2,Fb,hm,a1,b1,c1,az,bd,aw,av,bG,aH,au,ak,aK,aA,aP,bK,aE,bO,bC,aR,bu,ay,bF,aT,aC,bq,aU,bI,bM,ba,aI,aW,aQ,ar,aV,a7,bS,aF,aO,bt,bJ,aN,aM,aD,bB,br,aY,bQ,bT,bk,bH,af,bp,ag,bP,ah,aB,aG,bw,bA,bR,aL,bN,bD,bo,aj,bh,bg,aq,ai,aS,a8,aZ,bE,aJ,nq,gk,wc,yL,yB,decide_true,decide_false,Int.reduceBEq,Int.reduceBNe,Int.reduceLT,Int.reduceLE,Int.reduceGT,Int.reduceGE,Int.reduceNeg,aaJ,bne_self_eq_false,ge_iff_le,gt_iff_lt]
  ·unfold Ey
   rw[if_neg (by rw[‹m.off=false›];simp)]
   have:{ m with off:=false,cq:=calls.toNat,cp:=kl }={ m with cq:=calls.toNat,cp:=kl }:=by rw[<- ‹m.off=false›]
   rw[<-this];exact q1
end
section
variable {H:Hp}{p:Nat}{m:SM}{L:Lay}
theorem St.T3 (h:St H p m L){x:FC}(hx:x∈L.cs):x.id∉aa x.sl:=by
 have dh:=h.nd
 unfold cB at dh
 rw[ab0,ab0,acd] at dh
 obtain⟨a,b,hL⟩:=List.append_of_mem hx
 have h1:=dh.2.2.2.1
 rw[hL,afS,aeY,acd,acd] at h1
 have h2:(x.id::aa x.sl).Nodup:=h1.2.1.1
 exact (ab0.1 h2).1
theorem St.Tq (h:St H p m L){x:FC}(hx:x∈L.cs){H0:Hp}{sl:AV}{b:List Nat}(ho:Out (aa x.sl) H H0)(hw:Ow H0 5 1 sl (bs b))(hr:∀ j∈aa sl,j∈aa x.sl\/H.next<=j) :
  ∃ H1,st 1 (.ptr x.id 0) sl H0=some H1/\C0 H1 x.id [sl,.int .i64 x.f.sure]/\Out x.ids H H1/\Ow H1 5 1 sl (bs b):=by
 have hid:=h.T3 hx
 have hc:=(h.file x hx).1.out ho hid
 obtain⟨H1,h1,h2,h3,h4⟩:=hc.st (o:=0) (v:=sl) (by simp) (Vo hw.rw)
 have bW:=(h.file x hx).1.lt
 refine⟨H1,h1,h2,(ho.mono fun j hj=>List.mem_cons_of_mem _ hj).trans (h3.mono fun j hj=>by rw[yX.1 hj];exact .head _),hw.out h3 fun j hj q => ?_⟩
 rw[yX.1 q] at hj
 rcases hr _ hj with q | q
 ·exact hid q
 ·omega
theorem ZM {i:Nat}{sl:AV}{s t:Int}{b:List Nat}{H1:Hp}(hc:C0 H1 i [sl,.int .i64 s])(hw:Ow H1 5 1 sl (bs b))(hi:i∉aa sl) :
  ∃ H2,st 1 (.ptr i 1) (.int .i64 t) H1=some H2/\C0 H2 i [sl,.int .i64 t]/\Out [i] H1 H2/\Ow H2 5 1 sl (bs b):=by
 obtain⟨H2,h1,h2,h3,h4⟩:=hc.st (o:=1) (v := .int .i64 t) (by simp) rfl
 exact⟨H2,h1,h2,h3,hw.out h3 fun j hj q=>hi (by rw[yX.1 q] at hj;exact hj)⟩
theorem CO (a b:List Fl):gy (a++b)=gy a+gy b:=by unfold gy;rw[abz,List.sum_append]
theorem Gh (f:Fl)(b:List Fl):gy (f::b)=f.b.length+gy b:=by unfold gy;rw[abc,List.sum_cons]
theorem St.K7 (h:St H p m L){a b:List FC}{x:FC}(hL:L.cs=a++x::b)(ha:∀ y∈a,y.f.nm≠x.f.nm)(hb:∀ y∈b,y.f.nm≠x.f.nm)(f:Fl):gy (fM x.f.nm f m.fs)+x.f.b.length=gy m.fs+f.b.length:=by
 rw[h.fs,hL,Nd rfl ha hb,abz,abc,CO,CO,Gh,Gh]
 omega
def qB (L:Lay)(j:Nat):Prop:=∃ y∈L.cs,j∈y.ids
def XF (f:Fl)(n:Nat):Fl:=⟨f.nm,f.b.take n,n⟩
theorem ami (l:List Nat)(n:Nat):bs (l.take n)=(bs l).take n:=by unfold bs;rw[List.map_take]
theorem St.cut (h:St H p m L){a b:List FC}{x:FC}(hL:L.cs=a++x::b)(ha:∀ y∈a,y.f.nm≠x.f.nm)(hb:∀ y∈b,y.f.nm≠x.f.nm){n s:Nat}(hn:n<=x.f.b.length)(hs:s<=n) :
  ∃ sl H1 H2 L',dC 1 x.sl none (some (.int .i64 n)) none=some sl/\st 1 (.ptr x.id 0) sl H=some H1/\ld (.ptr x.id 0) H1=some sl/\ld (.ptr x.id 1) H1=some (.int .i64 x.f.sure)/\cy sl=some (.int .i64 n)/\st 1 (.ptr x.id 1) (.int .i64 s) H1=some H2/\
   St H2 p { m with fs:=fM x.f.nm ⟨x.f.nm,x.f.b.take n,s⟩ m.fs } L'/\fC p H L H2 L'/\L'.cp=L.cp/\L'.dU=L.dU/\(∀ j,qB L' j->qB L j\/H.next<=j)/\Out x.ids H H2:=by
 have hx:x∈L.cs:=by rw[hL];simp
 obtain⟨ki,pL⟩:=h.file x hx
 have hlen:(bs x.f.b).length=x.f.b.length*1:=by rw[gu,adO]
 obtain⟨sl,s1,s2,s3⟩:=DA pL hlen (by omega) (a:=0) (b:=n) (lo:=none) (hi:=some (.int .i64 n)) (ack _) hn (Bd.no 0) (Bd.yes _ _ _)
 rw[aeT,adE,adD,adO,<-ami] at s2
 obtain⟨H1,p1,p2,p3,p4⟩:=h.Tq hx (Out.refl _ _) s2 fun j hj => .inl (s3 j hj)
 have hid:x.id∉aa sl:=fun q=>h.T3 hx (s3 _ q)
 obtain⟨H2,r1,r2,r3,r4⟩:=ZM (t:=(s:Int)) p2 p4 hid
 have Dd:Out x.ids H H2:=p3.trans (r3.mono fun j hj=>by rw[yX.1 hj];exact .head _)
 have Fm:(x.f.b.take n).length=n:=by rw[abN];omega
 have vI:=h.K7 hL ha hb ⟨x.f.nm,x.f.b.take n,s⟩
 have wZ:x.f∈m.fs:=by rw[h.fs];exact abn.2 ⟨x,hx,rfl⟩
 have wU:=h.ok.sum
 obtain⟨q1,q2⟩:=h.Lb (f:=⟨x.f.nm,x.f.b.take n,s⟩) hL ha hb rfl Dd (fun j hj=>hj) r2 r4 (fun j hj => .inl (s3 j hj)) (tX _) (by simp only;omega) (fun c hc=>h.ok.byte x.f wZ c (adb hc))
  (by simp only at vI ⊢;omega)
 refine⟨sl,H1,H2,_,s1,p1,p2.ld rfl,p2.ld (o:=1) rfl,?_,r1,q1,q2,rfl,rfl,fun j hj => ?_,Dd⟩
 ·have:=s2.rw.il
  rw[gu,Fm] at this
  exact this
 ·obtain⟨y,hy,hj⟩:=hj
  rcases aac.1 hy with hy | hy
  ·exact .inl ⟨y,by rw[hL];exact aaz _ hy,hj⟩
  ·rcases aap.1 hy with rfl | hy
   ·refine .inl ⟨x,hx,?_⟩
    rcases aap.1 hj with rfl | hj
    ·exact .head _
    ·exact .tail _ (s3 j hj)
   ·exact .inl ⟨y,by rw[hL];exact No _ (.tail _ hy),hj⟩
end
def kn:List Int->Int
 | []=>0
 | k::_=>k
def rC:List (List Nat)->List Int->List Fl->List Fl
 | [],_,fs=>fs
 | n::ns,cp,fs=>match fs.find? (fun f=>f.nm==n) with
  | none=>fs
  | some f=>if f.b.length=f.sure then rC ns cp fs else rC ns cp.tail (fM n (XF f (f.sure+min (kn cp).toNat (f.b.length-f.sure))) fs)
noncomputable def oQ (m:SM)(cp:List Int):SM:=if m.off=true then m else { m with off:=true,cq:=0,fs:=rC (names m) cp m.fs }
theorem aah {fs:List Fl}{n k:List Nat}{g:Fl}(hg:g.nm=n)(h:(fs.find? (fun f=>f.nm==k)).isSome=true):((fM n g fs).find? (fun f=>f.nm==k)).isSome=true:=by
 rw[List.find?_isSome] at h ⊢
 obtain⟨f,hf,he⟩:=h
 unfold fM
 refine⟨if f.nm=n then g else f,abn.2 ⟨f,hf,rfl⟩,?_⟩
 split
 ·rename_i q;rw[hg,<-q];exact he
 ·exact he
theorem I6 (j7:Am.K.Fn 1)(p:Nat)(x:AV)(all:List (List Nat))(gS:all.length<=1000000):∀ (rest:List (List Nat)) (i:Nat) (H:Hp) (m:SM) (L:Lay) (kv:AV) (kl:List Int),St H p m L->Rw H 1 x (strs all)->(∀ j∈aa x,¬ qB L j)->
  i+rest.length=all.length->all.drop i=rest->Rw H 1 kv (ints kl)->(∀ j∈aa kv,¬ qB L j)->(∀ n∈rest,(look m n).isSome=true)->
  ∃ H' L',Dx JN GO cK j7 (.ptr p 0) kv x (.int .i64 all.length) (.int .i64 i) H=j7 (.ptr p 0) H'/\St H' p { m with fs:=rC rest kl m.fs } L'/\fC p H L H' L'/\L'.cp=L.cp
 | [],i,H,m,L,kv,kl,h,hx,lF,hi,hd,hk,cE,hl=>by
  refine⟨H,L,?_,h,fC.refl _ _ _,rfl⟩
  rw[Z2]
  have:decide ((i:Int)<(all.length:Int))=false:=by simp only[abQ] at hi;simp;omega
  simp only[Cp,this,az,bd,aw,av,bG,aH,au,ak,aK,aA,aP,bK,aE,bO,bC,aR,bu,ay,bF,aT,aC,bq,aU,bI,bM,ba,aI,aW,aQ,ar,aV,a7,bS,aF,aO,bt,bJ,aN,aM,aD,bB,br,aY,bQ,bT,bk,bH,af,bp,ag,bP,ah,aB,aG,bw,bA,bR,aL,bN,bD,bo,aj,bh,bg,aq,ai,aS,a8,aZ,bE,aJ,nq,gk,wc,yL,yB,decide_true,decide_false,Int.reduceBEq,Int.reduceBNe,Int.reduceLT,Int.reduceLE,Int.reduceGT,Int.reduceGE,Int.reduceNeg,aaJ,bne_self_eq_false,ge_iff_le,gt_iff_lt]
 | n::ns,i,H,m,L,kv,kl,h,hx,lF,hi,hd,hk,cE,hl=>by
  simp only[abg] at hi
  have bW:decide ((i:Int)<(all.length:Int))=true:=by simp;omega
  have hn:all[i]? = some n:=by
   have:=congrArg (fun l=>l[0]?) hd
   simpa using this
  obtain⟨q,uz,vH⟩:=hx.s7 (i:=i) (v := .str n) (by unfold strs;rw[acD,hn];rfl) .i64
  have eQ:all.drop (i+1)=ns:=by
   have:=congrArg (List.drop 1) hd
   rw[ago] at this
   simpa using this
  have hw:IntKind.wrap .i64 ((i:Int)+1)=((i+1:Nat):Int):=by rw[wrap_i64 (by omega) (by omega)];omega
  have h1:=h.Ae
  have h2:=h.ny n
  have Xe:=hl n (.head _)
  rcases h.HM n with⟨r1,r2,r3⟩ | ⟨a,fc,b,r1,r2,r3,r4,r5,r6⟩
  ·rw[r2] at Xe;cases Xe
  have Rh:fc∈L.cs:=by rw[r1];simp
  have wZ:fc.f∈m.fs:=by rw[h.fs];exact abn.2 ⟨fc,Rh,rfl⟩
  obtain⟨ki,pL⟩:=h.file fc Rh
  have RI:=ki.ld (o:=0) rfl
  have SD:=ki.ld (o:=1) rfl
  have hlen:=pL.rw.il
  rw[gu] at hlen
  have qN:=h.ok.sure _ wZ
  have kD:fc.f.b.length<=16777216:=by
   have:=Ie wZ;have:=h.ok.sum;have:=h.ok.room;omega
  have Hl:IntKind.wrap .i64 ((fc.f.b.length:Int)-(fc.f.sure:Int))=((fc.f.b.length-fc.f.sure:Nat):Int):=by rw[wrap_i64 (by omega) (by omega)];omega
  rw[Z2]
  by_cases heq:fc.f.b.length=fc.f.sure
  ·have hz:(((fc.f.b.length-fc.f.sure:Nat):Int)==0)=true:=by rw[heq];simp
   obtain⟨H',L',e1,e2,e3,e4⟩:=I6 j7 p x all gS ns (i+1) H m L kv kl h hx lF (by omega) eQ hk cE fun k hk=>hl k (.tail _ hk)
   refine⟨H',L',?_,?_,e3,e4⟩
   ·simp only[Cp,bW,uz,vH,h1,h2,r5,RI,SD,hlen,Hl,hz,hw,e1,az,bd,aw,av,bG,aH,au,ak,aK,aA,aP,bK,aE,bO,bC,aR,bu,ay,bF,aT,aC,bq,aU,bI,bM,ba,aI,aW,aQ,ar,aV,a7,bS,aF,aO,bt,bJ,aN,aM,aD,bB,br,aY,bQ,bT,bk,bH,af,bp,ag,bP,ah,aB,aG,bw,bA,bR,aL,bN,bD,bo,aj,bh,bg,aq,ai,aS,a8,aZ,bE,aJ,nq,gk,wc,yL,yB,decide_true,decide_false,Int.reduceBEq,Int.reduceBNe,Int.reduceLT,Int.reduceLE,Int.reduceGT,Int.reduceGE,Int.reduceNeg,aaJ,bne_self_eq_false,ge_iff_le,gt_iff_lt]
   ·have:rC (n::ns) kl m.fs=rC ns kl m.fs:=by
     show (match look m n with | none=>m.fs | some f=>_)=_
     rw[r6];simp only;rw[if_pos heq]
    rw[this];exact e2
  ·have hz:(((fc.f.b.length-fc.f.sure:Nat):Int)==0)=false:=by simp;omega
   obtain⟨sl,H1,H2,L2,c1,c2,c3,VB,c4,c5,c6,c7,c8,c9,c10,Kn⟩:=h.cut r1 (by rw[r2];exact r3) (by rw[r2];exact r4) (n:=fc.f.sure+min (kn kl).toNat (fc.f.b.length-fc.f.sure)) (s:=fc.f.sure+min (kn kl).toNat (fc.f.b.length-fc.f.sure)) (by omega) (zf _)
   have hwa:IntKind.wrap .i64 ((fc.f.sure:Int)+((min (kn kl).toNat (fc.f.b.length-fc.f.sure):Nat):Int))=((fc.f.sure+min (kn kl).toNat (fc.f.b.length-fc.f.sure):Nat):Int):=by rw[wrap_i64 (by omega) (by omega)];omega
   have Dd:∀ y:AV,(∀ j∈aa y,¬ qB L j)->∀ j∈aa y,j∉fc.ids:=fun y hy j hj q=>hy j hj ⟨fc,Rh,q⟩
   have qM:=hx.out Kn (Dd x lF)
   have uf:∀ (y:AV) (l:List AV),Rw H 1 y l->(∀ j∈aa y,¬ qB L j)->∀ j∈aa y,¬ qB L2 j:=fun y l hy my j hj q=>by
    rcases c10 j q with q | q
    ·exact my j hj q
    ·have:=hy.lt j hj;omega
   have iu:∀ k∈ns,(look { m with fs:=fM fc.f.nm ⟨fc.f.nm,fc.f.b.take (fc.f.sure+min (kn kl).toNat (fc.f.b.length-fc.f.sure)),fc.f.sure+min (kn kl).toNat (fc.f.b.length-fc.f.sure)⟩ m.fs } k).isSome=true:=
    fun k hk=>aah rfl (hl k (.tail _ hk))
   have fj:rC (n::ns) kl m.fs=rC ns kl.tail (fM fc.f.nm ⟨fc.f.nm,fc.f.b.take (fc.f.sure+min (kn kl).toNat (fc.f.b.length-fc.f.sure)),fc.f.sure+min (kn kl).toNat (fc.f.b.length-fc.f.sure)⟩ m.fs):=by
    show (match look m n with | none=>m.fs | some f=>_)=_
    rw[r6];simp only;rw[if_neg heq,<-r2];rfl
   cases kl with
   | nil=>
    have vf:cy kv=some (.int .i64 0):=by
     have:=hk.il
     exact this
    obtain⟨H',L',e1,e2,e3,e4⟩:=I6 j7 p x all gS ns (i+1) H2 _ L2 kv [] c6 qM (uf x _ hx lF) (by omega) eQ (hk.out Kn (Dd kv cE)) (uf kv _ hk cE) iu
    refine⟨H',L',?_,by rw[fj];exact e2,c7.trans e3,e4.trans c8⟩
    have acH:IntKind.wrap .i64 ((fc.f.sure:Int)+0)=((fc.f.sure+min (kn []).toNat (fc.f.b.length-fc.f.sure):Nat):Int):=by rw[wrap_i64 (by omega) (by omega)];simp[kn]
    have B6:decide ((0:Int)<0)=false:=rfl
    simp only[Cp,bW,uz,vH,h1,h2,r5,RI,SD,hlen,Hl,hz,hw,vf,B6,acH,c1,c2,c3,c4,c5,e1,az,bd,aw,av,bG,aH,au,ak,aK,aA,aP,bK,aE,bO,bC,aR,bu,ay,bF,aT,aC,bq,aU,bI,bM,ba,aI,aW,aQ,ar,aV,a7,bS,aF,aO,bt,bJ,aN,aM,aD,bB,br,aY,bQ,bT,bk,bH,af,bp,ag,bP,ah,aB,aG,bw,bA,bR,aL,bN,bD,bo,aj,bh,bg,aq,ai,aS,a8,aZ,bE,aJ,nq,gk,wc,yL,yB,decide_true,decide_false,Int.reduceBEq,Int.reduceBNe,Int.reduceLT,Int.reduceLE,Int.reduceGT,Int.reduceGE,Int.reduceNeg,aaJ,bne_self_eq_false,ge_iff_le,gt_iff_lt]
   | cons k ks=>
    have mC:cy kv=some (.int .i64 ((ks.length+1:Nat):Int)):=by
     have:=hk.il
     unfold ints at this
     rw[acs] at this
     exact this
    have Bw:decide ((0:Int)<((ks.length+1:Nat):Int))=true:=decide_eq_true (by omega)
    obtain⟨qk,gj,TV⟩:=hk.s7 (i:=0) (v := .int .i64 k) rfl .i64
    have kM:(ints (k::ks)).length=(ks.length+1)*1:=by unfold ints;simp
    obtain⟨E7,k1,k2,k3⟩:=MD hk kM (by omega) (a:=1) (b:=ks.length+1) (lo:=some (.int .i64 1)) (hi:=none) (by omega) (zf _) (Bd.yes .i64 1 0) (Bd.no _)
    have aaP:Rw H 1 E7 (ints ks):=by
     have:((ints (k::ks)).drop (1*1)).take ((ks.length+1-1)*1)=ints ks:=by
      unfold ints
      simp only[abc,adO,List.drop_succ_cons,adE,ahB]
      rw[acI (by simp)]
     rw[this] at k2;exact k2
    have aa1:∀ j∈aa E7,¬ qB L j:=fun j hj=>cE j (k3 j hj)
    obtain⟨H',L',e1,e2,e3,e4⟩:=I6 j7 p x all gS ns (i+1) H2 _ L2 E7 ks c6 qM (uf x _ hx lF) (by omega) eQ (aaP.out Kn (Dd E7 aa1)) (uf E7 _ aaP aa1) iu
    refine⟨H',L',?_,by rw[fj];exact e2,c7.trans e3,e4.trans c8⟩
    have ye:(if ((if k<0 then (0:Int) else k))>((fc.f.b.length-fc.f.sure:Nat):Int) then ((fc.f.b.length-fc.f.sure:Nat):Int) else (if k<0 then (0:Int) else k))=((min (kn (k::ks)).toNat (fc.f.b.length-fc.f.sure):Nat):Int):=by
     simp only[kn]
     split<;>split<;>omega
    simp only[gt_iff_lt] at ye
    have w8:ia 1 kv (.int .i64 0)=some qk:=gj
    simp only[Cp,bW,uz,vH,h1,h2,r5,RI,SD,hlen,Hl,hz,hw,mC,Bw,w8,TV,Fb,Jl,ye,k1,hwa,c1,c2,c3,c4,c5,e1,az,bd,aw,av,bG,aH,au,ak,aK,aA,aP,bK,aE,bO,bC,aR,bu,ay,bF,aT,aC,bq,aU,bI,bM,ba,aI,aW,aQ,ar,aV,a7,bS,aF,aO,bt,bJ,aN,aM,aD,bB,br,aY,bQ,bT,bk,bH,af,bp,ag,bP,ah,aB,aG,bw,bA,bR,aL,bN,bD,bo,aj,bh,bg,aq,ai,aS,a8,aZ,bE,aJ,nq,gk,wc,yL,yB,decide_true,decide_false,Int.reduceBEq,Int.reduceBNe,Int.reduceLT,Int.reduceLE,Int.reduceGT,Int.reduceGE,Int.reduceNeg,aaJ,bne_self_eq_false,ge_iff_le,gt_iff_lt]
section
variable {H:Hp}{p:Nat}{m:SM}{L:Lay}
theorem St.am1 (h:St H p m L):¬ qB L p/\¬ qB L L.dU/\∀ j∈aa L.cp,¬ qB L j:=by
 have dh:=h.nd
 unfold cB at dh
 rw[ab0,ab0,acd] at dh
 obtain⟨n1,n2,n3,n4,n5⟩:=dh
 refine⟨fun⟨y,hy,hj⟩=>n1 (.tail _ (No _ (adr.2 ⟨y,hy,hj⟩))),fun⟨y,hy,hj⟩=>n2 (No _ (adr.2 ⟨y,hy,hj⟩)),fun j hj ⟨y,hy,hk⟩=>n5 _ hj _ (adr.2 ⟨y,hy,hk⟩) rfl⟩
theorem St.aaa (h:St H p m L):p∉aa L.cp:=by
 have dh:=h.nd
 unfold cB at dh
 rw[ab0] at dh
 exact fun q=>dh.1 (.tail _ (aaz _ q))
theorem K2 (h:St H p m L):∀ n∈names m,(look m n).isSome=true:=by
 intro n hn
 unfold names at hn
 rw[KM] at hn
 obtain⟨f,hf,rfl⟩:=abn.1 hn
 unfold look
 rw[List.find?_isSome]
 exact⟨f,hf,by simp⟩
theorem Z6 (h:St H p m L){kv:AV}{kl:List Int}(hk:Rw H 1 kv (ints kl))(cE:∀ j∈aa kv,¬ qB L j) :
  ∃ H' L',cK (.func (.func 13) [] []) [.ptr p 0,kv] H=some (.tuple [],H')/\St H' p (oQ m kl) L'/\fC p H L H' L':=by
 have h2:=h.IA
 cases ho:m.off with
 | true=>
  rw[ho] at h2
  refine⟨H,L,Wh ?_,by unfold oQ;rw[if_pos ho];exact h,fC.refl _ _ _⟩
  unfold Iq
  simp only[h2,az,bd,aw,av,bG,aH,au,ak,aK,aA,aP,bK,aE,bO,bC,aR,bu,ay,bF,aT,aC,bq,aU,bI,bM,ba,aI,aW,aQ,ar,aV,a7,bS,aF,aO,bt,bJ,aN,aM,aD,bB,br,aY,bQ,bT,bk,bH,af,bp,ag,bP,ah,aB,aG,bw,bA,bR,aL,bN,bD,bo,aj,bh,bg,aq,ai,aS,a8,aZ,bE,aJ,nq,gk,wc,yL,yB,decide_true,decide_false,Int.reduceBEq,Int.reduceBNe,Int.reduceLT,Int.reduceLE,Int.reduceGT,Int.reduceGE,Int.reduceNeg,aaJ,bne_self_eq_false,ge_iff_le,gt_iff_lt]
 | false=>
  rw[ho] at h2
  obtain⟨x,H1,n1,n2,n3,n4,n5⟩:=Yi h
  have h1:=h.out n3 fun j _ q=>by cases q
  have bW:=h.lt
  have ie:(names m).length<=1000000:=by
   unfold names
   rw[Kw,acs]
   have:=h.ok.many;omega
  obtain⟨H2,L2,e1,e2,e3,e4⟩:=I6 (fun jn xL=>
    B1 (cg jn) fun DV=>
    B1 (fa 2 DV) fun vM=>
    B1 (st 1 vM (.bool true) xL) fun Ai=>
    B1 (cg jn) fun nY=>
    B1 (fa 3 nY) fun v124=>
    B1 (st 1 v124 (.int .i64 0) Ai) fun GC=>
    some (.tuple [],GC)) p x (names m) ie (names m) 0 H1 m L kv kl h1 n2 (fun j hj ⟨y,hy,q⟩=>by
     have:=n4 j hj
     have:=bW j (St.nf hy q);omega) (by simp) rfl (hk.out n3 fun j _ q=>by cases q) cE (K2 h)
  obtain⟨H3,a1,a2,a3,a4⟩:=e2.head.st (o:=2) (v := .bool true) (by simp) rfl
  obtain⟨H4,b1,b2,b3,b4⟩:=a2.st (o:=3) (v := .int .i64 ((0:Nat):Int)) (by simp) rfl
  have qf:Out [p] H2 H4:=a3.trans b3
  have gj:=e2.cp.out qf fun j hj q=>e2.aaa (by rw[yX.1 q] at hj;exact hj)
  obtain⟨q1,q2⟩:=e2.IZ (off:=true) (cq:=0) (cp:=L2.cp) (kl:=m.cp) b2 (by omega) qf (fun j hj => .inl (by simpa using hj)) gj (fun j hj => .inl hj) (tX _)
  have hgo:fC p H L H1 L:=⟨n3.mono (fun j hj=>by cases hj),fun j hj => .inl hj⟩
  refine⟨H4,L2,Wh ?_,?_,(hgo.trans e3).trans q2⟩
  ·unfold Iq
   have um:st 1 (.ptr p 3) (.int .i64 0) H3=some H4:=b1
   have yq:Dx JN GO cK (fun jn xL=>
    B1 (cg jn) fun DV=>
    B1 (fa 2 DV) fun vM=>
    B1 (st 1 vM (.bool true) xL) fun Ai=>
    B1 (cg jn) fun nY=>
    B1 (fa 3 nY) fun v124=>
    B1 (st 1 v124 (.int .i64 0) Ai) fun GC=>
    some (.tuple [],GC)) (.ptr p 0) kv x (.int .i64 (names m).length) (.int .i64 0) H1=some (.tuple [],H4):=by
    refine e1.trans ?_
    simp only[a1,um,az,bd,aw,av,bG,aH,au,ak,aK,aA,aP,bK,aE,bO,bC,aR,bu,ay,bF,aT,aC,bq,aU,bI,bM,ba,aI,aW,aQ,ar,aV,a7,bS,aF,aO,bt,bJ,aN,aM,aD,bB,br,aY,bQ,bT,bk,bH,af,bp,ag,bP,ah,aB,aG,bw,bA,bR,aL,bN,bD,bo,aj,bh,bg,aq,ai,aS,a8,aZ,bE,aJ,nq,gk,wc,yL,yB,decide_true,decide_false,Int.reduceBEq,Int.reduceBNe,Int.reduceLT,Int.reduceLE,Int.reduceGT,Int.reduceGE,Int.reduceNeg,aaJ,bne_self_eq_false,ge_iff_le,gt_iff_lt]
   simp only[h2,n1,n5,az,bd,aw,av,bG,aH,au,ak,aK,aA,aP,bK,aE,bO,bC,aR,bu,ay,bF,aT,aC,bq,aU,bI,bM,ba,aI,aW,aQ,ar,aV,a7,bS,aF,aO,bt,bJ,aN,aM,aD,bB,br,aY,bQ,bT,bk,bH,af,bp,ag,bP,ah,aB,aG,bw,bA,bR,aL,bN,bD,bo,aj,bh,bg,aq,ai,aS,a8,aZ,bE,aJ,nq,gk,wc,yL,yB,decide_true,decide_false,Int.reduceBEq,Int.reduceBNe,Int.reduceLT,Int.reduceLE,Int.reduceGT,Int.reduceGE,Int.reduceNeg,aaJ,bne_self_eq_false,ge_iff_le,gt_iff_lt]
   exact yq
  ·unfold oQ
   rw[if_neg (by rw[ho];simp)]
   exact q1
def eY (m:SM):Bool:=m.cq != 1
noncomputable def dt (m:SM):SM:=if m.cq=0 then m else if m.cq=1 then oQ { m with cq:=0 } m.cp else { m with cq:=m.cq-1 }
theorem Fo (h:St H p m L):∃ H' L',cK (.func (.func 45) [] []) [.ptr p 0] H=some (.bool (eY m),H')/\St H' p (dt m) L'/\fC p H L H' L'/\(eY m=true->L'=L/\Out [p] H H'/\(dt m).fs=m.fs/\(dt m).room=m.room/\(dt m).off=m.off/\(dt m).cp=m.cp):=by
 have h3:=h.akY
 by_cases h0:m.cq=0
 ·have hB:eY m=true:=by simp[eY,h0]
  refine⟨H,L,Tg ?_,by unfold dt;rw[if_pos h0];exact h,fC.refl _ _ _,fun _=>⟨rfl,Out.refl _ _,by unfold dt;rw[if_pos h0],by unfold dt;rw[if_pos h0],by unfold dt;rw[if_pos h0],by unfold dt;rw[if_pos h0]⟩⟩
  unfold Kk
  have:((m.cq:Int)==0)=true:=by rw[h0];rfl
  simp only[h3,this,hB,az,bd,aw,av,bG,aH,au,ak,aK,aA,aP,bK,aE,bO,bC,aR,bu,ay,bF,aT,aC,bq,aU,bI,bM,ba,aI,aW,aQ,ar,aV,a7,bS,aF,aO,bt,bJ,aN,aM,aD,bB,br,aY,bQ,bT,bk,bH,af,bp,ag,bP,ah,aB,aG,bw,bA,bR,aL,bN,bD,bo,aj,bh,bg,aq,ai,aS,a8,aZ,bE,aJ,nq,gk,wc,yL,yB,decide_true,decide_false,Int.reduceBEq,Int.reduceBNe,Int.reduceLT,Int.reduceLE,Int.reduceGT,Int.reduceGE,Int.reduceNeg,aaJ,bne_self_eq_false,ge_iff_le,gt_iff_lt]
 ·have hz:((m.cq:Int)==0)=false:=by simp;omega
  have hf:=h.ok.cq
  have hw:IntKind.wrap .i64 ((m.cq:Int)-1)=((m.cq-1:Nat):Int):=by rw[wrap_i64 (by omega) (by omega)];omega
  obtain⟨H1,a1,a2,a3,a4⟩:=h.head.st (o:=3) (v := .int .i64 ((m.cq-1:Nat):Int)) (by simp) rfl
  have mC:=h.cp.out a3 fun j hj q=>h.aaa (by rw[yX.1 q] at hj;exact hj)
  obtain⟨q1,q2⟩:=h.IZ (off:=m.off) (cq:=m.cq-1) (cp:=L.cp) (kl:=m.cp) a2 (by omega) a3 (fun j hj => .inl (by simpa using hj)) mC (fun j hj => .inl hj) (tX _)
  have OC:ld (.ptr p 3) H1=some (.int .i64 ((m.cq-1:Nat):Int)):=a2.ld (o:=3) rfl
  have akk:ld (.ptr p 4) H1=some L.cp:=a2.ld (o:=4) rfl
  by_cases h1:m.cq=1
  ·have hB:eY m=false:=by simp[eY,h1]
   have hn:decide ((0:Int)<((m.cq-1:Nat):Int))=false:=decide_eq_false (by omega)
   obtain⟨H2,L2,c1,c2,c3⟩:=Z6 q1 (kv:=L.cp) (kl:=m.cp) mC q1.am1.2.2
   refine⟨H2,L2,Tg ?_,?_,q2.trans c3,fun q=>by rw[hB] at q;cases q⟩
   ·unfold Kk
    simp only[h3,hz,hw,a1,OC,hn,akk,c1,hB,az,bd,aw,av,bG,aH,au,ak,aK,aA,aP,bK,aE,bO,bC,aR,bu,ay,bF,aT,aC,bq,aU,bI,bM,ba,aI,aW,aQ,ar,aV,a7,bS,aF,aO,bt,bJ,aN,aM,aD,bB,br,aY,bQ,bT,bk,bH,af,bp,ag,bP,ah,aB,aG,bw,bA,bR,aL,bN,bD,bo,aj,bh,bg,aq,ai,aS,a8,aZ,bE,aJ,nq,gk,wc,yL,yB,decide_true,decide_false,Int.reduceBEq,Int.reduceBNe,Int.reduceLT,Int.reduceLE,Int.reduceGT,Int.reduceGE,Int.reduceNeg,aaJ,bne_self_eq_false,ge_iff_le,gt_iff_lt]
   ·unfold dt
    rw[if_neg h0,if_pos h1]
    have:m.cq-1=0:=by omega
    rw[this] at c2;exact c2
  ·have hB:eY m=true:=by simp[eY,h1]
   have hn:decide ((0:Int)<((m.cq-1:Nat):Int))=true:=decide_eq_true (by omega)
   have zu:dt m={ m with cq:=m.cq-1 }:=by unfold dt;rw[if_neg h0,if_neg h1]
   refine⟨H1,L,Tg ?_,by rw[zu];exact q1,q2,fun _=>⟨rfl,a3,by rw[zu],by rw[zu],by rw[zu],by rw[zu]⟩⟩
   unfold Kk
   simp only[h3,hz,hw,a1,OC,hn,hB,az,bd,aw,av,bG,aH,au,ak,aK,aA,aP,bK,aE,bO,bC,aR,bu,ay,bF,aT,aC,bq,aU,bI,bM,ba,aI,aW,aQ,ar,aV,a7,bS,aF,aO,bt,bJ,aN,aM,aD,bB,br,aY,bQ,bT,bk,bH,af,bp,ag,bP,ah,aB,aG,bw,bA,bR,aL,bN,bD,bo,aj,bh,bg,aq,ai,aS,a8,aZ,bE,aJ,nq,gk,wc,yL,yB,decide_true,decide_false,Int.reduceBEq,Int.reduceBNe,Int.reduceLT,Int.reduceLE,Int.reduceGT,Int.reduceGE,Int.reduceNeg,aaJ,bne_self_eq_false,ge_iff_le,gt_iff_lt]
noncomputable def iV (m:SM)(at':List Nat):Int × SM:=if cw m at'≠0 then (cw m at',m) else if eY m=false then (11,dt m) else
 (0,{ dt m with fs:=match look m at' with | some f=>fM at' ⟨f.nm,f.b,f.b.length⟩ m.fs | none=>m.fs })
theorem Kv {m:SM}{at':List Nat}(he:cw m at'≠0):(cw m at' != 0)=true:=by simpa using he
theorem Yw (h:St H p m L)(at':List Nat):∃ H' L',cK (.func (.func 34) [] []) [.ptr p 0,.str at'] H=some (.int .i64 (iV m at').1,H')/\St H' p (iV m at').2 L'/\fC p H L H' L':=by
 have h0:=uW h at'
 by_cases he:cw m at'=0
 ·obtain⟨q1,q2,a,x,b,r1,r2,r3,r4,r5,r6,hx,hf⟩:=h.BF he
  obtain⟨H1,L1,b1,b2,b3,b4⟩:=Fo h
  cases hB:eY m with
  | false=>
   have:iV m at'=(11,dt m):=by unfold iV;rw[if_neg (by simp[he]),if_pos hB]
   rw[this]
   refine⟨H1,L1,RF ?_,b2,b3⟩
   unfold K5
   simp only[h0,he,q1,q2,b1,hB,abP,afd,or_self,if_false,az,bd,aw,av,bG,aH,au,ak,aK,aA,aP,bK,aE,bO,bC,aR,bu,ay,bF,aT,aC,bq,aU,bI,bM,ba,aI,aW,aQ,ar,aV,a7,bS,aF,aO,bt,bJ,aN,aM,aD,bB,br,aY,bQ,bT,bk,bH,af,bp,ag,bP,ah,aB,aG,bw,bA,bR,aL,bN,bD,bo,aj,bh,bg,aq,ai,aS,a8,aZ,bE,aJ,nq,gk,wc,yL,yB,decide_true,decide_false,Int.reduceBEq,Int.reduceBNe,Int.reduceLT,Int.reduceLE,Int.reduceGT,Int.reduceGE,Int.reduceNeg,aaJ,bne_self_eq_false,ge_iff_le,gt_iff_lt]
  | true=>
   obtain⟨e1,e2,e3,e4,e5,e6⟩:=b4 hB
   rw[e1] at b2 b3
   obtain⟨ki,pL⟩:=b2.file x hx
   have hl:=ki.ld (o:=0) rfl
   have hlen:=pL.rw.il
   rw[gu] at hlen
   obtain⟨H2,c1,c2,c3,c4⟩:=ZM (t:=(x.f.b.length:Int)) ki pL (b2.T3 hx)
   have je:=b2.Lb (f:=⟨x.f.nm,x.f.b,x.f.b.length⟩) r1 (by rw[r2];exact r3) (by rw[r2];exact r4) rfl c3 (fun j hj=>by rw[yX.1 hj];exact .head _) c2 c4 (fun j hj => .inl hj) (tX _) (zf _) (h.ok.byte x.f hf) (by
    have:=b2.K7 r1 (by rw[r2];exact r3) (by rw[r2];exact r4) ⟨x.f.nm,x.f.b,x.f.b.length⟩
    have:=b2.ok.sum
    simp only at *;omega)
   obtain⟨s1,s2⟩:=je
   have:iV m at'=(0,{ dt m with fs:=fM x.f.nm ⟨x.f.nm,x.f.b,x.f.b.length⟩ (dt m).fs }):=by
    unfold iV;rw[if_neg (by simp[he]),if_neg (by simp[hB]),r6,<-r2,e3]
   rw[this]
   refine⟨H2,_,RF ?_,s1,b3.trans s2⟩
   unfold K5
   simp only[h0,he,q1,q2,b1,hB,r5,hl,hlen,c1,abP,afd,or_self,if_false,az,bd,aw,av,bG,aH,au,ak,aK,aA,aP,bK,aE,bO,bC,aR,bu,ay,bF,aT,aC,bq,aU,bI,bM,ba,aI,aW,aQ,ar,aV,a7,bS,aF,aO,bt,bJ,aN,aM,aD,bB,br,aY,bQ,bT,bk,bH,af,bp,ag,bP,ah,aB,aG,bw,bA,bR,aL,bN,bD,bo,aj,bh,bg,aq,ai,aS,a8,aZ,bE,aJ,nq,gk,wc,yL,yB,decide_true,decide_false,Int.reduceBEq,Int.reduceBNe,Int.reduceLT,Int.reduceLE,Int.reduceGT,Int.reduceGE,Int.reduceNeg,aaJ,bne_self_eq_false,ge_iff_le,gt_iff_lt]
 ·have:iV m at'=(cw m at',m):=by unfold iV;rw[if_pos he]
  rw[this]
  refine⟨H,L,RF ?_,h,fC.refl _ _ _⟩
  unfold K5
  simp only[h0,Kv he,az,bd,aw,av,bG,aH,au,ak,aK,aA,aP,bK,aE,bO,bC,aR,bu,ay,bF,aT,aC,bq,aU,bI,bM,ba,aI,aW,aQ,ar,aV,a7,bS,aF,aO,bt,bJ,aN,aM,aD,bB,br,aY,bQ,bT,bk,bH,af,bp,ag,bP,ah,aB,aG,bw,bA,bR,aL,bN,bD,bo,aj,bh,bg,aq,ai,aS,a8,aZ,bE,aJ,nq,gk,wc,yL,yB,decide_true,decide_false,Int.reduceBEq,Int.reduceBNe,Int.reduceLT,Int.reduceLE,Int.reduceGT,Int.reduceGE,Int.reduceNeg,aaJ,bne_self_eq_false,ge_iff_le,gt_iff_lt]
end
theorem Cx (c:Nat)(x:ME)(es:List ME)(p:Nat):ou c (x::es) p=true↔p<=x.born/\x.born<c/\ou c es (x.born+1)=true:=by
 show F.lW (Nat.ble p x.born) (F.lW (Nat.blt x.born c) (ou c es (x.born+1)))=true↔_
 rw[F.pA,F.pA,aaK,aaK,acN,acY]
theorem aeo (c:Nat):∀ (es:List ME) (p q:Nat),q<=p->ou c es p=true->ou c es q=true
 | [],p,q,h,_=>rfl
 | x::es,p,q,h,hi=>by
  rw[Cx] at hi ⊢
  exact⟨by omega,hi.2⟩
theorem ZL (c:Nat)(x:ME)(b:List ME):∀ (a:List ME) (p:Nat),ou c (a++x::b) p=true->ou c (a++b) p=true
 | [],p,h=>by
  rw[adt,Cx] at h
  exact aeo c b _ _ (by omega) h.2.2
 | y::a,p,h=>by
  rw[aew,Cx] at h ⊢
  exact⟨h.1,h.2.1,ZL c x b a _ h.2.2⟩
theorem Y6 (c:Nat)(x:ME)(hx:x.born=c):∀ (a:List ME) (p:Nat),p<=c->ou c a p=true->ou (c+1) (a++[x]) p=true
 | [],p,hp,h=>by
  rw[adt,Cx]
  exact⟨by omega,by omega,rfl⟩
 | y::a,p,hp,h=>by
  rw[Cx] at h
  rw[aew,Cx]
  exact⟨h.1,by omega,Y6 c x hx a _ (by omega) h.2.2⟩
def ri (n:List Nat)(fs:List Fl):List Fl:=fs.filter fun f => !(f.nm==n)
theorem als {a b:List FC}{x:FC}{n:List Nat}(hx:x.f.nm=n)(ha:∀ y∈a,y.f.nm≠n)(hb:∀ y∈b,y.f.nm≠n):ri n ((a++x::b).map (·.f))=(a++b).map (·.f):=by
 unfold ri
 rw[abz,abc,List.filter_append,List.filter_cons]
 have h1:(!(x.f.nm==n))=false:=by rw[hx];simp
 have hf:∀ l:List FC,(∀ y∈l,y.f.nm≠n)->(l.map (·.f)).filter (fun f => !(f.nm==n))=l.map (·.f):=fun l hl=>List.filter_eq_self.2 fun f hf=>by
  obtain⟨y,hy,rfl⟩:=abn.1 hf
  simpa using hl y hy
 rw[h1,hf a ha,hf b hb,abz]
 simp
section
variable {H:Hp}{p:Nat}{m:SM}{L:Lay}
theorem St.abW (h:St H p m L):p≠L.dU/\L.dU∉aa L.cp/\∀ y∈L.cs,L.dU∉y.ids:=by
 have dh:=h.nd
 unfold cB at dh
 rw[ab0,ab0] at dh
 exact⟨fun q=>dh.1 (by rw[q];exact .head _),fun q=>dh.2.1 (aaz _ q),fun y hy q=>dh.2.1 (No _ (adr.2 ⟨y,hy,q⟩))⟩
theorem St.Yp {H':Hp}(h:St H p m L)(ho:Out [L.dU] H H'):C0 H' p [.int .i64 m.room,.map L.dU,.bool m.off,.int .i64 m.cq,L.cp]/\Rw H' 1 L.cp (ints m.cp)/\
  ∀ x∈L.cs,C0 H' x.id [x.sl,.int .i64 x.f.sure]/\Ow H' 5 1 x.sl (bs x.f.b):=by
 obtain⟨n1,n2,n3⟩:=h.abW
 have e:∀ j,j≠L.dU->j∉[L.dU]:=fun j hj q=>hj (yX.1 q)
 exact⟨h.head.out ho (e _ n1),h.cp.out ho fun j hj=>e _ fun q=>n2 (q▸hj),fun x hx=>⟨(h.file x hx).1.out ho (e _ fun q=>n3 x hx (q ▸ .head _)),(h.file x hx).2.out ho fun j hj=>e _ fun q=>n3 x hx (q ▸ .tail _ hj)⟩⟩
theorem St.aba (h:St H p m L){a b:List FC}{x:FC}(hL:L.cs=a++x::b)(ha:∀ y∈a,y.f.nm≠x.f.nm)(hb:∀ y∈b,y.f.nm≠x.f.nm) :
  ∃ H',AX .str (.map L.dU) (.str x.f.nm) H=some H'/\St H' p { m with fs:=ri x.f.nm m.fs } { L with cs:=a++b }/\fC p H L H' { L with cs:=a++b }/\
   C0 H' x.id [x.sl,.int .i64 x.f.sure]/\Ow H' 5 1 x.sl (bs x.f.b)/\(∀ j∈x.ids,j∉cB p { L with cs:=a++b })/\x.ids.Nodup:=by
 have hm:=h.map
 rw[hL,abz,abc] at hm
 obtain⟨H',d1,d2,d3⟩:=YO hm (k:=x.f.nm) rfl (xW ha) (xW hb)
 obtain⟨c1,c2,c3⟩:=h.Yp d3
 have gP:ri x.f.nm m.fs=(a++b).map (·.f):=by rw[h.fs,hL,als rfl ha hb]
 have yA:∀ f∈ri x.f.nm m.fs,f∈m.fs:=fun f hf=>(List.mem_filter.1 hf).1
 have Db:x∈L.cs:=by rw[hL];simp
 have mem:∀ y∈a++b,y∈L.cs:=fun y hy=>by
  rw[hL]
  rcases aac.1 hy with q | q
  ·exact aaz _ q
  ·exact No _ (.tail _ q)
 have dh:=h.nd
 unfold cB at dh
 rw[hL,afS,aeY,ab0,ab0,acd,acd,acd] at dh
 obtain⟨n1,n2,n3,⟨n4,⟨n5,n6,n7⟩,n8⟩,n9⟩:=dh
 have vI:gy (ri x.f.nm m.fs)<=gy m.fs:=by
  rw[gP,h.fs,hL,abz,abz,abc,CO,CO,Gh];omega
 refine⟨H',d1,⟨c1,by rw[abz];exact d2,fun y hy=>c3 y (mem y hy),c2,?_,?_,gP,⟨h.ok.room,abl vI h.ok.sum,fun f hf=>h.ok.sure f (yA f hf),fun f hf=>h.ok.byte f (yA f hf),h.ok.cq,?_,fun f hf=>h.ok.qD f (yA f hf),?_⟩⟩,
  ⟨d3.mono fun j hj=>by rw[yX.1 hj];exact St.mD,fun j hj => .inl ?_⟩,(c3 x Db).1,(c3 x Db).2,?_,n5⟩
 ·unfold cB
  rw[afS,ab0,ab0,acd,acd]
  refine⟨fun q => ?_,fun q => ?_,n3,⟨n4,n6,fun j hj k hk=>n8 j hj k (No _ hk)⟩,fun j hj k hk => ?_⟩
  ·rcases aap.1 q with q | q
   ·exact n1 (by rw[q];exact .head _)
   rcases aac.1 q with q | q
   ·exact n1 (.tail _ (aaz _ q))
   rcases aac.1 q with q | q
   ·exact n1 (.tail _ (No _ (aaz _ q)))
   ·exact n1 (.tail _ (No _ (No _ (No _ q))))
  ·rcases aac.1 q with q | q
   ·exact n2 (aaz _ q)
   rcases aac.1 q with q | q
   ·exact n2 (No _ (aaz _ q))
   ·exact n2 (No _ (No _ (No _ q)))
  ·rcases aac.1 hk with q | q
   ·exact n9 j hj k (aaz _ q)
   ·exact n9 j hj k (No _ (No _ q))
 ·have gU:=h.born
  rw[hL,abz,abc] at gU
  rw[abz]
  exact ZL _ _ _ _ _ gU
 ·exact List.Nodup.sublist ((List.filter_sublist).map _) h.ok.names
 ·exact abl (List.length_filter_le _ _) h.ok.many
 ·unfold cB at hj
  rcases aap.1 hj with rfl | hj
  ·exact St.mQ
  rcases aap.1 hj with rfl | hj
  ·exact St.mD
  rcases aac.1 hj with hj | hj
  ·exact St.wP hj
  ·obtain⟨y,hy,hj⟩:=adr.1 hj
   exact St.nf (mem y hy) hj
 ·intro j hj q
  have gG:j∈FC.ids x:=hj
  unfold cB at q
  rcases aap.1 q with q | q
  ·exact n1 (.tail _ (No _ (No _ (aaz _ (q▸gG)))))
  rcases aap.1 q with q | q
  ·exact n2 (No _ (No _ (aaz _ (q▸gG))))
  rcases aac.1 q with q | q
  ·exact n9 j q j (No _ (aaz _ gG)) rfl
  ·rw[afS] at q
   rcases aac.1 q with q | q
   ·exact n8 j q j (aaz _ gG) rfl
   ·exact n7 j gG j q rfl
theorem St.ab9 (h:St H p m L){id:Nat}{sl:AV}{f:Fl}(cx:∀ y∈L.cs,y.f.nm≠f.nm)(hc:C0 H id [sl,.int .i64 f.sure])(hw:Ow H 5 1 sl (bs f.b))(hd:∀ j∈FC.ids ⟨id,sl,L.iC,f⟩,j∉cB p L)(dh:(FC.ids ⟨id,sl,L.iC,f⟩).Nodup)
  (qN:f.sure<=f.b.length) (Lz:∀ c∈f.b,c<256) (vI:gy m.fs+f.b.length<=m.room) (PA:jB f.nm=true) (Jw:m.fs.length<64) :
  ∃ H',xH .str (.map L.dU) (.str f.nm) (.ptr id 0) H=some H'/\St H' p { m with fs:=m.fs++[f] } { L with cs:=L.cs++[⟨id,sl,L.iC,f⟩],iC:=L.iC+1 }/\Out [L.dU] H H':=by
 obtain⟨H',d1,d2,d3⟩:=ajX h.map (xW cx) (.ptr id 0)
 obtain⟨c1,c2,c3⟩:=h.Yp d3
 have CW:∀ j∈FC.ids ⟨id,sl,L.iC,f⟩,j∉[L.dU]:=fun j hj q=>hd j hj (by rw[yX.1 q];exact St.mD)
 refine⟨H',d1,⟨c1,by rw[abz];exact d2,fun y hy => ?_,c2,?_,?_,by rw[abz,<-h.fs];rfl,⟨h.ok.room,by rw[CO,Gh];exact vI,fun g hg => ?_,fun g hg => ?_,h.ok.cq,?_,fun g hg => ?_,by rw[aaO];simp;omega⟩⟩,d3⟩
 ·rcases aac.1 hy with q | q
  ·exact c3 y q
  ·rw[yX.1 q]
   exact⟨hc.out d3 (CW _ (.head _)),hw.out d3 fun j hj=>CW j (.tail _ hj)⟩
 ·have hn:=h.nd
  unfold cB at hn ⊢
  rw[ab0,ab0,acd] at hn
  rw[afS,ab0,ab0,acd,acd]
  have e:List.flatMap FC.ids [(⟨id,sl,L.iC,f⟩:FC)]=FC.ids ⟨id,sl,L.iC,f⟩:=by simp
  rw[e]
  obtain⟨n1,n2,n3,n4,n5⟩:=hn
  refine⟨fun q => ?_,fun q => ?_,n3,⟨n4,dh,fun j hj k hk ek=>hd k hk ?_⟩,fun j hj k hk => ?_⟩
  ·rcases aap.1 q with q | q
   ·exact n1 (by rw[q];exact .head _)
   rcases aac.1 q with q | q
   ·exact n1 (.tail _ (aaz _ q))
   rcases aac.1 q with q | q
   ·exact n1 (.tail _ (No _ q))
   ·exact hd _ q St.mQ
  ·rcases aac.1 q with q | q
   ·exact n2 (aaz _ q)
   rcases aac.1 q with q | q
   ·exact n2 (No _ q)
   ·exact hd _ q St.mD
  ·obtain⟨y,hy,hj⟩:=adr.1 hj
   rw[<-ek];exact St.nf hy hj
  ·rcases aac.1 hk with q | q
   ·exact n5 j hj k q
   ·exact fun ek=>hd k q (by rw[<-ek];exact St.wP hj)
 ·have gU:=h.born
  rw[abz]
  exact Y6 L.iC (FC.me ⟨id,sl,L.iC,f⟩) rfl _ _ (ack _) gU
 ·rcases aac.1 hg with q | q
  ·exact h.ok.sure g q
  ·rw[yX.1 q];exact qN
 ·rcases aac.1 hg with q | q
  ·exact h.ok.byte g q
  ·rw[yX.1 q];exact Lz
 ·rw[abz,acd]
  refine⟨h.ok.names,by simp,fun n hn k hk => ?_⟩
  obtain⟨g,hg,rfl⟩:=abn.1 hn
  rw[h.fs] at hg
  obtain⟨y,hy,rfl⟩:=abn.1 hg
  simp only[abc,ag6,yX] at hk
  rw[hk];exact cx y hy
 ·rcases aac.1 hg with q | q
  ·exact h.ok.qD g q
  ·rw[yX.1 q];exact PA
end
section
variable {H:Hp}{p:Nat}{m:SM}{L:Lay}
noncomputable def gT (m:SM)(at':List Nat)(n:Int):Int × SM:=if cw m at'≠0 then (cw m at',m) else match look m at' with
 | none=>(0,m)
 | some f=>if n<0\/(f.b.length:Int)<n then (1,m) else if eY m=false then (11,dt m) else (0,{ dt m with fs:=fM at' ⟨f.nm,f.b.take n.toNat,min f.sure n.toNat⟩ m.fs })
theorem vS (h:St H p m L)(at':List Nat)(n:Int):∃ H' L',cK (.func (.func 31) [] []) [.ptr p 0,.str at',.int .i64 n] H=some (.int .i64 (gT m at' n).1,H')/\St H' p (gT m at' n).2 L'/\fC p H L H' L':=by
 have h0:=uW h at'
 by_cases he:cw m at'=0
 ·obtain⟨q1,q2,a,x,b,r1,r2,r3,r4,r5,r6,hx,hf⟩:=h.BF he
  obtain⟨ki,pL⟩:=h.file x hx
  have hl:=ki.ld (o:=0) rfl
  have hlen:=pL.rw.il
  rw[gu] at hlen
  have kD:x.f.b.length<=16777216:=by
   have:=Ie hf;have:=h.ok.sum;have:=h.ok.room;omega
  by_cases hn:n<0
  ·have:gT m at' n=(1,m):=by unfold gT;rw[if_neg (by simp[he]),r6];simp only;rw[if_pos (.inl hn)]
   rw[this]
   refine⟨H,L,Fq ?_,h,fC.refl _ _ _⟩
   unfold yJ
   have d1:decide (n<0)=true:=decide_eq_true hn
   simp only[h0,he,q1,q2,d1,abP,afd,or_self,if_false,az,bd,aw,av,bG,aH,au,ak,aK,aA,aP,bK,aE,bO,bC,aR,bu,ay,bF,aT,aC,bq,aU,bI,bM,ba,aI,aW,aQ,ar,aV,a7,bS,aF,aO,bt,bJ,aN,aM,aD,bB,br,aY,bQ,bT,bk,bH,af,bp,ag,bP,ah,aB,aG,bw,bA,bR,aL,bN,bD,bo,aj,bh,bg,aq,ai,aS,a8,aZ,bE,aJ,nq,gk,wc,yL,yB,decide_true,decide_false,Int.reduceBEq,Int.reduceBNe,Int.reduceLT,Int.reduceLE,Int.reduceGT,Int.reduceGE,Int.reduceNeg,aaJ,bne_self_eq_false,ge_iff_le,gt_iff_lt]
  ·have d1:decide (n<0)=false:=decide_eq_false hn
   by_cases rU:(x.f.b.length:Int)<n
   ·have:gT m at' n=(1,m):=by unfold gT;rw[if_neg (by simp[he]),r6];simp only;rw[if_pos (.inr rU)]
    rw[this]
    refine⟨H,L,Fq ?_,h,fC.refl _ _ _⟩
    unfold yJ
    have d2:decide ((x.f.b.length:Int)<n)=true:=decide_eq_true rU
    simp only[h0,he,q1,q2,d1,d2,r5,hl,hlen,abP,afd,or_self,if_false,az,bd,aw,av,bG,aH,au,ak,aK,aA,aP,bK,aE,bO,bC,aR,bu,ay,bF,aT,aC,bq,aU,bI,bM,ba,aI,aW,aQ,ar,aV,a7,bS,aF,aO,bt,bJ,aN,aM,aD,bB,br,aY,bQ,bT,bk,bH,af,bp,ag,bP,ah,aB,aG,bw,bA,bR,aL,bN,bD,bo,aj,bh,bg,aq,ai,aS,a8,aZ,bE,aJ,nq,gk,wc,yL,yB,decide_true,decide_false,Int.reduceBEq,Int.reduceBNe,Int.reduceLT,Int.reduceLE,Int.reduceGT,Int.reduceGE,Int.reduceNeg,aaJ,bne_self_eq_false,ge_iff_le,gt_iff_lt]
   ·have d2:decide ((x.f.b.length:Int)<n)=false:=decide_eq_false rU
    obtain⟨H1,L1,b1,b2,b3,b4⟩:=Fo h
    have qJ:gT m at' n=if eY m=false then (11,dt m) else (0,{ dt m with fs:=fM at' ⟨x.f.nm,x.f.b.take n.toNat,min x.f.sure n.toNat⟩ m.fs }):=by
     unfold gT;rw[if_neg (by simp[he]),r6];simp only;rw[if_neg (by omega)]
    cases hB:eY m with
    | false=>
     rw[qJ,if_pos hB]
     refine⟨H1,L1,Fq ?_,b2,b3⟩
     unfold yJ
     simp only[h0,he,q1,q2,d1,d2,r5,hl,hlen,b1,hB,abP,afd,or_self,if_false,az,bd,aw,av,bG,aH,au,ak,aK,aA,aP,bK,aE,bO,bC,aR,bu,ay,bF,aT,aC,bq,aU,bI,bM,ba,aI,aW,aQ,ar,aV,a7,bS,aF,aO,bt,bJ,aN,aM,aD,bB,br,aY,bQ,bT,bk,bH,af,bp,ag,bP,ah,aB,aG,bw,bA,bR,aL,bN,bD,bo,aj,bh,bg,aq,ai,aS,a8,aZ,bE,aJ,nq,gk,wc,yL,yB,decide_true,decide_false,Int.reduceBEq,Int.reduceBNe,Int.reduceLT,Int.reduceLE,Int.reduceGT,Int.reduceGE,Int.reduceNeg,aaJ,bne_self_eq_false,ge_iff_le,gt_iff_lt]
    | true=>
     rw[qJ,if_neg (by simp[hB])]
     obtain⟨e1,e2,e3,e4,e5,e6⟩:=b4 hB
     rw[e1] at b2 b3
     obtain⟨N,rfl⟩:=Int.eq_ofNat_of_zero_le (show 0<=n by omega)
     obtain⟨Fh,Di⟩:=b2.file x hx
     have pZ:=Fh.ld (o:=0) rfl
     obtain⟨sl,H2,H3,L3,c1,c2,c3,VB,c4,c5,c6,c7,c8,c9,c10,Kn⟩:=b2.cut r1 (by rw[r2];exact r3) (by rw[r2];exact r4) (n:=N) (s:=min x.f.sure N) (by omega) (by omega)
     have amG:(if (N:Int)<(x.f.sure:Int) then (N:Int) else (x.f.sure:Int))=((min x.f.sure N:Nat):Int):=by split<;>omega
     refine⟨H3,L3,Fq ?_,?_,b3.trans c7⟩
     ·unfold yJ
      simp only[h0,he,q1,q2,d1,d2,r5,hl,hlen,b1,hB,pZ,c1,c2,c3,VB,c4,Jl,amG,c5,abP,afd,or_self,if_false,az,bd,aw,av,bG,aH,au,ak,aK,aA,aP,bK,aE,bO,bC,aR,bu,ay,bF,aT,aC,bq,aU,bI,bM,ba,aI,aW,aQ,ar,aV,a7,bS,aF,aO,bt,bJ,aN,aM,aD,bB,br,aY,bQ,bT,bk,bH,af,bp,ag,bP,ah,aB,aG,bw,bA,bR,aL,bN,bD,bo,aj,bh,bg,aq,ai,aS,a8,aZ,bE,aJ,nq,gk,wc,yL,yB,decide_true,decide_false,Int.reduceBEq,Int.reduceBNe,Int.reduceLT,Int.reduceLE,Int.reduceGT,Int.reduceGE,Int.reduceNeg,aaJ,bne_self_eq_false,ge_iff_le,gt_iff_lt]
     ·rw[e3,r2] at c6
      rw[aeV,r2];exact c6
 ·have:gT m at' n=(cw m at',m):=by unfold gT;rw[if_pos he]
  rw[this]
  refine⟨H,L,Fq ?_,h,fC.refl _ _ _⟩
  unfold yJ
  simp only[h0,Kv he,az,bd,aw,av,bG,aH,au,ak,aK,aA,aP,bK,aE,bO,bC,aR,bu,ay,bF,aT,aC,bq,aU,bI,bM,ba,aI,aW,aQ,ar,aV,a7,bS,aF,aO,bt,bJ,aN,aM,aD,bB,br,aY,bQ,bT,bk,bH,af,bp,ag,bP,ah,aB,aG,bw,bA,bR,aL,bN,bD,bo,aj,bh,bg,aq,ai,aS,a8,aZ,bE,aJ,nq,gk,wc,yL,yB,decide_true,decide_false,Int.reduceBEq,Int.reduceBNe,Int.reduceLT,Int.reduceLE,Int.reduceGT,Int.reduceGE,Int.reduceNeg,aaJ,bne_self_eq_false,ge_iff_le,gt_iff_lt]
noncomputable def eK (m:SM)(at':List Nat):Int × SM:=if cw m at'≠0 then (cw m at',m) else if eY m=false then (11,dt m) else (0,{ dt m with fs:=ri at' m.fs })
theorem amq (h:St H p m L)(at':List Nat):∃ H' L',cK (.func (.func 32) [] []) [.ptr p 0,.str at'] H=some (.int .i64 (eK m at').1,H')/\St H' p (eK m at').2 L'/\fC p H L H' L':=by
 have h0:=uW h at'
 by_cases he:cw m at'=0
 ·obtain⟨q1,q2,a,x,b,r1,r2,r3,r4,r5,r6,hx,hf⟩:=h.BF he
  obtain⟨H1,L1,b1,b2,b3,b4⟩:=Fo h
  cases hB:eY m with
  | false=>
   have:eK m at'=(11,dt m):=by unfold eK;rw[if_neg (by simp[he]),if_pos hB]
   rw[this]
   refine⟨H1,L1,Gu ?_,b2,b3⟩
   unfold Co
   simp only[h0,he,q1,q2,b1,hB,abP,afd,or_self,if_false,az,bd,aw,av,bG,aH,au,ak,aK,aA,aP,bK,aE,bO,bC,aR,bu,ay,bF,aT,aC,bq,aU,bI,bM,ba,aI,aW,aQ,ar,aV,a7,bS,aF,aO,bt,bJ,aN,aM,aD,bB,br,aY,bQ,bT,bk,bH,af,bp,ag,bP,ah,aB,aG,bw,bA,bR,aL,bN,bD,bo,aj,bh,bg,aq,ai,aS,a8,aZ,bE,aJ,nq,gk,wc,yL,yB,decide_true,decide_false,Int.reduceBEq,Int.reduceBNe,Int.reduceLT,Int.reduceLE,Int.reduceGT,Int.reduceGE,Int.reduceNeg,aaJ,bne_self_eq_false,ge_iff_le,gt_iff_lt]
  | true=>
   obtain⟨e1,e2,e3,e4,e5,e6⟩:=b4 hB
   rw[e1] at b2 b3
   have D4:=b2.Ae
   obtain⟨H2,d1,d2,d3,d4,d5,d6,d7⟩:=b2.aba r1 (by rw[r2];exact r3) (by rw[r2];exact r4)
   rw[r2] at d1 d2
   rw[e3] at d2
   have:eK m at'=(0,{ dt m with fs:=ri at' m.fs }):=by unfold eK;rw[if_neg (by simp[he]),if_neg (by simp[hB])]
   rw[this]
   refine⟨H2,_,Gu ?_,d2,b3.trans d3⟩
   unfold Co
   simp only[h0,he,q1,q2,b1,hB,D4,d1,abP,afd,or_self,if_false,az,bd,aw,av,bG,aH,au,ak,aK,aA,aP,bK,aE,bO,bC,aR,bu,ay,bF,aT,aC,bq,aU,bI,bM,ba,aI,aW,aQ,ar,aV,a7,bS,aF,aO,bt,bJ,aN,aM,aD,bB,br,aY,bQ,bT,bk,bH,af,bp,ag,bP,ah,aB,aG,bw,bA,bR,aL,bN,bD,bo,aj,bh,bg,aq,ai,aS,a8,aZ,bE,aJ,nq,gk,wc,yL,yB,decide_true,decide_false,Int.reduceBEq,Int.reduceBNe,Int.reduceLT,Int.reduceLE,Int.reduceGT,Int.reduceGE,Int.reduceNeg,aaJ,bne_self_eq_false,ge_iff_le,gt_iff_lt]
 ·have:eK m at'=(cw m at',m):=by unfold eK;rw[if_pos he]
  rw[this]
  refine⟨H,L,Gu ?_,h,fC.refl _ _ _⟩
  unfold Co
  simp only[h0,Kv he,az,bd,aw,av,bG,aH,au,ak,aK,aA,aP,bK,aE,bO,bC,aR,bu,ay,bF,aT,aC,bq,aU,bI,bM,ba,aI,aW,aQ,ar,aV,a7,bS,aF,aO,bt,bJ,aN,aM,aD,bB,br,aY,bQ,bT,bk,bH,af,bp,ag,bP,ah,aB,aG,bw,bA,bR,aL,bN,bD,bo,aj,bh,bg,aq,ai,aS,a8,aZ,bE,aJ,nq,gk,wc,yL,yB,decide_true,decide_false,Int.reduceBEq,Int.reduceBNe,Int.reduceLT,Int.reduceLE,Int.reduceGT,Int.reduceGE,Int.reduceNeg,aaJ,bne_self_eq_false,ge_iff_le,gt_iff_lt]
noncomputable def ff (m:SM)(at':List Nat)(b:List Nat):Int × SM:=if cw m at'≠0/\cw m at'≠4 then (cw m at',m) else
 if (m.room:Int)-gy m.fs<b.length\/((look m at').isNone=true/\64<=m.fs.length) then (6,m) else if eY m=false then (11,dt m) else
 (0,{ dt m with fs:=match look m at' with | some f=>fM at' ⟨f.nm,f.b++b,f.sure⟩ m.fs | none=>m.fs++[⟨at',b,0⟩] })
theorem aa0 (h:St H p m L)(at':List Nat){y:AV}{b:List Nat}(hy:Rw H 1 y (bs b))(hb:∀ c∈b,c<256)(my:∀ j∈aa y,j∉cB p L) :
  ∃ H' L',cK (.func (.func 27) [] []) [.ptr p 0,.str at',y] H=some (.int .i64 (ff m at' b).1,H')/\St H' p (ff m at' b).2 L'/\fC p H L H' L':=by
 have h0:=uW h at'
 have rJ:=adU h
 have xU:=hy.il
 rw[gu] at xU
 have yE:=h.ok.room
 have vI:=h.ok.sum
 have I1:=alM h.map
 have Qq:=h.Ae
 have dP:(L.cs.map FC.me).length=m.fs.length:=by rw[h.fs,acs,acs]
 rw[dP] at I1
 by_cases jP:cw m at'≠0/\cw m at'≠4
 ·have:ff m at' b=(cw m at',m):=by unfold ff;rw[if_pos jP]
  rw[this]
  refine⟨H,L,Ab ?_,h,fC.refl _ _ _⟩
  unfold vR
  have d1:(cw m at' != 0)=true:=by simpa using jP.1
  have d2:(cw m at' != 4)=true:=by simpa using jP.2
  simp only[h0,d1,d2,az,bd,aw,av,bG,aH,au,ak,aK,aA,aP,bK,aE,bO,bC,aR,bu,ay,bF,aT,aC,bq,aU,bI,bM,ba,aI,aW,aQ,ar,aV,a7,bS,aF,aO,bt,bJ,aN,aM,aD,bB,br,aY,bQ,bT,bk,bH,af,bp,ag,bP,ah,aB,aG,bw,bA,bR,aL,bN,bD,bo,aj,bh,bg,aq,ai,aS,a8,aZ,bE,aJ,nq,gk,wc,yL,yB,decide_true,decide_false,Int.reduceBEq,Int.reduceBNe,Int.reduceLT,Int.reduceLE,Int.reduceGT,Int.reduceGE,Int.reduceNeg,aaJ,bne_self_eq_false,ge_iff_le,gt_iff_lt]
 ·have Rx:(cw m at'=0/\m.off=false/\jB at'=true/\∃ a x c,L.cs=a++x::c/\x.f.nm=at'/\(∀ y∈a,y.f.nm≠at')/\(∀ y∈c,y.f.nm≠at')/\fp L at' = .ptr x.id 0/\look m at'=some x.f/\x∈L.cs/\x.f∈m.fs)\/
    (cw m at'=4/\m.off=false/\jB at'=true/\look m at'=none/\fp L at' = .cD/\∀ y∈L.cs,y.f.nm≠at'):=by
   rcases Zf m at' with⟨q,_⟩ | ⟨q,_⟩ | ⟨q,q1,q2,q3⟩ | ⟨q,_⟩
   ·rw[q] at jP;simp at jP
   ·rw[q] at jP;simp at jP
   ·rcases h.HM at' with⟨r1,r2,r3⟩ | ⟨a,x,c,r1,r2,r3,r4,r5,r6⟩
    ·exact .inr ⟨q,q1,q2,q3,r1,r3⟩
    ·rw[q3] at r6;cases r6
   ·obtain⟨q1,q2,r⟩:=h.BF q
    exact .inl ⟨q,q1,q2,r⟩
  have hE:(cw m at' != 0)=true->(cw m at' != 4)=false:=by
   intro q
   rcases Rx with⟨e,_⟩ | ⟨e,_⟩
   ·rw[e] at q;cases q
   ·rw[e];rfl
  have AN:∀ k:AV->R,B1 (dq (.int .i64 (cw m at')) (.int .i64 0)) (fun dk=>GO dk true (fun oc=>oc (.int .i64 (cw m at')) H) (fun dW ku=>GO dk true (fun G8=>B1 (dq dW (.int .i64 4)) fun ew=>G8 ew ku) (fun gY dA=>B1 (pk dk gY (.bool false)) fun v21=>k v21) ku) H)=k (.bool false):=by
   intro k
   cases d:(cw m at' != 0) with
   | false=>simp only[d,az,bd,aw,av,bG,aH,au,ak,aK,aA,aP,bK,aE,bO,bC,aR,bu,ay,bF,aT,aC,bq,aU,bI,bM,ba,aI,aW,aQ,ar,aV,a7,bS,aF,aO,bt,bJ,aN,aM,aD,bB,br,aY,bQ,bT,bk,bH,af,bp,ag,bP,ah,aB,aG,bw,bA,bR,aL,bN,bD,bo,aj,bh,bg,aq,ai,aS,a8,aZ,bE,aJ,nq,gk,wc,yL,yB,decide_true,decide_false,Int.reduceBEq,Int.reduceBNe,Int.reduceLT,Int.reduceLE,Int.reduceGT,Int.reduceGE,Int.reduceNeg,aaJ,bne_self_eq_false,ge_iff_le,gt_iff_lt]
   | true=>simp only[d,hE d,az,bd,aw,av,bG,aH,au,ak,aK,aA,aP,bK,aE,bO,bC,aR,bu,ay,bF,aT,aC,bq,aU,bI,bM,ba,aI,aW,aQ,ar,aV,a7,bS,aF,aO,bt,bJ,aN,aM,aD,bB,br,aY,bQ,bT,bk,bH,af,bp,ag,bP,ah,aB,aG,bw,bA,bR,aL,bN,bD,bo,aj,bh,bg,aq,ai,aS,a8,aZ,bE,aJ,nq,gk,wc,yL,yB,decide_true,decide_false,Int.reduceBEq,Int.reduceBNe,Int.reduceLT,Int.reduceLE,Int.reduceGT,Int.reduceGE,Int.reduceNeg,aaJ,bne_self_eq_false,ge_iff_le,gt_iff_lt]
  have sI:(if m.off=true\/jB at'=false then AV.cD else fp L at')=fp L at':=by
   rcases Rx with⟨_,q1,q2,_⟩ | ⟨_,q1,q2,_⟩<;>simp[q1,q2]
  rw[sI] at h0
  by_cases kD:(m.room:Int)-gy m.fs<b.length
  ·have:ff m at' b=(6,m):=by unfold ff;rw[if_neg jP,if_pos (.inl kD)]
   rw[this]
   refine⟨H,L,Ab ?_,h,fC.refl _ _ _⟩
   unfold vR
   have d3:decide ((m.room:Int)-gy m.fs<b.length)=true:=decide_eq_true kD
   cases d:(cw m at' != 0) with
   | false=>simp only[h0,d,xU,rJ,d3,az,bd,aw,av,bG,aH,au,ak,aK,aA,aP,bK,aE,bO,bC,aR,bu,ay,bF,aT,aC,bq,aU,bI,bM,ba,aI,aW,aQ,ar,aV,a7,bS,aF,aO,bt,bJ,aN,aM,aD,bB,br,aY,bQ,bT,bk,bH,af,bp,ag,bP,ah,aB,aG,bw,bA,bR,aL,bN,bD,bo,aj,bh,bg,aq,ai,aS,a8,aZ,bE,aJ,nq,gk,wc,yL,yB,decide_true,decide_false,Int.reduceBEq,Int.reduceBNe,Int.reduceLT,Int.reduceLE,Int.reduceGT,Int.reduceGE,Int.reduceNeg,aaJ,bne_self_eq_false,ge_iff_le,gt_iff_lt]
   | true=>simp only[h0,d,hE d,xU,rJ,d3,az,bd,aw,av,bG,aH,au,ak,aK,aA,aP,bK,aE,bO,bC,aR,bu,ay,bF,aT,aC,bq,aU,bI,bM,ba,aI,aW,aQ,ar,aV,a7,bS,aF,aO,bt,bJ,aN,aM,aD,bB,br,aY,bQ,bT,bk,bH,af,bp,ag,bP,ah,aB,aG,bw,bA,bR,aL,bN,bD,bo,aj,bh,bg,aq,ai,aS,a8,aZ,bE,aJ,nq,gk,wc,yL,yB,decide_true,decide_false,Int.reduceBEq,Int.reduceBNe,Int.reduceLT,Int.reduceLE,Int.reduceGT,Int.reduceGE,Int.reduceNeg,aaJ,bne_self_eq_false,ge_iff_le,gt_iff_lt]
  ·have d3:decide ((m.room:Int)-gy m.fs<b.length)=false:=decide_eq_false kD
   obtain⟨H1,L1,b1,b2,b3,b4⟩:=Fo h
   rcases Rx with⟨e,q1,q2,a,x,c,r1,r2,r3,r4,r5,r6,hx,hf⟩ | ⟨e,q1,q2,r6,r5,r3⟩
   ·rw[r5,e] at h0
    have qJ:ff m at' b=if eY m=false then (11,dt m) else (0,{ dt m with fs:=fM at' ⟨x.f.nm,x.f.b++b,x.f.sure⟩ m.fs }):=by
     unfold ff;rw[if_neg jP,if_neg (by simp[r6];omega),r6]
    cases hB:eY m with
    | false=>
     rw[qJ,if_pos hB]
     refine⟨H1,L1,Ab ?_,b2,b3⟩
     unfold vR
     simp only[h0,xU,rJ,d3,b1,hB,az,bd,aw,av,bG,aH,au,ak,aK,aA,aP,bK,aE,bO,bC,aR,bu,ay,bF,aT,aC,bq,aU,bI,bM,ba,aI,aW,aQ,ar,aV,a7,bS,aF,aO,bt,bJ,aN,aM,aD,bB,br,aY,bQ,bT,bk,bH,af,bp,ag,bP,ah,aB,aG,bw,bA,bR,aL,bN,bD,bo,aj,bh,bg,aq,ai,aS,a8,aZ,bE,aJ,nq,gk,wc,yL,yB,decide_true,decide_false,Int.reduceBEq,Int.reduceBNe,Int.reduceLT,Int.reduceLE,Int.reduceGT,Int.reduceGE,Int.reduceNeg,aaJ,bne_self_eq_false,ge_iff_le,gt_iff_lt]
    | true=>
     rw[qJ,if_neg (by simp[hB])]
     obtain⟨e1,e2,e3,e4,e5,e6⟩:=b4 hB
     rw[e1] at b2 b3
     obtain⟨Fh,Di⟩:=b2.file x hx
     have pZ:=Fh.ld (o:=0) rfl
     have Az:=hy.out e2 fun j hj q=>my j hj (by rw[yX.1 q];exact St.mQ)
     have Fm:(bs x.f.b).length+(bs b).length<=16777216:=by
      rw[gu,gu]
      have:=Ie hf;omega
     obtain⟨s',H2,a1,a2,a3,a4⟩:=tJ (z:=[.int .u8 0]) Di Az (CJ b) (by omega) Fm
     rw[<-Sd] at a2
     obtain⟨H3,p1,p2,p3,p4⟩:=b2.Tq hx a3 a2 a4
     have anm:ld (.ptr x.id 0) H1=some x.sl:=pZ
     have je:=b2.Lb (f:=⟨x.f.nm,x.f.b++b,x.f.sure⟩) r1 (by rw[r2];exact r3) (by rw[r2];exact r4) rfl p3 (fun j hj=>hj) p2 p4 a4 (tX _) (by have:=h.ok.sure x.f hf;simp;omega) (fun k hk=>(aac.1 hk).elim (h.ok.byte x.f hf k) (hb k)) (by
      have:=b2.K7 r1 (by rw[r2];exact r3) (by rw[r2];exact r4) ⟨x.f.nm,x.f.b++b,x.f.sure⟩
      rw[e3] at this ⊢
      rw[e4]
      simp only[aaO] at this;omega)
     obtain⟨s1,s2⟩:=je
     rw[e3,r2] at s1
     refine⟨H3,_,Ab ?_,by rw[r2];exact s1,b3.trans s2⟩
     unfold vR
     simp only[h0,xU,rJ,d3,b1,hB,pZ,a1,p1,az,bd,aw,av,bG,aH,au,ak,aK,aA,aP,bK,aE,bO,bC,aR,bu,ay,bF,aT,aC,bq,aU,bI,bM,ba,aI,aW,aQ,ar,aV,a7,bS,aF,aO,bt,bJ,aN,aM,aD,bB,br,aY,bQ,bT,bk,bH,af,bp,ag,bP,ah,aB,aG,bw,bA,bR,aL,bN,bD,bo,aj,bh,bg,aq,ai,aS,a8,aZ,bE,aJ,nq,gk,wc,yL,yB,decide_true,decide_false,Int.reduceBEq,Int.reduceBNe,Int.reduceLT,Int.reduceLE,Int.reduceGT,Int.reduceGE,Int.reduceNeg,aaJ,bne_self_eq_false,ge_iff_le,gt_iff_lt]
   ·rw[r5,e] at h0
    by_cases Jw:64<=m.fs.length
    ·have:ff m at' b=(6,m):=by unfold ff;rw[if_neg jP,if_pos (.inr ⟨by rw[r6];rfl,Jw⟩)]
     rw[this]
     refine⟨H,L,Ab ?_,h,fC.refl _ _ _⟩
     unfold vR
     have d4:decide ((64:Int)<=(m.fs.length:Int))=true:=decide_eq_true (by omega)
     simp only[h0,xU,rJ,d3,Qq,I1,d4,az,bd,aw,av,bG,aH,au,ak,aK,aA,aP,bK,aE,bO,bC,aR,bu,ay,bF,aT,aC,bq,aU,bI,bM,ba,aI,aW,aQ,ar,aV,a7,bS,aF,aO,bt,bJ,aN,aM,aD,bB,br,aY,bQ,bT,bk,bH,af,bp,ag,bP,ah,aB,aG,bw,bA,bR,aL,bN,bD,bo,aj,bh,bg,aq,ai,aS,a8,aZ,bE,aJ,nq,gk,wc,yL,yB,decide_true,decide_false,Int.reduceBEq,Int.reduceBNe,Int.reduceLT,Int.reduceLE,Int.reduceGT,Int.reduceGE,Int.reduceNeg,aaJ,bne_self_eq_false,ge_iff_le,gt_iff_lt]
    ·have d4:decide ((64:Int)<=(m.fs.length:Int))=false:=decide_eq_false (by omega)
     have qJ:ff m at' b=if eY m=false then (11,dt m) else (0,{ dt m with fs:=m.fs++[⟨at',b,0⟩] }):=by
      unfold ff;rw[if_neg jP,if_neg (by rw[r6];simp;omega),r6]
     cases hB:eY m with
     | false=>
      rw[qJ,if_pos hB]
      refine⟨H1,L1,Ab ?_,b2,b3⟩
      unfold vR
      simp only[h0,xU,rJ,d3,Qq,I1,d4,b1,hB,az,bd,aw,av,bG,aH,au,ak,aK,aA,aP,bK,aE,bO,bC,aR,bu,ay,bF,aT,aC,bq,aU,bI,bM,ba,aI,aW,aQ,ar,aV,a7,bS,aF,aO,bt,bJ,aN,aM,aD,bB,br,aY,bQ,bT,bk,bH,af,bp,ag,bP,ah,aB,aG,bw,bA,bR,aL,bN,bD,bo,aj,bh,bg,aq,ai,aS,a8,aZ,bE,aJ,nq,gk,wc,yL,yB,decide_true,decide_false,Int.reduceBEq,Int.reduceBNe,Int.reduceLT,Int.reduceLE,Int.reduceGT,Int.reduceGE,Int.reduceNeg,aaJ,bne_self_eq_false,ge_iff_le,gt_iff_lt]
     | true=>
      rw[qJ,if_neg (by simp[hB])]
      obtain⟨e1,e2,e3,e4,e5,e6⟩:=b4 hB
      rw[e1] at b2 b3
      have mK:fl [.ae,(.int .i64 0)] []=some [AV.ae,.int .i64 ((0:Nat):Int)]:=rfl
      obtain⟨H2,n1,n2,n3,n4⟩:=xC H1 81 (.agg [AV.ae,.int .i64 ((0:Nat):Int)]) [AV.ae,.int .i64 ((0:Nat):Int)] rfl (by simp)
      have b5:=b2.out n3 fun j _ q=>by cases q
      have bW:=b2.lt
      have ae9:=b5.Ae
      have cx:∀ y∈L.cs,y.f.nm≠(⟨at',[],0⟩:Fl).nm:=r3
      obtain⟨H3,f1,f2,f3⟩:=b5.ab9 (id:=H1.next) (sl := .ae) (f:=⟨at',[],0⟩) cx ⟨_,n2⟩ .nil (fun j hj=>by
        simp only[FC.ids,aa,yX] at hj
        intro q
        have:=bW j q;omega) (by simp[FC.ids,aa]) (by simp) (fun c hc=>by cases hc) (by simp only[abQ];rw[e3,e4];omega) q2 (by rw[e3];omega)
      have sL:(⟨H1.next,.ae,L.iC,⟨at',[],0⟩⟩:FC)∈L.cs++[⟨H1.next,.ae,L.iC,⟨at',[],0⟩⟩]:=by simp
      obtain⟨Fh,Di⟩:=f2.file _ sL
      have pZ:=Fh.ld (o:=0) rfl
      have anS:∀ j∈aa y,j<H1.next:=fun j hj=>aci (hy.lt j hj) e2.1
      have Az:Rw H3 1 y (bs b):=((hy.out e2 fun j hj q=>my j hj (by rw[yX.1 q];exact St.mQ)).out n3 fun j _ q=>by cases q).out f3 fun j hj q=>my j hj (by rw[yX.1 q];exact St.mD)
      have Fm:([]:List AV).length+(bs b).length<=16777216:=by
       rw[gu];simp only[abQ];omega
      obtain⟨s',H4,a1,a2,a3,a4⟩:=tJ (z:=[.int .u8 0]) (l:=[]) Di Az (CJ b) (by omega) Fm
      rw[adt] at a2
      obtain⟨H5,p1,p2,p3,p4⟩:=f2.Tq sL a3 a2 a4
      have W9:L.cs++[(⟨H1.next,.ae,L.iC,⟨at',[],0⟩⟩:FC)]=L.cs++(⟨H1.next,.ae,L.iC,⟨at',[],0⟩⟩:FC)::[]:=rfl
      have je:=f2.Lb (f:=⟨at',b,0⟩) W9 r3 (fun y hy=>by cases hy) rfl p3 (fun j hj=>hj) p2 p4 a4 (tX _) (ack _) hb (by
       have:=f2.K7 W9 r3 (fun y hy=>by cases hy) ⟨at',b,0⟩
       simp only[CO,Gh,abQ] at this ⊢
       rw[e3] at this ⊢
       rw[e4]
       have:gy ([]:List Fl)=0:=rfl
       omega)
      obtain⟨s1,s2⟩:=je
      have gP:fM at' ⟨at',b,0⟩ ((dt m).fs++[(⟨at',[],0⟩:Fl)])=m.fs++[⟨at',b,0⟩]:=by
       rw[e3]
       have:m.fs++[(⟨at',[],0⟩:Fl)]=(L.cs++(⟨H1.next,.ae,L.iC,⟨at',[],0⟩⟩:FC)::[]).map (·.f):=by rw[h.fs,abz];rfl
       rw[this,Nd (at':=at') (x:=⟨H1.next,.ae,L.iC,⟨at',[],0⟩⟩) (b:=[]) rfl r3 (fun y hy=>by cases hy),h.fs];rfl
      refine⟨H5,_,Ab ?_,by
       have:=s1
       simp only at this
       rw[gP] at this
       exact this,?_⟩
      ·unfold vR
       simp only[h0,xU,rJ,d3,Qq,I1,d4,b1,hB,mK,n1,ae9,f1,pZ,a1,p1,az,bd,aw,av,bG,aH,au,ak,aK,aA,aP,bK,aE,bO,bC,aR,bu,ay,bF,aT,aC,bq,aU,bI,bM,ba,aI,aW,aQ,ar,aV,a7,bS,aF,aO,bt,bJ,aN,aM,aD,bB,br,aY,bQ,bT,bk,bH,af,bp,ag,bP,ah,aB,aG,bw,bA,bR,aL,bN,bD,bo,aj,bh,bg,aq,ai,aS,a8,aZ,bE,aJ,nq,gk,wc,yL,yB,decide_true,decide_false,Int.reduceBEq,Int.reduceBNe,Int.reduceLT,Int.reduceLE,Int.reduceGT,Int.reduceGE,Int.reduceNeg,aaJ,bne_self_eq_false,ge_iff_le,gt_iff_lt]
      ·have g1:fC p H1 L H3 { L with cs:=L.cs++[⟨H1.next,.ae,L.iC,⟨at',[],0⟩⟩],iC:=L.iC+1 }:=by
        refine⟨(n3.mono fun j hj=>by cases hj).trans (f3.mono fun j hj=>by rw[yX.1 hj];exact St.mD),fun j hj => ?_⟩
        unfold cB at hj
        rw[afS] at hj
        rcases aap.1 hj with rfl | hj
        ·exact .inl St.mQ
        rcases aap.1 hj with rfl | hj
        ·exact .inl St.mD
        rcases aac.1 hj with hj | hj
        ·exact .inl (St.wP hj)
        rcases aac.1 hj with hj | hj
        ·obtain⟨z,hz,hj⟩:=adr.1 hj
         exact .inl (St.nf hz hj)
        ·simp only[aeY,List.flatMap_nil,aeD,FC.ids,aa,yX] at hj
         exact .inr (by omega)
       exact (b3.trans g1).trans s2
end
section
variable {H:Hp}{p:Nat}{m:SM}{L:Lay}
end
theorem abR (H:Hp)(room:Int):(room<1\/16777216<room->cK (.func (.func 23) [] []) [.int .i64 room] H=some (.tuple [.cD,.int .i64 1],H))/\
  ∀ r:Nat,room=r->1<=r->r<=16777216->∃ H' p L,cK (.func (.func 23) [] []) [.int .i64 room] H=some (.tuple [.ptr p 0,.int .i64 0],H')/\St H' p ⟨r,false,0,[],[]⟩ L/\Out [] H H'/\∀ j∈cB p L,H.next<=j:=by
 constructor
 ·intro h
  refine aaw ?_
  unfold NJ
  by_cases h1:room<1
  ·simp only[decide_eq_true h1,az,bd,aw,av,bG,aH,au,ak,aK,aA,aP,bK,aE,bO,bC,aR,bu,ay,bF,aT,aC,bq,aU,bI,bM,ba,aI,aW,aQ,ar,aV,a7,bS,aF,aO,bt,bJ,aN,aM,aD,bB,br,aY,bQ,bT,bk,bH,af,bp,ag,bP,ah,aB,aG,bw,bA,bR,aL,bN,bD,bo,aj,bh,bg,aq,ai,aS,a8,aZ,bE,aJ,nq,gk,wc,yL,yB,decide_true,decide_false,Int.reduceBEq,Int.reduceBNe,Int.reduceLT,Int.reduceLE,Int.reduceGT,Int.reduceGE,Int.reduceNeg,aaJ,bne_self_eq_false,ge_iff_le,gt_iff_lt]
  ·simp only[decide_eq_false h1,decide_eq_true (show (16777216:Int)<room by omega),az,bd,aw,av,bG,aH,au,ak,aK,aA,aP,bK,aE,bO,bC,aR,bu,ay,bF,aT,aC,bq,aU,bI,bM,ba,aI,aW,aQ,ar,aV,a7,bS,aF,aO,bt,bJ,aN,aM,aD,bB,br,aY,bQ,bT,bk,bH,af,bp,ag,bP,ah,aB,aG,bw,bA,bR,aL,bN,bD,bo,aj,bh,bg,aq,ai,aS,a8,aZ,bE,aJ,nq,gk,wc,yL,yB,decide_true,decide_false,Int.reduceBEq,Int.reduceBNe,Int.reduceLT,Int.reduceLE,Int.reduceGT,Int.reduceGE,Int.reduceNeg,aaJ,bne_self_eq_false,ge_iff_le,gt_iff_lt]
 ·intro r hr h1 h2
  subst hr
  obtain⟨H1,a1,a2,a3,a4⟩:=amo H
  have mK:fl [(.int .i64 0),.jt,(.bool false),(.int .i64 0),.ae] [(0,1,AV.int .i64 (r:Int)),(1,1,(.map H.next))]=some [.int .i64 (r:Int),.map H.next,.bool false,.int .i64 ((0:Nat):Int),.ae]:=rfl
  obtain⟨H2,b1,b2,b3,b4⟩:=xC H1 76 (.agg [.int .i64 (r:Int),.map H.next,.bool false,.int .i64 ((0:Nat):Int),.ae]) _ rfl (by simp)
  have a2':=a2.out b3 fun q=>by cases q
  refine⟨H2,H1.next,⟨H.next,0,.ae,[]⟩,aaw ?_,⟨⟨_,b2⟩,a2',(fun x hx=>by cases hx),.nil,?_,rfl,rfl,⟨h2,ack _,(fun f hf=>by cases hf),(fun f hf=>by cases hf),by simp,List.nodup_nil,(fun f hf=>by cases hf),by simp⟩⟩,a3.trans b3,fun j hj => ?_⟩
  ·unfold NJ
   simp only[decide_eq_false (show ¬ (r:Int)<1 by omega),decide_eq_false (show ¬ (16777216:Int)<(r:Int) by omega),a1,mK,b1,az,bd,aw,av,bG,aH,au,ak,aK,aA,aP,bK,aE,bO,bC,aR,bu,ay,bF,aT,aC,bq,aU,bI,bM,ba,aI,aW,aQ,ar,aV,a7,bS,aF,aO,bt,bJ,aN,aM,aD,bB,br,aY,bQ,bT,bk,bH,af,bp,ag,bP,ah,aB,aG,bw,bA,bR,aL,bN,bD,bo,aj,bh,bg,aq,ai,aS,a8,aZ,bE,aJ,nq,gk,wc,yL,yB,decide_true,decide_false,Int.reduceBEq,Int.reduceBNe,Int.reduceLT,Int.reduceLE,Int.reduceGT,Int.reduceGE,Int.reduceNeg,aaJ,bne_self_eq_false,ge_iff_le,gt_iff_lt]
  ·simp only[cB,aa,List.flatMap_nil,aeD,ab0,yX,List.not_mem_nil,not_false_eq_true,List.nodup_nil,and_true]
   omega
  ·simp only[cB,aa,List.flatMap_nil,aeD,aap,List.not_mem_nil,or_false] at hj
   omega
end Go.Proofs.YtbdlbhlhnpblpaaGreatDoor.cS
namespace Go.Proofs.YtbdlbhlhnpblpaaGreatDoor.fX
open Go Am Am.K eU du
theorem KH {a b:Nat}(hb:0<b):oW (.int .i64 (a:Int)) (.int .i64 (b:Int))=some (.int .i64 ((a % b:Nat):Int)):=by
 rw[amv _ _ _ (by omega)];rfl
theorem vm {a b:Nat}(h:a+b<=9223372036854775807):df (.int .i64 (a:Int)) (.int .i64 (b:Int))=some (.int .i64 ((a+b:Nat):Int)):=by
 rw[af,wrap_i64 (by omega) (by omega)];rfl
theorem A9 {a:Nat}(h:a<=9223372036854775807):IntKind.wrap .i64 (a:Int)=a:=wrap_i64 (by omega) (by omega)
def pr (s:Nat):Nat × Nat:=(s % 65536,s / 65536)
def sm (p:Nat × Nat):Nat:=p.2*65536+p.1
def ad (p:Nat × Nat)(v:Nat):Nat × Nat:=((p.1+v) % 65521,(p.2+(p.1+v) % 65521) % 65521)
def gd (s:Nat):Bool:=decide (s % 65536<65521)&&decide (s / 65536<65521)
def fL (s:Nat)(l:List Nat):Nat:=sm (l.foldl ad (pr s))
theorem Ih:∀ (l:List Nat) (p:Nat × Nat),p.1<65521->p.2<65521->(l.foldl ad p).1<65521/\(l.foldl ad p).2<65521
 | [],p,h,k=>⟨h,k⟩
 | v::l,p,h,k=>Ih l (ad p v) (ag2 _ (by decide)) (ag2 _ (by decide))
theorem GV {s:Nat}(h:gd s=true):(pr s).1<65521/\(pr s).2<65521:=by
 unfold gd at h
 rw[aaK] at h
 exact⟨of_decide_eq_true h.1,of_decide_eq_true h.2⟩
theorem Hh {s:Nat}(h:gd s=true)(l:List Nat):fL s l<4294967296/\gd (fL s l)=true:=by
 obtain⟨a,b⟩:=Ih l (pr s) (GV h).1 (GV h).2
 unfold fL sm gd
 refine⟨by omega,?_⟩
 simp
 omega
theorem Xd {s:Nat}(h:gd s=true)(a b:List Nat):fL (fL s a) b=fL s (a++b):=by
 obtain⟨x,y⟩:=Ih a (pr s) (GV h).1 (GV h).2
 have e:pr (fL s a)=a.foldl ad (pr s):=by
  unfold fL sm pr
  refine Prod.ext ?_ ?_<;>simp only<;>unfold pr at x y<;>omega
 unfold fL
 rw[List.foldl_append]
 unfold fL at e
 rw[e]
theorem Ye {H:Hp}(s:Nat)(h:s<4294967296):cK (.func (.func 57) [] []) [.int .u32 s] H=some (.tuple [.int .i64 ((pr s).1:Nat),.int .i64 ((pr s).2:Nat)],H):=by
 refine adH ?_
 unfold Wt
 have e1:uj (.int .u32 (s:Int)) (.int .u32 65535)=some (.int .u32 ((s % 65536:Nat):Int)):=aaB (m:=16) h (by decide) (p6 rfl (aci (ag2 _ (by decide)) (by decide)))
 have e2:td (.int .u32 (s:Int)) (.int .u64 16)=some (.int .u32 ((s / 65536:Nat):Int)):=TY (b:=16)
 have w1:=A9 (a:=s % 65536) (by omega)
 have w2:=A9 (a:=s / 65536) (by omega)
 simp only[e1,e2,w1,w2,pr,tL,ur,Int.reduceBEq,Int.reduceBNe,Int.reduceLT,Int.reduceLE,Int.reduceGT,Int.reduceGE,Int.reduceNeg]
theorem ab2 {H:Hp}(p:Nat × Nat)(h1:p.1<65521)(h2:p.2<65521):cK (.func (.func 58) [] []) [.int .i64 (p.1:Nat),.int .i64 (p.2:Nat)] H=some (.int .u32 ((sm p:Nat):Int),H):=by
 obtain⟨a,c⟩:=p
 simp only at h1 h2
 refine aen ?_
 unfold YF
 have r:∀ x:Nat,x<65521->oW (.int .i64 (x:Int)) (.int .i64 65521)=some (.int .i64 (x:Int)):=fun x hx=>by
  have:=KH (a:=x) (b:=65521) (by decide)
  rw[afA hx] at this
  exact this
 have d:∀ x:Nat,x<65521->df (.int .i64 (x:Int)) (.int .i64 65521)=some (.int .i64 ((x+65521:Nat):Int)):=fun x hx=>vm (b:=65521) (by omega)
 have r2:∀ x:Nat,x<65521->oW (.int .i64 ((x+65521:Nat):Int)) (.int .i64 65521)=some (.int .i64 (x:Int)):=fun x hx=>by
  have:=KH (a:=x+65521) (b:=65521) (by decide)
  rw[Nat.add_mod_right,afA hx] at this
  exact this
 have w:∀ x:Nat,x<65521->IntKind.wrap .u32 (x:Int)=x:=fun x hx=>p6 rfl (ahZ hx (by decide))
 have e4:sV (.int .u32 (c:Int)) (.int .u64 16)=some (.int .u32 ((c*65536:Nat):Int)):=by
  have:=Nk (k := .u32) (j := .u64) (a:=c) (b:=16)
  rw[p6 rfl (show c*2 ^ min 16 IntKind.u32.bits<2 ^ IntKind.u32.bits by show c*65536<4294967296;omega)] at this
  exact this
 have e9:rp (.int .u32 ((c*65536:Nat):Int)) (.int .u32 (a:Int))=some (.int .u32 ((c*65536+a:Nat):Int)):=by
  have ho:c*65536 ||| a=c*65536+a:=by
   rw[Nat.or_comm]
   exact QV (i:=16) (ahZ h1 (by decide))
  have:=U6 (k := .u32) (a:=c*65536) (b:=a) (by show c*65536<4294967296;omega) (by show a<4294967296;omega) (by rw[ho];exact p6 rfl (by show c*65536+a<4294967296;omega))
  rw[ho] at this
  exact this
 simp only[r a h1,r c h2,d a h1,d c h2,r2 a h1,r2 c h2,w a h1,w c h2,e4,e9,sm,tL,ur,Int.reduceBEq,Int.reduceBNe,Int.reduceLT,Int.reduceLE,Int.reduceGT,Int.reduceGE,Int.reduceNeg]
theorem agD {H:Hp}(s:Nat)(h:s<4294967296):cK (.func (.func 56) [] []) [.int .u32 s] H=some (.bool (gd s),H):=by
 refine acy ?_
 unfold Ub
 have e:=Ye (H:=H) s h
 have d1:decide (((s % 65536:Nat):Int)<65521)=decide (s % 65536<65521):=decide_eq_decide.2 (by omega)
 have d2:decide (((s / 65536:Nat):Int)<65521)=decide (s / 65536<65521):=decide_eq_decide.2 (by omega)
 unfold pr at e
 unfold gd
 simp only at e
 generalize decide (s % 65536<65521)=x at *
 generalize decide (s / 65536<65521)=y at *
 cases x<;>simp only[e,d1,d2,Bool.true_and,agf,tL,ur,Int.reduceBEq,Int.reduceBNe,Int.reduceLT,Int.reduceLE,Int.reduceGT,Int.reduceGE,Int.reduceNeg]
theorem abp {k:K.Fn 2}{H:Hp}{x:AV}{l:List Nat}(hx:Rw H 1 x (bs l))(hb:∀ b∈l,b<256)(hl:l.length<=4294967296):∀ (r:List Nat) (i:Nat) (p:Nat × Nat),l.drop i=r->p.1<65521->p.2<65521->
  Fx JN GO cK k (.int .i64 (p.1:Nat)) (.int .i64 (p.2:Nat)) x (.int .i64 (l.length:Nat)) (.int .i64 (i:Nat)) H=k (.int .i64 ((r.foldl ad p).1:Nat)) (.int .i64 ((r.foldl ad p).2:Nat)) H
 | [],i,p,hr,h1,h2=>by
  rw[UQ]
  have:l.length<=i:=by simpa using hr
  have d:decide (((i:Nat):Int)<((l.length:Nat):Int))=false:=decide_eq_false (by omega)
  simp only[N9,d,List.foldl_nil,tL,ur,Int.reduceBEq,Int.reduceBNe,Int.reduceLT,Int.reduceLE,Int.reduceGT,Int.reduceGE,Int.reduceNeg]
 | v::r,i,p,hr,h1,h2=>by
  have hi:i<l.length:=by
   rcases agB i l.length with h | h
   ·exact h
   ·rw[ae8 h] at hr;cases hr
  have hv:l[i]? = some v:=by
   have:=congrArg (fun z=>z[0]?) hr
   simpa using this
  have dg:l.drop (i+1)=r:=by
   rw[<-ago,hr];rfl
  have cH:(bs l)[i]? = some (.int .u8 (v:Int)):=by simp[bs,hv]
  have nF:=hb v (abY hv)
  obtain⟨q,q1,q2⟩:=hx.s7 cH .i64
  have d:decide (((i:Nat):Int)<((l.length:Nat):Int))=true:=decide_eq_true (by omega)
  have w1:=A9 (a:=v) (by omega)
  have a1:=vm (a:=p.1) (b:=v) (by omega)
  have m1:=KH (a:=p.1+v) (b:=65521) (by decide)
  have hm:=ag2 (p.1+v) (show 0<65521 by decide)
  have a2:=vm (a:=p.2) (b:=(p.1+v) % 65521) (by omega)
  have m2:=KH (a:=p.2+(p.1+v) % 65521) (b:=65521) (by decide)
  have a3:=vm (a:=i) (b:=1) (by omega)
  have ih:=abp (k:=k) hx hb hl r (i+1) (ad p v) dg (ag2 _ (by decide)) (ag2 _ (by decide))
  rw[UQ]
  rw[show (((65521:Nat):Int))=65521 from rfl] at m1 m2
  rw[show (((1:Nat):Int))=1 from rfl] at a3
  simp only[af] at a1 a2 a3
  simp only[N9,d,q1,q2,w1,a1,m1,a2,m2,a3,tL,ur,Int.reduceBEq,Int.reduceBNe,Int.reduceLT,Int.reduceLE,Int.reduceGT,Int.reduceGE,Int.reduceNeg]
  exact ih
theorem GJ {H:Hp}{x:AV}{l:List Nat}(hx:Rw H 1 x (bs l))(hb:∀ b∈l,b<256)(hl:l.length<=4294967296){s:Nat}(hs:s<4294967296)(hg:gd s=true) :
  cK (.func (.func 40) [] []) [.int .u32 s,x] H=some (.tuple [.int .u32 ((fL s l:Nat):Int),.bool true],H):=by
 refine amR ?_
 unfold UM
 have e1:=agD (H:=H) s hs
 rw[hg] at e1
 have e2:=Ye (H:=H) s hs
 have hn:=hx.il
 rw[gu] at hn
 have hp:=GV hg
 have hf:=Ih l (pr s) hp.1 hp.2
 have e3:=ab2 (H:=H) (l.foldl ad (pr s)) hf.1 hf.2
 have lp:=fun (k:K.Fn 2)=>abp (k:=k) hx hb hl l 0 (pr s) rfl hp.1 hp.2
 rw[show (((0:Nat):Int))=0 from rfl] at lp
 simp only[e1,e2,hn,lp,e3,fL,tL,ur,Int.reduceBEq,Int.reduceBNe,Int.reduceLT,Int.reduceLE,Int.reduceGT,Int.reduceGE,Int.reduceNeg]
theorem uW {H:Hp}{x:AV}{l:List Nat}(hx:Rw H 1 x (bs l))(hb:∀ b∈l,b<256)(hl:l.length<=4294967296) :
  cK (.func (.func 41) [] []) [x] H=some (.int .u32 ((fL 1 l:Nat):Int),H):=by
 refine aiC ?_
 unfold Y5
 have e1:=GJ hx hb hl (s:=1) (by decide) (by decide)
 rw[show (((1:Nat):Int))=1 from rfl] at e1
 simp only[e1,tL,ur,Int.reduceBEq,Int.reduceBNe,Int.reduceLT,Int.reduceLE,Int.reduceGT,Int.reduceGE,Int.reduceNeg]
theorem BQ {H:Hp}(s:Nat)(h:s<18446744073709551616):cK (.func (.func 68) [] []) [.int .u64 s] H=some (.int .i64 ((s % 17592186044416:Nat):Int),H):=by
 refine ahQ ?_
 unfold Zw
 have e1:uj (.int .u64 (s:Int)) (.int .u64 17592186044415)=some (.int .u64 ((s % 17592186044416:Nat):Int)):=aaB (m:=44) h (by decide) (p6 rfl (aci (ag2 _ (by decide)) (by decide)))
 have w1:=A9 (a:=s % 17592186044416) (by omega)
 simp only[e1,w1,tL,ur,Int.reduceBEq,Int.reduceBNe,Int.reduceLT,Int.reduceLE,Int.reduceGT,Int.reduceGE,Int.reduceNeg]
theorem R7 {H:Hp}(s:Nat)(h:s<18446744073709551616):cK (.func (.func 17) [] []) [.int .u64 s] H=some (.int .i64 ((s / 17592186044416:Nat):Int),H):=by
 refine amd ?_
 unfold Ux
 have e1:td (.int .u64 (s:Int)) (.int .u64 44)=some (.int .u64 ((s / 17592186044416:Nat):Int)):=TY (b:=44)
 have w1:=A9 (a:=s / 17592186044416) (by omega)
 simp only[e1,w1,tL,ur,Int.reduceBEq,Int.reduceBNe,Int.reduceLT,Int.reduceLE,Int.reduceGT,Int.reduceGE,Int.reduceNeg]
theorem amj (n:Nat)(h:n<18446744073709551616):ji .i64 (IntKind.wrap .i64 (n:Int))=n:=by
 unfold ji IntKind.wrap
 simp[IntKind.bits,IntKind.signed]
 omega
theorem amt (n:Nat)(h:n<18446744073709551616):IntKind.wrap .u64 (IntKind.wrap .i64 (n:Int))=n:=by
 unfold IntKind.wrap
 simp[IntKind.bits,IntKind.signed]
 omega
theorem alo {H:Hp}(e o:Nat)(he:e<=1048575)(ho:o<=17592186044415):cK (.func (.func 24) [] []) [.int .i64 e,.int .i64 o] H=some (.tuple [.int .u64 ((e*17592186044416+o:Nat):Int),.bool true],H):=by
 refine ajs ?_
 unfold Uj
 have d1:decide (((e:Nat):Int)<0)=false:=decide_eq_false (by omega)
 have d2:decide (1048575<((e:Nat):Int))=false:=decide_eq_false (by omega)
 have d3:decide (((o:Nat):Int)<0)=false:=decide_eq_false (by omega)
 have d4:decide (17592186044415<((o:Nat):Int))=false:=decide_eq_false (by omega)
 have hh:e*17592186044416 ||| o=e*17592186044416+o:=by
  rw[Nat.or_comm]
  exact QV (i:=44) (Nat.lt_of_le_of_lt ho (by decide))
 have e1:sV (.int .i64 (e:Int)) (.int .u64 44)=some (.int .i64 (IntKind.wrap .i64 ((e*17592186044416:Nat):Int))):=Nk (k := .i64) (j := .u64) (a:=e) (b:=44)
 have e2:rp (.int .i64 (IntKind.wrap .i64 ((e*17592186044416:Nat):Int))) (.int .i64 (o:Int))=some (.int .i64 (IntKind.wrap .i64 ((e*17592186044416+o:Nat):Int))):=by
  rw[<-hh]
  have q:=FW (k := .i64) (n:=o) (by show o<18446744073709551616;omega)
  unfold rp ii
  simp only[if_true,amj (e*17592186044416) (by omega),q]
 have w1:=amt (e*17592186044416+o) (by omega)
 simp only[d1,d2,d3,d4,e1,e2,w1,tL,ur,Int.reduceBEq,Int.reduceBNe,Int.reduceLT,Int.reduceLE,Int.reduceGT,Int.reduceGE,Int.reduceNeg]
def le:Nat->Nat->List Nat
 | 0,_=>[]
 | n+1,v=>v % 256::le n (v / 256)
def ud:List Nat->Nat
 | []=>0
 | v::r=>v+256*ud r
theorem ux:∀ n v,(le n v).length=n
 | 0,v=>rfl
 | n+1,v=>by simp[le,ux n]
theorem J3:∀ n v,∀ b∈le n v,b<256
 | 0,v,b,h=>by cases h
 | n+1,v,b,h=>by
  rcases aap.1 h with rfl | h
  ·exact ag2 _ (by decide)
  ·exact J3 n _ b h
theorem Lp:∀ n v,ud (le n v)=v % 256 ^ n
 | 0,v=>by simp[le,ud,Nat.mod_one]
 | n+1,v=>by
  rw[le,ud,Lp n,agk,ahs (256 ^ n) 256,Nat.mod_mul]
theorem LW:∀ l:List Nat,(∀ b∈l,b<256)->ud l<256 ^ l.length
 | [],_=>by simp[ud]
 | v::r,h=>by
  have h1:=LW r fun b hb=>h b (.tail _ hb)
  have h2:=h v (.head _)
  rw[ud,abg,agk]
  omega
theorem DO (v:AV)(hv:kx v=some [v]):fl [.int .u8 0] [(0,1,v)]=some [v]:=by
 simp[fl,hv]
theorem WC:∀ n,rep n [.int .u8 0]=List.replicate n (AV.int .u8 0)
 | 0=>rfl
 | n+1=>by
  have ih:=WC n
  unfold rep at ih ⊢
  rw[ahn,ae0,ih,ahn]
  rfl
theorem al6 (n:Nat)(H:Hp)(hn:((n:Nat):Int)<16777216):xi 1 [.int .u8 0] true (.int .i64 (n:Nat)) H=some (n,List.replicate n (AV.int .u8 0)):=by
 have hc:(0:Int)<=(n:Nat)/\((n:Nat):Int)<16777216:=⟨Int.natCast_nonneg n,hn⟩
 simp only[xi]
 rw[if_pos hc,aeV,WC]
theorem aeB {es n:Nat}{z:List AV}{fI:Bool}{x:AV}{H:Hp}{new:List AV}(el:Nat)(s:AV)(h:xi es z fI x H=some (n,new)):fQ el es z fI s x H=yU el es n new s H:=by
 unfold fQ
 rw[h]
theorem alJ {H:Hp}{el n:Nat}{s:AV}{l:List AV}(h:Ow H el 1 s l)(hlen:l.length+n<=16777215) :
  ∃ s' H',fQ el 1 [.int .u8 0] true s (.int .i64 (n:Nat)) H=some (s',H')/\Ow H' el 1 s' (l++List.replicate n (.int .u8 0))/\Out (aa s) H H'/\(∀ j∈aa s',j∈aa s\/H.next<=j):=by
 have pZ:(List.replicate n (AV.int .u8 0)).length=n*1:=by rw[afW,adO]
 have iu:l.length+(List.replicate n (AV.int .u8 0)).length<=16777216:=by rw[afW];omega
 have ho:∀ v∈List.replicate n (AV.int .u8 0),dF v=true:=by
  intro v hv
  rw[List.eq_of_mem_replicate hv]
  rfl
 obtain⟨s',H',h1,h2⟩:=KD (n:=n) h pZ ho (by omega) iu
 exact⟨s',H',(aeB el s (al6 n H (by omega))).trans h1,h2⟩
theorem aaN {v n:Nat}(hv:v<18446744073709551616)(hn:n<=8){k:K.Fn 1}:∀ (r i:Nat) (s:AV) (l:List Nat) (H:Hp),i+r=n->Ow H 5 1 s (bs l)->(∀ j∈aa s,j<H.next)->l.length+r<=1000000->
  ∃ s' H',E2 JN GO cK k s (.int .u64 v) (.int .i64 n) (.int .i64 i) H=k s' H'/\Ow H' 5 1 s' (bs (l++le r (v / 256 ^ i)))/\Out (aa s) H H'/\(∀ j∈aa s',j∈aa s\/H.next<=j)
 | 0,i,s,l,H,hi,hs,bW,hl=>by
  refine⟨s,H,?_,?_,Out.refl _ _,fun j hj => .inl hj⟩
  ·rw[UO]
   have d:decide (((i:Nat):Int)<((n:Nat):Int))=false:=decide_eq_false (by omega)
   simp only[TB,d,az,bd,aw,av,bG,aH,au,ak,aK,aA,aP,bK,aE,bO,bC,aR,bu,ay,bF,aT,aC,bq,aU,bI,bM,ba,aI,aW,aQ,ar,aV,a7,bS,aF,aO,bt,bJ,aN,aM,aD,bB,br,aY,bQ,bT,bk,bH,af,bp,ag,bP,ah,aB,aG,bw,bA,bR,aL,bN,bD,bo,aj,bh,bg,aq,ai,aS,a8,aZ,bE,aJ,nq,gk,wc,yL,yB,decide_true,decide_false,Int.reduceBEq,Int.reduceBNe,Int.reduceLT,Int.reduceLE,Int.reduceGT,Int.reduceGE,Int.reduceNeg,aaJ,bne_self_eq_false,ge_iff_le,gt_iff_lt]
  ·rw[le,aeD];exact hs
 | r+1,i,s,l,H,hi,hs,bW,hl=>by
  have d:decide (((i:Nat):Int)<((n:Nat):Int))=true:=decide_eq_true (by omega)
  have m1:uQ (.int .i64 8) (.int .i64 (i:Nat))=some (.int .i64 ((8*i:Nat):Int)):=by
   rw[ag,wrap_i64 (by omega) (by omega)];rfl
  have m2:td (.int .u64 (v:Nat)) (.int .i64 ((8*i:Nat):Int))=some (.int .u64 ((v / 256 ^ i:Nat):Int)):=by
   rw[TY,show min (8*i) IntKind.u64.bits=8*i from ad3 (by show 8*i<=64;omega),Nat.pow_mul]
  have m3:IntKind.wrap .u8 ((v / 256 ^ i:Nat):Int)=((v / 256 ^ i % 256:Nat):Int):=abE rfl _
  have hf:=DO (.int .u8 ((v / 256 ^ i % 256:Nat):Int)) rfl
  obtain⟨H1,n1,n2,n3,n4⟩:=iI H [.int .u8 ((v / 256 ^ i % 256:Nat):Int)] 5 0 (by simp)
  have tM:=hs.out n3 fun j hj q=>by cases q
  have hx:Rw H1 1 (.slice H.next 0 1 1 true 1) (bs [v / 256 ^ i % 256]) := .mk n2.ro rfl (zf _) rfl
  obtain⟨s',H',a1,a2,a3,a4⟩:=tJ (z:=[.int .u8 0]) tM hx (CJ _) (by omega) (by rw[gu,gu];simp;omega)
  have tG:∀ j∈aa s',j<H'.next:=a2.rw.lt
  rw[<-Sd] at a2
  have e3:df (.int .i64 (i:Nat)) (.int .i64 1)=some (.int .i64 ((i+1:Nat):Int)):=vm (b:=1) (by omega)
  obtain⟨s2,H2,b1,b2,b3,b4⟩:=aaN hv hn (k:=k) r (i+1) s' (l++[v / 256 ^ i % 256]) H' (by omega) a2 tG (by simp;omega)
  refine⟨s2,H2,?_,?_,?_,?_⟩
  ·rw[UO]
   rw[af] at e3
   simp only[TB,d,m1,m2,m3,hf,n1,a1,e3,az,bd,aw,av,bG,aH,au,ak,aK,aA,aP,bK,aE,bO,bC,aR,bu,ay,bF,aT,aC,bq,aU,bI,bM,ba,aI,aW,aQ,ar,aV,a7,bS,aF,aO,bt,bJ,aN,aM,aD,bB,br,aY,bQ,bT,bk,bH,af,bp,ag,bP,ah,aB,aG,bw,bA,bR,aL,bN,bD,bo,aj,bh,bg,aq,ai,aS,a8,aZ,bE,aJ,nq,gk,wc,yL,yB,decide_true,decide_false,Int.reduceBEq,Int.reduceBNe,Int.reduceLT,Int.reduceLE,Int.reduceGT,Int.reduceGE,Int.reduceNeg,aaJ,bne_self_eq_false,ge_iff_le,gt_iff_lt]
   exact b1
  ·rw[le]
   rw[adf] at b2
   rw[Nat.div_div_eq_div_mul,<-agk]
   exact b2
  ·have h1:Out (aa s) H H':=(n3.mono fun j hj=>by cases hj).trans a3
   exact h1.then b3 fun j hj=>(a4 j hj).imp id fun q=>by omega
  ·intro j hj
   rcases b4 j hj with q | q
   ·rcases a4 j q with q | q
    ·exact .inl q
    ·exact .inr (by omega)
   ·have:=a3.1
    exact .inr (by omega)
theorem QX {v n:Nat}(hv:v<18446744073709551616)(hn:n<=8){s:AV}{l:List Nat}{H:Hp}(hs:Ow H 5 1 s (bs l))(hl:l.length+n<=1000000) :
  ∃ s' H',cK (.func (.func 39) [] []) [s,.int .u64 v,.int .i64 n] H=some (s',H')/\Ow H' 5 1 s' (bs (l++le n v))/\Out (aa s) H H'/\(∀ j∈aa s',j∈aa s\/H.next<=j):=by
 obtain⟨s',H',h1,h2,h3,h4⟩:=aaN hv hn (k:=fun x h=>some (x,h)) n 0 s l H (by omega) hs hs.rw.lt hl
 refine⟨s',H',ag1 ?_,by simpa using h2,h3,h4⟩
 unfold U2
 rw[show (((0:Nat):Int))=0 from rfl] at h1
 simp only[az,bd,aw,av,bG,aH,au,ak,aK,aA,aP,bK,aE,bO,bC,aR,bu,ay,bF,aT,aC,bq,aU,bI,bM,ba,aI,aW,aQ,ar,aV,a7,bS,aF,aO,bt,bJ,aN,aM,aD,bB,br,aY,bQ,bT,bk,bH,af,bp,ag,bP,ah,aB,aG,bw,bA,bR,aL,bN,bD,bo,aj,bh,bg,aq,ai,aS,a8,aZ,bE,aJ,nq,gk,wc,yL,yB,decide_true,decide_false,Int.reduceBEq,Int.reduceBNe,Int.reduceLT,Int.reduceLE,Int.reduceGT,Int.reduceGE,Int.reduceNeg,aaJ,bne_self_eq_false,ge_iff_le,gt_iff_lt]
 exact h1
theorem Xu {k:K.Fn 1}{H:Hp}{x:AV}{l:List Nat}(hx:Rw H 1 x (bs l))(hb:∀ b∈l,b<256)(hl:l.length<=8):∀ (r:List Nat) (i a:Nat),l.drop i=r->i<=l.length->a<256 ^ i->
  Fg JN GO cK k (.int .u64 (a:Nat)) x (.int .i64 (l.length:Nat)) (.int .i64 (i:Nat)) H=k (.int .u64 ((a+256 ^ i*ud r:Nat):Int)) H
 | [],i,a,hr,hi,ha=>by
  rw[X8]
  have:l.length<=i:=by simpa using hr
  have d:decide (((i:Nat):Int)<((l.length:Nat):Int))=false:=decide_eq_false (by omega)
  simp only[Te,d,ud,Nat.mul_zero,acJ,az,bd,aw,av,bG,aH,au,ak,aK,aA,aP,bK,aE,bO,bC,aR,bu,ay,bF,aT,aC,bq,aU,bI,bM,ba,aI,aW,aQ,ar,aV,a7,bS,aF,aO,bt,bJ,aN,aM,aD,bB,br,aY,bQ,bT,bk,bH,af,bp,ag,bP,ah,aB,aG,bw,bA,bR,aL,bN,bD,bo,aj,bh,bg,aq,ai,aS,a8,aZ,bE,aJ,nq,gk,wc,yL,yB,decide_true,decide_false,Int.reduceBEq,Int.reduceBNe,Int.reduceLT,Int.reduceLE,Int.reduceGT,Int.reduceGE,Int.reduceNeg,aaJ,bne_self_eq_false,ge_iff_le,gt_iff_lt]
 | v::r,i,a,hr,hi,ha=>by
  have hi:i<l.length:=by
   rcases agB i l.length with h | h
   ·exact h
   ·rw[ae8 h] at hr;cases hr
  have hv:l[i]? = some v:=by
   have:=congrArg (fun z=>z[0]?) hr
   simpa using this
  have dg:l.drop (i+1)=r:=by
   rw[<-ago,hr];rfl
  have cH:(bs l)[i]? = some (.int .u8 (v:Int)):=by simp[bs,hv]
  have nF:=hb v (abY hv)
  obtain⟨q,q1,q2⟩:=hx.s7 cH .i64
  have d:decide (((i:Nat):Int)<((l.length:Nat):Int))=true:=decide_eq_true (by omega)
  have w1:IntKind.wrap .u64 (v:Int)=v:=p6 rfl (by show v<18446744073709551616;omega)
  have m1:uQ (.int .i64 8) (.int .i64 (i:Nat))=some (.int .i64 ((8*i:Nat):Int)):=by
   rw[ag,wrap_i64 (by omega) (by omega)];rfl
  have hp:256 ^ (i+1)<=256 ^ 8:=Nat.pow_le_pow_right (by decide) (by omega)
  have sI:0<256 ^ i:=Nat.pow_pos (by decide)
  have iJ:256 ^ (i+1)=256 ^ i*256:=agk ..
  have hvm:v*256 ^ i+a<256 ^ (i+1):=by
   have:=ac2 (256 ^ i) (show v+1<=256 by omega)
   rw[adC,ag0] at this
   rw[iJ,ahs (256 ^ i) 256]
   omega
  have h8:(256:Nat) ^ 8=18446744073709551616:=by decide
  have m2:sV (.int .u64 (v:Nat)) (.int .i64 ((8*i:Nat):Int))=some (.int .u64 ((v*256 ^ i:Nat):Int)):=by
   rw[Nk,show min (8*i) IntKind.u64.bits=8*i from ad3 (by show 8*i<=64;omega),Nat.pow_mul]
   rw[show (2:Nat) ^ 8=256 from rfl,p6 rfl (show v*256 ^ i<18446744073709551616 by omega)]
  have ho:a ||| v*256 ^ i=v*256 ^ i+a:=by
   have h2:(256:Nat) ^ i=2 ^ (8*i):=by rw[Nat.pow_mul]
   rw[h2] at ha ⊢
   exact QV ha
  have m3:rp (.int .u64 (a:Nat)) (.int .u64 ((v*256 ^ i:Nat):Int))=some (.int .u64 ((v*256 ^ i+a:Nat):Int)):=by
   have:=U6 (k := .u64) (a:=a) (b:=v*256 ^ i) (by show a<18446744073709551616;omega) (by show v*256 ^ i<18446744073709551616;omega) (by rw[ho];exact p6 rfl (by show v*256 ^ i+a<18446744073709551616;omega))
   rw[ho] at this
   exact this
  have e3:df (.int .i64 (i:Nat)) (.int .i64 1)=some (.int .i64 ((i+1:Nat):Int)):=vm (b:=1) (by omega)
  rw[af] at e3
  rw[ag] at m1
  have ih:=Xu (k:=k) hx hb hl r (i+1) (v*256 ^ i+a) dg (by omega) hvm
  rw[X8]
  simp only[Te,d,q1,q2,w1,m1,m2,m3,e3,az,bd,aw,av,bG,aH,au,ak,aK,aA,aP,bK,aE,bO,bC,aR,bu,ay,bF,aT,aC,bq,aU,bI,bM,ba,aI,aW,aQ,ar,aV,a7,bS,aF,aO,bt,bJ,aN,aM,aD,bB,br,aY,bQ,bT,bk,bH,af,bp,ag,bP,ah,aB,aG,bw,bA,bR,aL,bN,bD,bo,aj,bh,bg,aq,ai,aS,a8,aZ,bE,aJ,nq,gk,wc,yL,yB,decide_true,decide_false,Int.reduceBEq,Int.reduceBNe,Int.reduceLT,Int.reduceLE,Int.reduceGT,Int.reduceGE,Int.reduceNeg,aaJ,bne_self_eq_false,ge_iff_le,gt_iff_lt]
  rw[ih]
  congr 3
  rw[ud,iJ,Nat.mul_add,ahs v,Nat.mul_assoc]
  omega
theorem Fc {H:Hp}{x:AV}{l:List Nat}(hx:Rw H 1 x (bs l))(hb:∀ b∈l,b<256)(hl:l.length<=8):cK (.func (.func 84) [] []) [x] H=some (.int .u64 ((ud l:Nat):Int),H):=by
 refine adV ?_
 unfold abj
 have hn:=hx.il
 rw[gu] at hn
 have lp:=fun (k:K.Fn 1)=>Xu (k:=k) hx hb hl l 0 0 rfl (ack _) (by decide)
 rw[show (((0:Nat):Int))=0 from rfl] at lp
 simp only[Nat.pow_zero,ag0,wc] at lp
 simp only[hn,lp,az,bd,aw,av,bG,aH,au,ak,aK,aA,aP,bK,aE,bO,bC,aR,bu,ay,bF,aT,aC,bq,aU,bI,bM,ba,aI,aW,aQ,ar,aV,a7,bS,aF,aO,bt,bJ,aN,aM,aD,bB,br,aY,bQ,bT,bk,bH,af,bp,ag,bP,ah,aB,aG,bw,bA,bR,aL,bN,bD,bo,aj,bh,bg,aq,ai,aS,a8,aZ,bE,aJ,nq,gk,wc,yL,yB,decide_true,decide_false,Int.reduceBEq,Int.reduceBNe,Int.reduceLT,Int.reduceLE,Int.reduceGT,Int.reduceGE,Int.reduceNeg,aaJ,bne_self_eq_false,ge_iff_le,gt_iff_lt]
theorem aiW {H:Hp}(n:Nat)(hn:n<=16777215):∃ y H',cK (.func (.func 59) [] []) [.ae,.int .i64 n] H=some (y,H')/\Ow H' 5 1 y []/\Out [] H H'/\(∀ j∈aa y,H.next<=j):=by
 have c0:∀ H:Hp,fx P .cap #[28] [.ae] H=some (.int .i64 0,H):=fun H=>by kernel_rfl
 have d0:decide (((n:Nat):Int)<0)=false:=decide_eq_false (by omega)
 have w0:=A9 (a:=n) (by omega)
 by_cases h:n=0
 ·subst h
  refine⟨.ae,H,Yj ?_,.nil,Out.refl _ _,fun j hj=>by cases hj⟩
  unfold PF
  have NQ:IntKind.wrap .i64 0=0:=by decide
  rw[show (((0:Nat):Int))=0 from rfl] at *
  simp only[c0,d0,NQ,Int.sub_self,Int.sub_zero,az,bd,aw,av,bG,aH,au,ak,aK,aA,aP,bK,aE,bO,bC,aR,bu,ay,bF,aT,aC,bq,aU,bI,bM,ba,aI,aW,aQ,ar,aV,a7,bS,aF,aO,bt,bJ,aN,aM,aD,bB,br,aY,bQ,bT,bk,bH,af,bp,ag,bP,ah,aB,aG,bw,bA,bR,aL,bN,bD,bo,aj,bh,bg,aq,ai,aS,a8,aZ,bE,aJ,nq,gk,wc,yL,yB,decide_true,decide_false,Int.reduceBEq,Int.reduceBNe,Int.reduceLT,Int.reduceLE,Int.reduceGT,Int.reduceGE,Int.reduceNeg,aaJ,bne_self_eq_false,ge_iff_le,gt_iff_lt]
 ·have d1:decide (0<((n:Nat):Int))=true:=decide_eq_true (by omega)
  obtain⟨x',s1,s2,s3⟩:=DA (n:=0) (a:=0) (b:=0) (Ow.nil (H:=H) (el:=5) (es:=1)) rfl (by omega) (lo:=none) (hi:=some (.int .i64 ((0:Nat):Int))) (zf _) (zf _) (Bd.no 0) (Bd.yes _ _ _)
  have s2':Ow H 5 1 x' []:=by simpa using s2
  obtain⟨y,H',a1,a2,a3,a4⟩:=alJ (n:=n) s2' (by simp;omega)
  obtain⟨z,t1,t2,t3⟩:=DA (n:=n) (a:=0) (b:=0) a2 (by simp) (by omega) (lo:=none) (hi:=some (.int .i64 ((0:Nat):Int))) (zf _) (ack _) (Bd.no 0) (Bd.yes _ _ _)
  have hx:∀ j∈aa x',False:=fun j hj=>by have:=s3 j hj;cases this
  refine⟨z,H',Yj ?_,by simpa using t2,⟨a3.1,fun j hj _=>a3.2 j hj fun q=>hx j q⟩,fun j hj=>(a4 j (t3 j hj)).elim (fun q=>(hx j q).elim) id⟩
  unfold PF
  have NQ:IntKind.wrap .i64 0=0:=by decide
  rw[show (((0:Nat):Int))=0 from rfl] at s1 t1
  simp only[c0,d0,d1,NQ,w0,s1,a1,t1,Int.sub_self,Int.sub_zero,az,bd,aw,av,bG,aH,au,ak,aK,aA,aP,bK,aE,bO,bC,aR,bu,ay,bF,aT,aC,bq,aU,bI,bM,ba,aI,aW,aQ,ar,aV,a7,bS,aF,aO,bt,bJ,aN,aM,aD,bB,br,aY,bQ,bT,bk,bH,af,bp,ag,bP,ah,aB,aG,bw,bA,bR,aL,bN,bD,bo,aj,bh,bg,aq,ai,aS,a8,aZ,bE,aJ,nq,gk,wc,yL,yB,decide_true,decide_false,Int.reduceBEq,Int.reduceBNe,Int.reduceLT,Int.reduceLE,Int.reduceGT,Int.reduceGE,Int.reduceNeg,aaJ,bne_self_eq_false,ge_iff_le,gt_iff_lt]
theorem Pn {H:Hp}{x:AV}{l:List Nat}(hx:Rw H 1 x (bs l))(hl:l.length<=140737488355328):∃ y H',cK (.func (.func 25) [] []) [x] H=some (y,H')/\Ow H' 5 1 y (bs l)/\Out [] H H'/\(∀ j∈aa y,H.next<=j):=U7 hx hl
structure vc (H:Hp)(i:Nat)(cs:List AV)(ls:List (List Nat))(el fl:Nat):Prop where
 ob:Cs H i cs el fl
 len:cs.length=ls.length
 row:∀ (j:Nat) (c:AV) (l:List Nat),cs[j]? = some c->ls[j]? = some l->Rw H 1 c (bs l)
theorem vc.out {H H':Hp}{i:Nat}{cs:List AV}{ls:List (List Nat)}{el fl:Nat}(h:vc H i cs ls el fl)(k:Out [] H H'):vc H' i cs ls el fl:=
 ⟨h.ob.out k (fun q=>by cases q),h.len,fun j c l h1 h2=>(h.row j c l h1 h2).out k fun j hj q=>by cases q⟩
theorem vc.at {H:Hp}{i:Nat}{cs:List AV}{ls:List (List Nat)}{el fl:Nat}(h:vc H i cs ls el fl){j:Nat}{l:List Nat}{r:List (List Nat)}(hr:ls.drop j=l::r):j<ls.length/\ls.drop (j+1)=r/\
  ∃ c,ia 1 (.slice i 0 ls.length ls.length true 1) (.int .i64 (j:Nat))=some (.ptr i j)/\ld (.ptr i j) H=some c/\Rw H 1 c (bs l):=by
 have hj:j<ls.length:=by
  rcases agB j ls.length with q | q
  ·exact q
  ·rw[ae8 q] at hr;cases hr
 have hl:ls[j]? = some l:=by
  have:=congrArg (fun z=>z[0]?) hr
  simpa using this
 have dg:ls.drop (j+1)=r:=by
  rw[<-ago,hr];rfl
 have hjc:j<cs.length:=by rw[h.len];exact hj
 have hc:cs[j]? = some cs[j]:=abb hjc
 refine⟨hj,dg,cs[j],?_,h.ob.ld hc,h.row j _ l hc hl⟩
 have:=xt (es:=1) (i:=i) (off:=0) (cap:=ls.length) (ex:=true) (k := .i64) hj
 rw[wc,adO] at this
 exact this
theorem YT {k:K.Fn 2}{H:Hp}{i:Nat}{cs:List AV}{ls:List (List Nat)}{el fl:Nat}(h:vc H i cs ls el fl)(hn:ls.length<=1000):∀ (r:List (List Nat)) (j a:Nat),ls.drop j=r->a+r.flatten.length<=16777215->
  FH JN GO cK k (.slice i 0 ls.length ls.length true 1) (.int .i64 (a:Nat)) (.slice i 0 ls.length ls.length true 1) (.int .i64 (ls.length:Nat)) (.int .i64 (j:Nat)) H=k (.slice i 0 ls.length ls.length true 1) (.int .i64 ((a+r.flatten.length:Nat):Int)) H
 | [],j,a,hr,ha=>by
  rw[ZN]
  have:ls.length<=j:=by simpa using hr
  have d:decide (((j:Nat):Int)<((ls.length:Nat):Int))=false:=decide_eq_false (by omega)
  simp only[SY,d,List.flatten_nil,abQ,acJ,az,bd,aw,av,bG,aH,au,ak,aK,aA,aP,bK,aE,bO,bC,aR,bu,ay,bF,aT,aC,bq,aU,bI,bM,ba,aI,aW,aQ,ar,aV,a7,bS,aF,aO,bt,bJ,aN,aM,aD,bB,br,aY,bQ,bT,bk,bH,af,bp,ag,bP,ah,aB,aG,bw,bA,bR,aL,bN,bD,bo,aj,bh,bg,aq,ai,aS,a8,aZ,bE,aJ,nq,gk,wc,yL,yB,decide_true,decide_false,Int.reduceBEq,Int.reduceBNe,Int.reduceLT,Int.reduceLE,Int.reduceGT,Int.reduceGE,Int.reduceNeg,aaJ,bne_self_eq_false,ge_iff_le,gt_iff_lt]
 | l::r,j,a,hr,ha=>by
  obtain⟨hj,dg,c,c1,c2,c3⟩:=h.at hr
  rw[ae0,aaO] at ha
  have hl:=c3.il
  rw[gu] at hl
  have d:decide (((j:Nat):Int)<((ls.length:Nat):Int))=true:=decide_eq_true (by omega)
  have a1:df (.int .i64 (a:Nat)) (.int .i64 (l.length:Nat))=some (.int .i64 ((a+l.length:Nat):Int)):=vm (by omega)
  have d1:decide (((a+l.length:Nat):Int)<0)=false:=decide_eq_false (by omega)
  have a2:df (.int .i64 (j:Nat)) (.int .i64 1)=some (.int .i64 ((j+1:Nat):Int)):=vm (b:=1) (by omega)
  rw[af] at a1 a2
  have ih:=YT (k:=k) h hn r (j+1) (a+l.length) dg (by omega)
  rw[ZN]
  simp only[SY,d,c1,c2,hl,a1,d1,a2,az,bd,aw,av,bG,aH,au,ak,aK,aA,aP,bK,aE,bO,bC,aR,bu,ay,bF,aT,aC,bq,aU,bI,bM,ba,aI,aW,aQ,ar,aV,a7,bS,aF,aO,bt,bJ,aN,aM,aD,bB,br,aY,bQ,bT,bk,bH,af,bp,ag,bP,ah,aB,aG,bw,bA,bR,aL,bN,bD,bo,aj,bh,bg,aq,ai,aS,a8,aZ,bE,aJ,nq,gk,wc,yL,yB,decide_true,decide_false,Int.reduceBEq,Int.reduceBNe,Int.reduceLT,Int.reduceLE,Int.reduceGT,Int.reduceGE,Int.reduceNeg,aaJ,bne_self_eq_false,ge_iff_le,gt_iff_lt]
  rw[ih,ae0,aaO,aeh]
theorem ZV {k:K.Fn 1}{H0:Hp}{i:Nat}{cs:List AV}{ls:List (List Nat)}{el fl:Nat}(h:vc H0 i cs ls el fl)(hn:ls.length<=1000):∀ (r:List (List Nat)) (j:Nat) (s:AV) (l:List Nat) (H:Hp),ls.drop j=r->l.length+r.flatten.length<=16777215->
  Out [] H0 H->Ow H 5 1 s (bs l)->(∀ j∈aa s,H0.next<=j)->
  ∃ s' H',FE JN GO cK k s (.slice i 0 ls.length ls.length true 1) (.int .i64 (ls.length:Nat)) (.int .i64 (j:Nat)) H=k s' H'/\Out [] H0 H'/\Ow H' 5 1 s' (bs (l++r.flatten))/\(∀ j∈aa s',H0.next<=j)
 | [],j,s,l,H,hr,ha,ho,hs,hf=>by
  refine⟨s,H,?_,ho,by simpa using hs,hf⟩
  rw[UC]
  have:ls.length<=j:=by simpa using hr
  have d:decide (((j:Nat):Int)<((ls.length:Nat):Int))=false:=decide_eq_false (by omega)
  simp only[N3,d,az,bd,aw,av,bG,aH,au,ak,aK,aA,aP,bK,aE,bO,bC,aR,bu,ay,bF,aT,aC,bq,aU,bI,bM,ba,aI,aW,aQ,ar,aV,a7,bS,aF,aO,bt,bJ,aN,aM,aD,bB,br,aY,bQ,bT,bk,bH,af,bp,ag,bP,ah,aB,aG,bw,bA,bR,aL,bN,bD,bo,aj,bh,bg,aq,ai,aS,a8,aZ,bE,aJ,nq,gk,wc,yL,yB,decide_true,decide_false,Int.reduceBEq,Int.reduceBNe,Int.reduceLT,Int.reduceLE,Int.reduceGT,Int.reduceGE,Int.reduceNeg,aaJ,bne_self_eq_false,ge_iff_le,gt_iff_lt]
 | x::r,j,s,l,H,hr,ha,ho,hs,hf=>by
  obtain⟨hj,dg,c,c1,c2,c3⟩:=(h.out ho).at hr
  rw[ae0,aaO] at ha
  have d:decide (((j:Nat):Int)<((ls.length:Nat):Int))=true:=decide_eq_true (by omega)
  have a2:df (.int .i64 (j:Nat)) (.int .i64 1)=some (.int .i64 ((j+1:Nat):Int)):=vm (b:=1) (by omega)
  rw[af] at a2
  obtain⟨s',H',b1,b2,b3,b4⟩:=tJ (z:=[.int .u8 0]) hs c3 (CJ _) (by omega) (by rw[gu,gu];omega)
  rw[<-Sd] at b2
  have ez:Out [] H0 H':=ho.then b3 fun j hj => .inr (hf j hj)
  have zS:∀ j∈aa s',H0.next<=j:=fun j hj=>(b4 j hj).elim (hf j) fun q=>abl ho.1 q
  obtain⟨s2,H2,e1,e2,e3,e4⟩:=ZV (k:=k) h hn r (j+1) s' (l++x) H' dg (by rw[aaO];omega) ez b2 zS
  refine⟨s2,H2,?_,e2,?_,e4⟩
  ·rw[UC]
   simp only[N3,d,c1,c2,b1,a2,az,bd,aw,av,bG,aH,au,ak,aK,aA,aP,bK,aE,bO,bC,aR,bu,ay,bF,aT,aC,bq,aU,bI,bM,ba,aI,aW,aQ,ar,aV,a7,bS,aF,aO,bt,bJ,aN,aM,aD,bB,br,aY,bQ,bT,bk,bH,af,bp,ag,bP,ah,aB,aG,bw,bA,bR,aL,bN,bD,bo,aj,bh,bg,aq,ai,aS,a8,aZ,bE,aJ,nq,gk,wc,yL,yB,decide_true,decide_false,Int.reduceBEq,Int.reduceBNe,Int.reduceLT,Int.reduceLE,Int.reduceGT,Int.reduceGE,Int.reduceNeg,aaJ,bne_self_eq_false,ge_iff_le,gt_iff_lt]
   exact e1
  ·rw[ae0,<-adf];exact e3
theorem afD {H:Hp}{i:Nat}{cs:List AV}{ls:List (List Nat)}{el fl:Nat}(h:vc H i cs ls el fl)(hn:ls.length<=1000)(hl:ls.flatten.length<=16777215) :
  ∃ y H',cK (.func (.func 42) [] []) [.slice i 0 ls.length ls.length true 1] H=some (y,H')/\Out [] H H'/\Ow H' 5 1 y (bs ls.flatten)/\(∀ j∈aa y,H.next<=j):=by
 obtain⟨g,H1,g1,g2,g3,g4⟩:=aiW (H:=H) ls.flatten.length hl
 have lp:=fun (k:K.Fn 2)=>YT (k:=k) h hn ls 0 0 rfl (by omega)
 obtain⟨y,H',e1,e2,e3,e4⟩:=ZV (k:=fun x h=>some (x,h)) h hn ls 0 g [] H1 rfl (by simpa using hl) g3 g2 g4
 rw[show (((0:Nat):Int))=0 from rfl] at lp e1
 simp only[wc] at lp
 refine⟨y,H',aft ?_,e2,by simpa using e3,e4⟩
 unfold V2
 simp only[lp,g1,az,bd,aw,av,bG,aH,au,ak,aK,aA,aP,bK,aE,bO,bC,aR,bu,ay,bF,aT,aC,bq,aU,bI,bM,ba,aI,aW,aQ,ar,aV,a7,bS,aF,aO,bt,bJ,aN,aM,aD,bB,br,aY,bQ,bT,bk,bH,af,bp,ag,bP,ah,aB,aG,bw,bA,bR,aL,bN,bD,bo,aj,bh,bg,aq,ai,aS,a8,aZ,bE,aJ,nq,gk,wc,yL,yB,decide_true,decide_false,Int.reduceBEq,Int.reduceBNe,Int.reduceLT,Int.reduceLE,Int.reduceGT,Int.reduceGE,Int.reduceNeg,aaJ,bne_self_eq_false,ge_iff_le,gt_iff_lt]
 exact e1
theorem B4 (k:IntKind)(a:Int):same (.int k a) (.int k a)=true:=by cases k<;>simp[same,nb]
theorem Bu {H:Hp}{es:Nat}{x:AV}{l:List AV}(h:Rw H es x l):same x x=true:=by
 cases h<;>simp[same,nb]
theorem Hu {H:Hp}{es:Nat}{x:AV}{l:List AV}(h:Rw H es x l):kx x=some [x]:=by
 cases h<;>rfl
theorem oU {H:Hp}{es:Nat}{x:AV}{l:List AV}(h:Rw H es x l)(a:Int):kx (.agg [.int .u64 a,x])=some [.int .u64 a,x]:=by
 cases h<;>rfl
def gL (at':Nat)(b:List Nat):List Nat:=le 4 b.length++le 8 at'
def fr (at':Nat)(b:List Nat):List Nat:=gL at' b++le 4 (fL 1 (gL at' b++b))++b
theorem A8 (a:Nat)(b:List Nat):(gL a b).length=12:=by simp[gL,ux]
theorem pj (a:Nat)(b:List Nat):(fr a b).length=16+b.length:=by simp[fr,A8,ux];omega
theorem abt (a:Nat)(b:List Nat):∀ x∈gL a b,x<256:=fun x hx=>(aac.1 hx).elim (J3 _ _ x) (J3 _ _ x)
theorem akj {H:Hp}{x y:AV}{l b:List Nat}{at':Nat}(hx:Rw H 1 x (bs l))(hy:Rw H 1 y (bs b))(ha:at'<18446744073709551616)(hb:∀ v∈b,v<256)(hn:b.length<=1024)(hl:l.length<=1000000) :
  ∃ z H',cK (.func (.func 26) [] []) [x,.agg [.int .u64 at',y]] H=some (.tuple [z,.int .i64 0],H')/\Out [] H H'/\Ow H' 5 1 z (bs (l++fr at' b))/\(∀ j∈aa z,H.next<=j):=by
 have tA:=oU hy (at':Int)
 obtain⟨H1,b1,b2,b3,b4⟩:=xC H 37 _ _ tA (by simp)
 have fS:=hy.il
 rw[gu] at fS
 have d1:decide (1024<((b.length:Nat):Int))=false:=decide_eq_false (by omega)
 have w1:IntKind.wrap .u64 ((b.length:Nat):Int)=b.length:=p6 rfl (by show b.length<18446744073709551616;omega)
 have l1:ld (.ptr H.next 1) H1=some y:=b2.ld rfl
 obtain⟨s1,H2,n1,n2,n3,n4⟩:=QX (v:=b.length) (n:=4) (by omega) (by decide) (Ow.nil (H:=H1) (el:=5) (es:=1)) (by simp) (l:=[])
 rw[adt] at n2
 have f1:∀ j∈aa s1,H1.next<=j:=fun j hj=>(n4 j hj).elim (fun q=>by cases q) id
 have o2:Out [] H1 H2:=n3
 have r2:=b2.out o2 (fun q=>by cases q)
 obtain⟨s2,H3,m1,m2,m3,m4⟩:=QX (v:=at') (n:=8) ha (by decide) n2 (by rw[ux];decide)
 have o3:Out [] H1 H3:=o2.then m3 fun j hj => .inr (f1 j hj)
 have f2:∀ j∈aa s2,H1.next<=j:=fun j hj=>(m4 j hj).elim (f1 j) fun q=>abl o2.1 q
 have r3:=b2.out o3 (fun q=>by cases q)
 have l2:ld (.ptr H.next 0) H2=some (.int .u64 (at':Int)):=r2.ld rfl
 have l2':ld (.ptr H.next 0) H1=some (.int .u64 (at':Int)):=b2.ld rfl
 have l3:ld (.ptr H.next 1) H3=some y:=r3.ld rfl
 have FY:Out [] H H3:=b3.trans o3
 have Al:=hy.out FY fun j _ q=>by cases q
 have e1:=uW (l:=gL at' b) m2.rw (abt _ _) (by rw[A8];decide)
 have g1:=Hh (s:=1) (by decide) (gL at' b)
 have e2:=GJ Al hb (by omega) g1.1 g1.2
 rw[Xd (by decide)] at e2
 have g2:=Hh (s:=1) (by decide) (gL at' b++b)
 have w2:IntKind.wrap .u64 ((fL 1 (gL at' b++b):Nat):Int)=((fL 1 (gL at' b++b):Nat):Int):=p6 rfl (ahZ g2.1 (by decide))
 obtain⟨s3,H4,p1,p2,p3,p4⟩:=QX (v:=fL 1 (gL at' b++b)) (n:=4) (ahZ g2.1 (by decide)) (by decide) m2 (by
  have:=A8 at' b
  unfold gL at this
  rw[this];decide)
 have o4:Out [] H1 H4:=o3.then p3 fun j hj => .inr (f2 j hj)
 have r4:=b2.out o4 (fun q=>by cases q)
 have l4:ld (.ptr H.next 1) H4=some y:=r4.ld rfl
 have xG:Out [] H H4:=b3.trans o4
 have hx4:=hx.out xG fun j _ q=>by cases q
 have hy4:=hy.out xG fun j _ q=>by cases q
 have fl3:fl [.ae,.ae,.ae] [(0,1,x),(1,1,s3),(2,1,y)]=some [x,s3,y]:=by
  have c1:=Hu hx
  have c2:=Hu p2.rw
  have c3:=Hu hy
  simp[fl,c1,c2,c3]
 obtain⟨H5,q1,q2,q3,q4⟩:=iI H4 [x,s3,y] 28 0 (by simp)
 have no:∀ (v:AV) (j:Nat),j∈aa v->j∉([]:List Nat):=fun v j _ q=>by cases q
 have gV:vc H5 H4.next [x,s3,y] [l,gL at' b++le 4 (fL 1 (gL at' b++b)),b] 28 0:=by
  refine⟨q2,rfl,fun j c m h1 h2 => ?_⟩
  match j,h1,h2 with
  | 0,h1,h2=>cases h1;cases h2;exact hx4.out q3 (no _)
  | 1,h1,h2=>cases h1;cases h2;exact p2.rw.out q3 (no _)
  | 2,h1,h2=>cases h1;cases h2;exact hy4.out q3 (no _)
 obtain⟨z,H6,z1,z2,z3,z4⟩:=afD gV (by simp) (by simp[A8,ux];omega)
 have l6:ld (.ptr H.next 1) H3=some y:=l3
 refine⟨z,H6,acm ?_,(xG.trans q3).trans z2,?_,fun j hj=>abl (xG.trans q3).1 (z4 j hj)⟩
 ·unfold QP
  rw[show (([l,gL at' b++le 4 (fL 1 (gL at' b++b)),b]:List (List Nat)).length)=3 from rfl] at z1
  have Bv:=n1
  have V0:=m1
  have Km:=p1
  rw[show (((4:Nat):Int))=4 from rfl] at Bv Km
  rw[show (((8:Nat):Int))=8 from rfl] at V0
  simp only[b1,l1,fS,d1,w1,Bv,l2,l2',V0,eX (B4 .u64 (at':Int)),e1,l3,e2,eX (Bu hy),w2,Km,l4,fl3,q1,z1,az,bd,aw,av,bG,aH,au,ak,aK,aA,aP,bK,aE,bO,bC,aR,bu,ay,bF,aT,aC,bq,aU,bI,bM,ba,aI,aW,aQ,ar,aV,a7,bS,aF,aO,bt,bJ,aN,aM,aD,bB,br,aY,bQ,bT,bk,bH,af,bp,ag,bP,ah,aB,aG,bw,bA,bR,aL,bN,bD,bo,aj,bh,bg,aq,ai,aS,a8,aZ,bE,aJ,nq,gk,wc,yL,yB,decide_true,decide_false,Int.reduceBEq,Int.reduceBNe,Int.reduceLT,Int.reduceLE,Int.reduceGT,Int.reduceGE,Int.reduceNeg,aaJ,bne_self_eq_false,ge_iff_le,gt_iff_lt]
 ·have:fr at' b=(gL at' b++le 4 (fL 1 (gL at' b++b)))++b:=rfl
  rw[this]
  simpa using z3
theorem qo {H:Hp}{i n:Nat}{l cs:List AV}{el fl:Nat}{v:AV}(h:Cs H i l el fl)(hf:fl<=1)(hv:kx v=some cs)(hl:cs.length=n)(hn:l.length=n)(ho:∀ v∈cs,dF v=true) :
  ∃ H',st n (.ptr i 0) v H=some H'/\Cs H' i cs el fl/\Out [i] H H'/\H'.next=H.next:=by
 obtain⟨hi,c,hc,hg⟩:=h
 obtain⟨H',c',q1,q2,q3,q4,q5⟩:=CC cs H i 0 c 0 l.length el fl hc hf (zf _) (by omega) (fun k hk=>by
  have lR:k<l.length:=by omega
  rw[wc,hg k l[k] (abb lR)];rfl) ho
 refine⟨H',?_,⟨by omega,c',?_,fun k w hk => ?_⟩,⟨by omega,fun j hj hn=>q4 j (by simpa using hn)⟩,q2⟩
 ·unfold st
  simp only[hv]
  rw[show Nat.beq n cs.length=true by rw[hl];exact Nat.beq_refl n]
  exact q1
 ·rw[q3,hl,hn]
 ·rw[q5 k,if_pos ⟨ack _,by have:=(aaL.1 hk).1;omega⟩,adD]
  exact hk
def gN (l:List Nat):Nat:=ud (l.take 4)
def gB (l:List Nat):List Nat:=(l.drop 16).take (gN l)
def gA (l:List Nat):Nat:=ud ((l.drop 4).take 8)
def gE (l:List Nat):Nat:=
 if l.length<4 then 3 else if 1024<gN l then 14 else if l.length<16+gN l then 3 else
 if fL 1 (l.take 12++gB l)≠ud ((l.drop 12).take 4) then 2 else 0
theorem vK {H:Hp}{es:Nat}{x:AV}{l:List AV}(h:Rw H es x l):dF x=true:=by
 cases h<;>rfl
theorem bsd (a:Nat)(l:List Nat):bs (l.drop a)=(bs l).drop a:=by simp[bs,List.map_drop]
theorem bst (a:Nat)(l:List Nat):bs (l.take a)=(bs l).take a:=by simp[bs,List.map_take]
theorem vS {H:Hp}{x:AV}{l:List Nat}(hx:Rw H 1 x (bs l)){a b:Nat}(qO:a<=b)(hb:b<=l.length){lo hi:Option AV}(ec:Bd lo a 0)(eg:Bd hi b l.length) :
  ∃ x',dC 1 x lo hi none=some x'/\Rw H 1 x' (bs ((l.drop a).take (b-a))):=by
 obtain⟨x',h1,h2,_⟩:=MD hx (n:=l.length) (by rw[gu,adO]) (by omega) qO hb ec eg
 refine⟨x',h1,?_⟩
 rw[adO,adO] at h2
 rw[bst,bsd]
 exact h2
theorem ajo {H:Hp}{x:AV}{l:List Nat}(hx:Rw H 1 x (bs l))(hb:∀ b∈l,b<256)(hl:l.length<=16000000) :
  ∃ y H',cK (.func (.func 67) [] []) [x] H=some (.tuple [.agg [.int .u64 ((if gE l=0 then gA l else 0:Nat):Int),y],.int .i64 ((if gE l=0 then 16+gN l else 0:Nat):Int),.int .i64 ((gE l:Nat):Int)],H')/\
   Out [] H H'/\Ow H' 5 1 y (bs (if gE l=0 then gB l else []))/\(∀ j∈aa y,H.next<=j):=by
 obtain⟨H1,n1,n2,n3,n4⟩:=iI H [.int .u64 0,.ae] 37 0 (by simp)
 obtain⟨H2,t1,t2,t3,t4⟩:=qo (n:=2) n2 (by omega) (v := .agg [.int .u64 0,.ae]) (cs:=[.int .u64 0,.ae]) rfl rfl rfl (by
  intro v hv
  rcases aap.1 hv with rfl | hv
  ·rfl
  ·rcases aap.1 hv with rfl | hv
   ·rfl
   ·cases hv)
 have t5:cn 2 (.ptr H.next 0) H2=some (.agg [.int .u64 0,.ae]):=t2.cn (n:=2) (o:=0) (by simp)
 have o2:Out [] H H2:=n3.then t3 fun j hj=>by
  rw[yX] at hj
  exact .inr (by omega)
 have kZ:=hx.out n3 fun j _ q=>by cases q
 have hn:=hx.il
 rw[gu] at hn
 have jO:¬ (3:Nat)=0:=by decide
 have He:¬ (14:Nat)=0:=by decide
 have dA:¬ (2:Nat)=0:=by decide
 have sub:∀ a b,∀ v∈(l.drop a).take b,v<256:=fun a b v hv=>hb v (agl (adb hv))
 by_cases c1:l.length<4
 ·have ge:gE l=3:=if_pos c1
  rw[ge,if_neg jO,if_neg jO,if_neg jO]
  refine⟨.ae,H2,ES ?_,o2,.nil,fun j hj=>by cases hj⟩
  unfold Bl
  have d1:decide (((l.length:Nat):Int)<4)=true:=decide_eq_true (by omega)
  simp only[n1,hn,d1,FX,t1,t5,az,bd,aw,av,bG,aH,au,ak,aK,aA,aP,bK,aE,bO,bC,aR,bu,ay,bF,aT,aC,bq,aU,bI,bM,ba,aI,aW,aQ,ar,aV,a7,bS,aF,aO,bt,bJ,aN,aM,aD,bB,br,aY,bQ,bT,bk,bH,af,bp,ag,bP,ah,aB,aG,bw,bA,bR,aL,bN,bD,bo,aj,bh,bg,aq,ai,aS,a8,aZ,bE,aJ,nq,gk,wc,yL,yB,decide_true,decide_false,Int.reduceBEq,Int.reduceBNe,Int.reduceLT,Int.reduceLE,Int.reduceGT,Int.reduceGE,Int.reduceNeg,aaJ,bne_self_eq_false,ge_iff_le,gt_iff_lt]
  rfl
 ·have d1:decide (((l.length:Nat):Int)<4)=false:=decide_eq_false (by omega)
  obtain⟨x4,u1,u2⟩:=vS kZ (a:=0) (b:=4) (ack _) (by omega) (lo:=none) (hi:=some (.int .i64 ((4:Nat):Int))) (Bd.no 0) (Bd.yes _ _ _)
  have r4:=Fc u2 (sub _ _) (by simp;omega)
  have e4:ud ((l.drop 0).take (4-0))=gN l:=rfl
  rw[e4] at r4
  have b4:gN l<4294967296:=by
   have:=LW (l.take 4) fun v hv=>hb v (adb hv)
   rw[abN,ad3 (by omega)] at this
   exact this
  have w4:=A9 (a:=gN l) (by omega)
  rw[show (((4:Nat):Int))=4 from rfl] at u1
  by_cases c2:1024<gN l
  ·have ge:gE l=14:=by unfold gE;rw[if_neg c1,if_pos c2]
   rw[ge,if_neg He,if_neg He,if_neg He]
   refine⟨.ae,H2,ES ?_,o2,.nil,fun j hj=>by cases hj⟩
   unfold Bl
   have d2:decide (1024<((gN l:Nat):Int))=true:=decide_eq_true (by omega)
   simp only[n1,hn,d1,u1,r4,w4,d2,FX,t1,t5,az,bd,aw,av,bG,aH,au,ak,aK,aA,aP,bK,aE,bO,bC,aR,bu,ay,bF,aT,aC,bq,aU,bI,bM,ba,aI,aW,aQ,ar,aV,a7,bS,aF,aO,bt,bJ,aN,aM,aD,bB,br,aY,bQ,bT,bk,bH,af,bp,ag,bP,ah,aB,aG,bw,bA,bR,aL,bN,bD,bo,aj,bh,bg,aq,ai,aS,a8,aZ,bE,aJ,nq,gk,wc,yL,yB,decide_true,decide_false,Int.reduceBEq,Int.reduceBNe,Int.reduceLT,Int.reduceLE,Int.reduceGT,Int.reduceGE,Int.reduceNeg,aaJ,bne_self_eq_false,ge_iff_le,gt_iff_lt]
   rfl
  ·have d2:decide (1024<((gN l:Nat):Int))=false:=decide_eq_false (by omega)
   have SV:IntKind.wrap .i64 (16+((gN l:Nat):Int))=((16+gN l:Nat):Int):=by rw[wrap_i64 (by omega) (by omega)];rfl
   by_cases c3:l.length<16+gN l
   ·have ge:gE l=3:=by unfold gE;rw[if_neg c1,if_neg c2,if_pos c3]
    rw[ge,if_neg jO,if_neg jO,if_neg jO]
    refine⟨.ae,H2,ES ?_,o2,.nil,fun j hj=>by cases hj⟩
    unfold Bl
    have d3:decide (((l.length:Nat):Int)<((16+gN l:Nat):Int))=true:=decide_eq_true (by omega)
    simp only[n1,hn,d1,u1,r4,w4,d2,SV,d3,FX,t1,t5,az,bd,aw,av,bG,aH,au,ak,aK,aA,aP,bK,aE,bO,bC,aR,bu,ay,bF,aT,aC,bq,aU,bI,bM,ba,aI,aW,aQ,ar,aV,a7,bS,aF,aO,bt,bJ,aN,aM,aD,bB,br,aY,bQ,bT,bk,bH,af,bp,ag,bP,ah,aB,aG,bw,bA,bR,aL,bN,bD,bo,aj,bh,bg,aq,ai,aS,a8,aZ,bE,aJ,nq,gk,wc,yL,yB,decide_true,decide_false,Int.reduceBEq,Int.reduceBNe,Int.reduceLT,Int.reduceLE,Int.reduceGT,Int.reduceGE,Int.reduceNeg,aaJ,bne_self_eq_false,ge_iff_le,gt_iff_lt]
    rfl
   ·have d3:decide (((l.length:Nat):Int)<((16+gN l:Nat):Int))=false:=decide_eq_false (by omega)
    obtain⟨jo,p1,p2⟩:=vS kZ (a:=0) (b:=12) (ack _) (by omega) (lo:=none) (hi:=some (.int .i64 ((12:Nat):Int))) (Bd.no 0) (Bd.yes _ _ _)
    obtain⟨xb,q1,q2⟩:=vS kZ (a:=16) (b:=16+gN l) (by omega) (by omega) (lo:=some (.int .i64 ((16:Nat):Int))) (hi:=some (.int .i64 ((16+gN l:Nat):Int))) (Bd.yes _ _ _) (Bd.yes _ _ _)
    obtain⟨xs,s1,s2⟩:=vS kZ (a:=12) (b:=16) (by omega) (by omega) (lo:=some (.int .i64 ((12:Nat):Int))) (hi:=some (.int .i64 ((16:Nat):Int))) (Bd.yes _ _ _) (Bd.yes _ _ _)
    obtain⟨xa,v1,v2⟩:=vS kZ (a:=4) (b:=12) (by omega) (by omega) (lo:=some (.int .i64 ((4:Nat):Int))) (hi:=some (.int .i64 ((12:Nat):Int))) (Bd.yes _ _ _) (Bd.yes _ _ _)
    have eB:(l.drop 16).take (16+gN l-16)=gB l:=by rw[aeN];rfl
    rw[eB] at q2
    have hB:∀ v∈gB l,v<256:=sub _ _
    have lB:(gB l).length=gN l:=by unfold gB;rw[abN,adi];omega
    have f1:=uW p2 (sub _ _) (by simp;omega)
    rw[show (l.drop 0).take (12-0)=l.take 12 from rfl] at f1
    have g1:=Hh (s:=1) (by decide) (l.take 12)
    have f2:=GJ q2 hB (by omega) g1.1 g1.2
    rw[Xd (by decide)] at f2
    have g2:=Hh (s:=1) (by decide) (l.take 12++gB l)
    have w2:IntKind.wrap .u64 ((fL 1 (l.take 12++gB l):Nat):Int)=((fL 1 (l.take 12++gB l):Nat):Int):=p6 rfl (ahZ g2.1 (by decide))
    have f3:=Fc s2 (sub _ _) (by simp;omega)
    have f4:=Fc v2 (sub _ _) (by simp;omega)
    rw[show (l.drop 12).take (16-12)=(l.drop 12).take 4 from rfl] at f3
    rw[show ud ((l.drop 4).take (12-4))=gA l from rfl] at f4
    rw[show (((12:Nat):Int))=12 from rfl] at p1 s1 v1
    rw[show (((16:Nat):Int))=16 from rfl] at q1 s1
    rw[show (((4:Nat):Int))=4 from rfl] at v1
    by_cases c4:fL 1 (l.take 12++gB l)≠ud ((l.drop 12).take 4)
    ·have ge:gE l=2:=by unfold gE;rw[if_neg c1,if_neg c2,if_neg c3,if_pos c4]
     rw[ge,if_neg dA,if_neg dA,if_neg dA]
     refine⟨.ae,H2,ES ?_,o2,.nil,fun j hj=>by cases hj⟩
     unfold Bl
     have d4:(((fL 1 (l.take 12++gB l):Nat):Int) != ((ud ((l.drop 12).take 4):Nat):Int))=true:=by rw[bne_iff_ne];omega
     simp only[n1,hn,d1,u1,r4,w4,d2,SV,d3,p1,f1,q1,f2,eX (Bu q2),w2,s1,f3,ah,d4,FX,t1,t5,az,bd,aw,av,bG,aH,au,ak,aK,aA,aP,bK,aE,bO,bC,aR,bu,ay,bF,aT,aC,bq,aU,bI,bM,ba,aI,aW,aQ,ar,aV,a7,bS,aF,aO,bt,bJ,aN,aM,aD,bB,br,aY,bQ,bT,bk,bH,af,bp,ag,bP,ah,aB,aG,bw,bA,bR,aL,bN,bD,bo,aj,bh,bg,aq,ai,aS,a8,aZ,bE,aJ,nq,gk,wc,yL,yB,decide_true,decide_false,Int.reduceBEq,Int.reduceBNe,Int.reduceLT,Int.reduceLE,Int.reduceGT,Int.reduceGE,Int.reduceNeg,aaJ,bne_self_eq_false,ge_iff_le,gt_iff_lt]
     rfl
    ·have ge:gE l=0:=by unfold gE;rw[if_neg c1,if_neg c2,if_neg c3,if_neg c4]
     rw[ge,if_pos rfl,if_pos rfl,if_pos rfl]
     have d4:(((fL 1 (l.take 12++gB l):Nat):Int) != ((ud ((l.drop 12).take 4):Nat):Int))=false:=by rw[bne_eq_false_iff_eq];omega
     obtain⟨y,H3,y1,y2,y3,y4⟩:=Pn q2 (by omega)
     have zT:=n2.out y3 fun q=>by cases q
     have y2c:=Hu y2.rw
     obtain⟨H4,z1,z2,z3,z4⟩:=qo (n:=2) zT (by omega) (oU y2.rw ((gA l:Nat):Int)) rfl rfl (by
      intro v hv
      rcases aap.1 hv with rfl | hv
      ·rfl
      ·rcases aap.1 hv with rfl | hv
       ·exact vK y2.rw
       ·cases hv)
     have z5:cn 2 (.ptr H.next 0) H4=some (.agg [.int .u64 ((gA l:Nat):Int),y]):=z2.cn (n:=2) (o:=0) (by simp)
     have Ct:fl [.int .u64 0,.ae] [(0,1,.int .u64 ((gA l:Nat):Int)),(1,1,y)]=some [.int .u64 ((gA l:Nat):Int),y]:=by
      have ci:kx (.int .u64 ((gA l:Nat):Int))=some [.int .u64 ((gA l:Nat):Int)]:=rfl
      simp[fl,y2c,ci]
     refine⟨y,H4,ES ?_,(n3.trans y3).then z3 fun j hj=>by rw[yX] at hj;exact .inr (by omega),y2.out z3 fun j hj q=>by
      rw[yX] at q
      have:=y4 j hj
      omega,fun j hj=>by have:=y4 j hj;omega⟩
     unfold Bl
     simp only[n1,hn,d1,u1,r4,w4,d2,SV,d3,p1,f1,q1,f2,eX (Bu q2),w2,s1,f3,ah,d4,v1,f4,y1,Ct,z1,z5,az,bd,aw,av,bG,aH,au,ak,aK,aA,aP,bK,aE,bO,bC,aR,bu,ay,bF,aT,aC,bq,aU,bI,bM,ba,aI,aW,aQ,ar,aV,a7,bS,aF,aO,bt,bJ,aN,aM,aD,bB,br,aY,bQ,bT,bk,bH,af,bp,ag,bP,ah,aB,aG,bw,bA,bR,aL,bN,bD,bo,aj,bh,bg,aq,ai,aS,a8,aZ,bE,aJ,nq,gk,wc,yL,yB,decide_true,decide_false,Int.reduceBEq,Int.reduceBNe,Int.reduceLT,Int.reduceLE,Int.reduceGT,Int.reduceGE,Int.reduceNeg,aaJ,bne_self_eq_false,ge_iff_le,gt_iff_lt]
     rfl
def jh:List (Nat × List Nat)->List AV->List AV
 | r::rs,y::ys => .int .u64 (r.1:Nat)::y::jh rs ys
 | _,_=>[]
theorem P3:∀ (a:List (Nat × List Nat)) (x:List AV) (r:Nat × List Nat) (y:AV),x.length=a.length->jh (a++[r]) (x++[y])=jh a x++[.int .u64 (r.1:Nat),y]
 | [],[],r,y,h=>rfl
 | q::a,z::x,r,y,h=>by
  have:=P3 a x r y (by simpa using h)
  show _::_::jh (a++[r]) (x++[y])=_
  rw[this];rfl
theorem wg:∀ (a:List (Nat × List Nat)) (x:List AV),x.length=a.length->(jh a x).length=a.length*2
 | [],[],h=>rfl
 | q::a,z::x,h=>by
  have:=wg a x (by simpa using h)
  simp only[jh,abg,this];omega
structure Rs (H:Hp)(x:AV)(rs:List (Nat × List Nat))(ys:List AV):Prop where
 own:Ow H 37 2 x (jh rs ys)
 len:ys.length=rs.length
 row:∀ (j:Nat) (y:AV) (r:Nat × List Nat),ys[j]? = some y->rs[j]? = some r->Rw H 1 y (bs r.2)
 sep:∀ y∈ys,∀ i∈aa y,i∉aa x
theorem Rs.out {H H':Hp}{x:AV}{rs:List (Nat × List Nat)}{ys:List AV}(h:Rs H x rs ys)(k:Out [] H H'):Rs H' x rs ys:=
 ⟨h.own.out k (fun j _ q=>by cases q),h.len,fun j y r h1 h2=>(h.row j y r h1 h2).out k (fun j _ q=>by cases q),h.sep⟩
def on (l:List Nat)(first ep:Int):Bool:=decide (gE l=0)&&decide (((gA l % 17592186044416:Nat):Int)=first)&&decide (ep<=((gA l / 17592186044416:Nat):Int))
def eE:Nat->List Nat->Int->Int->List (Nat × List Nat) × Nat
 | 0,_,_,_=>([],0)
 | f+1,l,first,ep=>
  if l=[] then ([],0) else
  if on l first ep=true then
   let q:=eE f (l.drop (16+gN l)) (IntKind.wrap .i64 (first+1)) ((gA l / 17592186044416:Nat):Int)
   ((gA l,gB l)::q.1,16+gN l+q.2)
  else ([],0)
theorem XR {l:List Nat}(hb:∀ b∈l,b<256):gA l<18446744073709551616:=by
 have h1:=LW ((l.drop 4).take 8) fun v hv=>hb v (agl (adb hv))
 have h2:((l.drop 4).take 8).length<=8:=by rw[abN];omega
 have h3:256 ^ ((l.drop 4).take 8).length<=256 ^ 8:=Nat.pow_le_pow_right (by decide) h2
 have h8:(256:Nat) ^ 8=18446744073709551616:=by decide
 unfold gA
 omega
theorem Wc {l:List Nat}(h:gE l=0):gN l<=1024/\16+gN l<=l.length:=by
 unfold gE at h
 by_cases c1:l.length<4
 ·rw[if_pos c1] at h;cases h
 rw[if_neg c1] at h
 by_cases c2:1024<gN l
 ·rw[if_pos c2] at h;cases h
 rw[if_neg c2] at h
 by_cases c3:l.length<16+gN l
 ·rw[if_pos c3] at h;cases h
 omega
theorem aaX {k:K.Fn 2}{H0:Hp}{x:AV}{l:List Nat}(hx:Rw H0 1 x (bs l))(hb:∀ b∈l,b<256)(hl:l.length<=16000000):∀ (f n:Nat) (first ep:Int) (s:AV) (rs:List (Nat × List Nat)) (ys:List AV) (H:Hp),
  l.length<=n+f->n<=l.length->Out [] H0 H->Rs H s rs ys->(∀ j∈aa s,H0.next<=j)->(∀ y∈ys,∀ i∈aa y,H0.next<=i)->rs.length*16<=n->
  ∃ s' uJ H',Fk JN GO cK k x (.int .i64 first) (.int .i64 ep) s (.int .i64 (n:Nat)) H=k s' (.int .i64 ((n+(eE f (l.drop n) first ep).2:Nat):Int)) H'/\Out [] H0 H'/\
   Rs H' s' (rs++(eE f (l.drop n) first ep).1) uJ/\(∀ j∈aa s',H0.next<=j)/\(∀ y∈uJ,∀ i∈aa y,H0.next<=i)
 | 0,n,first,ep,s,rs,ys,H,hf,hn,ho,hs,hr,Bg,hc=>by
  have wm:=hx.il
  rw[gu] at wm
  refine⟨s,ys,H,?_,ho,by simpa[eE] using hs,hr,Bg⟩
  rw[Dn]
  have d:decide (((n:Nat):Int)<((l.length:Nat):Int))=false:=decide_eq_false (by omega)
  simp only[xh,wm,d,eE,acJ,az,bd,aw,av,bG,aH,au,ak,aK,aA,aP,bK,aE,bO,bC,aR,bu,ay,bF,aT,aC,bq,aU,bI,bM,ba,aI,aW,aQ,ar,aV,a7,bS,aF,aO,bt,bJ,aN,aM,aD,bB,br,aY,bQ,bT,bk,bH,af,bp,ag,bP,ah,aB,aG,bw,bA,bR,aL,bN,bD,bo,aj,bh,bg,aq,ai,aS,a8,aZ,bE,aJ,nq,gk,wc,yL,yB,decide_true,decide_false,Int.reduceBEq,Int.reduceBNe,Int.reduceLT,Int.reduceLE,Int.reduceGT,Int.reduceGE,Int.reduceNeg,aaJ,bne_self_eq_false,ge_iff_le,gt_iff_lt]
 | f+1,n,first,ep,s,rs,ys,H,hf,hn,ho,hs,hr,Bg,hc=>by
  have wm:=hx.il
  rw[gu] at wm
  by_cases Gi:l.length<=n
  ·have he:l.drop n=[]:=ae8 Gi
   refine⟨s,ys,H,?_,ho,by rw[he];simpa[eE] using hs,hr,Bg⟩
   rw[Dn,he]
   have d:decide (((n:Nat):Int)<((l.length:Nat):Int))=false:=decide_eq_false (by omega)
   simp only[xh,wm,d,eE,if_true,acJ,az,bd,aw,av,bG,aH,au,ak,aK,aA,aP,bK,aE,bO,bC,aR,bu,ay,bF,aT,aC,bq,aU,bI,bM,ba,aI,aW,aQ,ar,aV,a7,bS,aF,aO,bt,bJ,aN,aM,aD,bB,br,aY,bQ,bT,bk,bH,af,bp,ag,bP,ah,aB,aG,bw,bA,bR,aL,bN,bD,bo,aj,bh,bg,aq,ai,aS,a8,aZ,bE,aJ,nq,gk,wc,yL,yB,decide_true,decide_false,Int.reduceBEq,Int.reduceBNe,Int.reduceLT,Int.reduceLE,Int.reduceGT,Int.reduceGE,Int.reduceNeg,aaJ,bne_self_eq_false,ge_iff_le,gt_iff_lt]
  ·have d:decide (((n:Nat):Int)<((l.length:Nat):Int))=true:=decide_eq_true (by omega)
   have cx:l.drop n≠[]:=fun q=>by
    have:=congrArg List.length q
    rw[adi] at this
    simp at this
    omega
   have kZ:=hx.out ho fun j _ q=>by cases q
   obtain⟨x1,u1,u2⟩:=vS kZ (a:=n) (b:=l.length) (by omega) (zf _) (lo:=some (.int .i64 (n:Nat))) (hi:=none) (Bd.yes _ _ _) (Bd.no _)
   rw[show (l.drop n).take (l.length-n)=l.drop n from acI (by rw[adi];exact zf _)] at u2
   have vL:∀ b∈l.drop n,b<256:=fun b hv=>hb b (agl hv)
   obtain⟨y,H1,g1,g2,g3,g4⟩:=ajo u2 vL (by rw[adi];omega)
   obtain⟨H2,n1,n2,n3,n4⟩:=iI H1 [.int .u64 0,.ae] 37 0 (by simp)
   have Ls:=XR vL
   generalize hL:l.drop n=L at *
   have oy:Out [] H1 H2:=n3
   have yr2:=g3.rw.out n3 fun j _ q=>by cases q
   obtain⟨H3,t1,t2,t3,t4⟩:=qo (n:=2) n2 (by omega) (oU g3.rw ((if gE L=0 then gA L else 0:Nat):Int)) rfl rfl (by
    intro v hv
    rcases aap.1 hv with rfl | hv
    ·rfl
    ·rcases aap.1 hv with rfl | hv
     ·exact vK g3.rw
     ·cases hv)
   have l0:ld (.ptr H1.next 0) H3=some (.int .u64 ((if gE L=0 then gA L else 0:Nat):Int)):=t2.ld rfl
   have o3:Out [] H1 H3:=n3.then t3 fun j hj=>by rw[yX] at hj;exact .inr (by omega)
   have FY:Out [] H0 H3:=(ho.trans g2).trans o3
   by_cases hE:gE L=0
   ·simp only[if_pos hE] at g1 g3 t1 t2 l0
    have d1:(((gE L:Nat):Int) != 0)=false:=by rw[hE];rfl
    have f1:=BQ (H:=H3) (gA L) Ls
    have f2:=R7 (H:=H3) (gA L) Ls
    by_cases h1:((gA L % 17592186044416:Nat):Int)=first
    ·have d2:(((gA L % 17592186044416:Nat):Int) != first)=false:=by rw[bne_eq_false_iff_eq];exact h1
     by_cases h2:ep<=((gA L / 17592186044416:Nat):Int)
     ·have d3:decide (((gA L / 17592186044416:Nat):Int)<ep)=false:=decide_eq_false (by omega)
      have nD:on L first ep=true:=by unfold on;rw[decide_eq_true hE,decide_eq_true h1,decide_eq_true h2];rfl
      obtain⟨b1,b2⟩:=Wc hE
      have bL:L.length+n=l.length:=by rw[<-hL,adi];omega
      have cr:=oU g3.rw ((gA L:Nat):Int)
      have t5:cn 2 (.ptr H1.next 0) H3=some (.agg [.int .u64 ((gA L:Nat):Int),y]):=t2.cn (n:=2) (o:=0) (by simp)
      have Ct:fl [.int .u64 0,.ae] [(0,2,.agg [.int .u64 ((gA L:Nat):Int),y])]=some [.int .u64 ((gA L:Nat):Int),y]:=by
       simp[fl,cr]
      obtain⟨H4,m1,m2,m3,m4⟩:=iI H3 [.int .u64 ((gA L:Nat):Int),y] 37 0 (by simp)
      have xG:Out [] H H4:=(g2.trans o3).trans m3
      have gV:Rw H4 2 (.slice H3.next 0 1 1 true 2) [.int .u64 ((gA L:Nat):Int),y] := .mk m2.ro rfl (zf _) rfl
      have Dg:=hs.out xG
      have mN:=hs.own.rw.lt
      obtain⟨s',H5,a1,a2,a3,a4⟩:=tJ (z:=[.int .u64 0,.ae]) Dg.own gV (by
       intro v hv
       rcases aap.1 hv with rfl | hv
       ·rfl
       ·rcases aap.1 hv with rfl | hv
        ·exact vK g3.rw
        ·cases hv) (by omega) (by rw[wg _ _ hs.len];simp only[abg,abQ];omega)
      have o5:Out [] H0 H5:=(ho.trans xG).then a3 fun j hj => .inr (hr j hj)
      have yo:Rw H4 1 y (bs (gB L)):=g3.rw.out (o3.trans m3) fun j _ q=>by cases q
      have yns:∀ i∈aa y,i∉aa s:=fun i hi q=>by
       have:=g4 i hi
       have:=mN i q
       omega
      have wk:Rs H5 s' (rs++[(gA L,gB L)]) (ys++[y]):=by
       refine⟨by rw[P3 _ _ _ _ hs.len];exact a2,by simp[hs.len],?_,?_⟩
       ·intro j z r h3 h4
        by_cases hj:j<ys.length
        ·rw[abi hj] at h3
         rw[abi (by rw[<-hs.len];exact hj)] at h4
         exact (Dg.row j z r h3 h4).out a3 (hs.sep z (abY h3))
        ·rw[abM (by omega)] at h3
         rw[abM (by rw[<-hs.len];omega),<-hs.len] at h4
         obtain⟨e1,rfl⟩:j-ys.length=0/\z=y:=by
          cases hq:j-ys.length with
          | zero=>rw[hq] at h3;simp at h3;exact⟨rfl,h3.symm⟩
          | succ q=>rw[hq] at h3;simp at h3
         rw[e1] at h4
         simp at h4
         subst h4
         exact yo.out a3 yns
       ·intro z hz i hi q
        rcases aac.1 hz with hz | hz
        ·rcases a4 i q with q | q
         ·exact hs.sep z hz i hi q
         ·obtain⟨j,hj⟩:=agh.1 hz
          obtain⟨r,dg⟩:∃ r,rs[j]? = some r:=⟨_,abb (by rw[<-hs.len];exact (aaL.1 hj).1)⟩
          have:=(Dg.row j z r hj dg).lt i hi
          omega
        ·rw[yX] at hz
         subst hz
         rcases a4 i q with q | q
         ·exact yns i hi q
         ·have:=yo.lt i hi;omega
      have hr5:∀ j∈aa s',H0.next<=j:=fun j hj=>(a4 j hj).elim (hr j) fun q=>abl (ho.trans xG).1 q
      have t6:ld (.ptr H1.next 0) H5=some (.int .u64 ((gA L:Nat):Int)):=((t2.out m3 fun q=>by cases q).out a3 fun q=>by
       have:=mN _ q
       have:=g2.1
       omega).ld rfl
      have f3:=R7 (H:=H5) (gA L) Ls
      obtain⟨s2,EJ,H6,k1,k2,k3,k4,k5⟩:=aaX (k:=k) hx hb hl f (n+(16+gN L)) (IntKind.wrap .i64 (first+1)) ((gA L / 17592186044416:Nat):Int) s' _ _ H5 (by omega) (by omega) o5 wk hr5 (fun z hz i hi=>(aac.1 hz).elim (fun q=>Bg z q i hi) fun q=>by rw[yX] at q;subst q;exact abl ho.1 (g4 i hi)) (by rw[aaO];simp only[abg,abQ];omega)
      have uu:l.drop (n+(16+gN L))=L.drop (16+gN L):=by rw[<-ago,hL]
      rw[uu] at k1 k3
      have ij:eE (f+1) L first ep=((gA L,gB L)::(eE f (L.drop (16+gN L)) (IntKind.wrap .i64 (first+1)) ((gA L / 17592186044416:Nat):Int)).1,16+gN L+(eE f (L.drop (16+gN L)) (IntKind.wrap .i64 (first+1)) ((gA L / 17592186044416:Nat):Int)).2):=by
       rw[eE,if_neg cx,if_pos nD]
      have w1:IntKind.wrap .i64 (((n:Nat):Int)+((16+gN L:Nat):Int))=((n+(16+gN L):Nat):Int):=by rw[wrap_i64 (by omega) (by omega)];rfl
      rw[ij]
      refine⟨s2,EJ,H6,?_,k2,by simpa using k3,k4,k5⟩
      rw[Dn]
      simp only[xh,wm,d,u1,g1,n1,t1,l0,d1,f1,d2,f2,d3,t5,Ct,m1,a1,w1,t6,f3,az,bd,aw,av,bG,aH,au,ak,aK,aA,aP,bK,aE,bO,bC,aR,bu,ay,bF,aT,aC,bq,aU,bI,bM,ba,aI,aW,aQ,ar,aV,a7,bS,aF,aO,bt,bJ,aN,aM,aD,bB,br,aY,bQ,bT,bk,bH,af,bp,ag,bP,ah,aB,aG,bw,bA,bR,aL,bN,bD,bo,aj,bh,bg,aq,ai,aS,a8,aZ,bE,aJ,nq,gk,wc,yL,yB,decide_true,decide_false,Int.reduceBEq,Int.reduceBNe,Int.reduceLT,Int.reduceLE,Int.reduceGT,Int.reduceGE,Int.reduceNeg,aaJ,bne_self_eq_false,ge_iff_le,gt_iff_lt]
      rw[k1]
      congr 3
      omega
     ·have d3:decide (((gA L / 17592186044416:Nat):Int)<ep)=true:=decide_eq_true (by omega)
      have nD:¬ on L first ep=true:=by unfold on;rw[decide_eq_false h2,Bool.and_false];decide
      have ij:eE (f+1) L first ep=([],0):=by rw[eE,if_neg cx,if_neg nD]
      rw[ij]
      refine⟨s,ys,H3,?_,FY,by simpa using hs.out (g2.trans o3),hr,Bg⟩
      rw[Dn]
      simp only[xh,wm,d,u1,g1,n1,t1,l0,d1,f1,d2,f2,d3,acJ,az,bd,aw,av,bG,aH,au,ak,aK,aA,aP,bK,aE,bO,bC,aR,bu,ay,bF,aT,aC,bq,aU,bI,bM,ba,aI,aW,aQ,ar,aV,a7,bS,aF,aO,bt,bJ,aN,aM,aD,bB,br,aY,bQ,bT,bk,bH,af,bp,ag,bP,ah,aB,aG,bw,bA,bR,aL,bN,bD,bo,aj,bh,bg,aq,ai,aS,a8,aZ,bE,aJ,nq,gk,wc,yL,yB,decide_true,decide_false,Int.reduceBEq,Int.reduceBNe,Int.reduceLT,Int.reduceLE,Int.reduceGT,Int.reduceGE,Int.reduceNeg,aaJ,bne_self_eq_false,ge_iff_le,gt_iff_lt]
    ·have d2:(((gA L % 17592186044416:Nat):Int) != first)=true:=by rw[bne_iff_ne];exact h1
     have nD:¬ on L first ep=true:=by unfold on;rw[decide_eq_false h1,Bool.and_false,agf];decide
     have ij:eE (f+1) L first ep=([],0):=by rw[eE,if_neg cx,if_neg nD]
     rw[ij]
     refine⟨s,ys,H3,?_,FY,by simpa using hs.out (g2.trans o3),hr,Bg⟩
     rw[Dn]
     simp only[xh,wm,d,u1,g1,n1,t1,l0,d1,f1,d2,acJ,az,bd,aw,av,bG,aH,au,ak,aK,aA,aP,bK,aE,bO,bC,aR,bu,ay,bF,aT,aC,bq,aU,bI,bM,ba,aI,aW,aQ,ar,aV,a7,bS,aF,aO,bt,bJ,aN,aM,aD,bB,br,aY,bQ,bT,bk,bH,af,bp,ag,bP,ah,aB,aG,bw,bA,bR,aL,bN,bD,bo,aj,bh,bg,aq,ai,aS,a8,aZ,bE,aJ,nq,gk,wc,yL,yB,decide_true,decide_false,Int.reduceBEq,Int.reduceBNe,Int.reduceLT,Int.reduceLE,Int.reduceGT,Int.reduceGE,Int.reduceNeg,aaJ,bne_self_eq_false,ge_iff_le,gt_iff_lt]
   ·have d1:(((gE L:Nat):Int) != 0)=true:=by rw[bne_iff_ne];omega
    have nD:¬ on L first ep=true:=by unfold on;rw[decide_eq_false hE,agf,agf];decide
    have ij:eE (f+1) L first ep=([],0):=by rw[eE,if_neg cx,if_neg nD]
    rw[ij]
    refine⟨s,ys,H3,?_,FY,by simpa using hs.out (g2.trans o3),hr,Bg⟩
    rw[Dn]
    simp only[xh,wm,d,u1,g1,n1,t1,d1,acJ,az,bd,aw,av,bG,aH,au,ak,aK,aA,aP,bK,aE,bO,bC,aR,bu,ay,bF,aT,aC,bq,aU,bI,bM,ba,aI,aW,aQ,ar,aV,a7,bS,aF,aO,bt,bJ,aN,aM,aD,bB,br,aY,bQ,bT,bk,bH,af,bp,ag,bP,ah,aB,aG,bw,bA,bR,aL,bN,bD,bo,aj,bh,bg,aq,ai,aS,a8,aZ,bE,aJ,nq,gk,wc,yL,yB,decide_true,decide_false,Int.reduceBEq,Int.reduceBNe,Int.reduceLT,Int.reduceLE,Int.reduceGT,Int.reduceGE,Int.reduceNeg,aaJ,bne_self_eq_false,ge_iff_le,gt_iff_lt]
theorem afx {H:Hp}{x:AV}{l:List Nat}(hx:Rw H 1 x (bs l))(hb:∀ b∈l,b<256)(hl:l.length<=16000000)(first ep:Int) :
  ∃ s ys H',cK (.func (.func 52) [] []) [x,.int .i64 first,.int .i64 ep] H=some (.tuple [s,.int .i64 (((eE l.length l first ep).2:Nat):Int)],H')/\Out [] H H'/\Rs H' s (eE l.length l first ep).1 ys/\(∀ j∈aa s,H.next<=j)/\(∀ y∈ys,∀ i∈aa y,H.next<=i):=by
 obtain⟨s,ys,H',h1,h2,h3,h4,h5⟩:=aaX (k:=fun a b h=>some (.tuple [a,b],h)) hx hb hl l.length 0 first ep .ae [] [] H (by omega) (ack _) (Out.refl _ _) ⟨.nil,rfl,fun j y r h=>by simp at h,fun y h=>by cases h⟩ (fun j hj=>by cases hj) (fun y hy=>by cases hy) (by simp)
 rw[adE,wc,show (((0:Nat):Int))=0 from rfl] at h1
 rw[adE,adt] at h3
 refine⟨s,ys,H',afs ?_,h2,h3,h4,h5⟩
 unfold Mn
 simp only[az,bd,aw,av,bG,aH,au,ak,aK,aA,aP,bK,aE,bO,bC,aR,bu,ay,bF,aT,aC,bq,aU,bI,bM,ba,aI,aW,aQ,ar,aV,a7,bS,aF,aO,bt,bJ,aN,aM,aD,bB,br,aY,bQ,bT,bk,bH,af,bp,ag,bP,ah,aB,aG,bw,bA,bR,aL,bN,bD,bo,aj,bh,bg,aq,ai,aS,a8,aZ,bE,aJ,nq,gk,wc,yL,yB,decide_true,decide_false,Int.reduceBEq,Int.reduceBNe,Int.reduceLT,Int.reduceLE,Int.reduceGT,Int.reduceGE,Int.reduceNeg,aaJ,bne_self_eq_false,ge_iff_le,gt_iff_lt]
 exact h1
theorem G3 {α:Type}(x y:List α){n:Nat}(h:x.length=n):(x++y).take n=x:=by subst h;simp
theorem Jf {α:Type}(x y:List α){n:Nat}(h:x.length=n):(x++y).drop n=y:=by subst h;simp
theorem xq {α:Type}{l r:List α}{v:α}{i:Nat}(h:l.drop i=v::r):i<l.length/\l[i]? = some v/\l.drop (i+1)=r:=by
 have hi:i<l.length:=by
  rcases agB i l.length with q | q
  ·exact q
  ·rw[ae8 q] at h;cases h
 refine⟨hi,?_,?_⟩
 ·have:=congrArg (fun z=>z[0]?) h
  simpa using this
 ·rw[<-ago,h];rfl
theorem UG (a:Nat)(b t:List Nat):fr a b++t=le 4 b.length++(le 8 a++(le 4 (fL 1 (gL a b++b))++(b++t))):=by
 simp[fr,gL,adf]
theorem X3 (a:Nat)(b t:List Nat):fr a b++t=gL a b++(le 4 (fL 1 (gL a b++b))++(b++t)):=by
 simp[fr,adf]
theorem aiS (a:Nat)(b t:List Nat):fr a b++t=(gL a b++le 4 (fL 1 (gL a b++b)))++(b++t):=by
 simp[fr,adf]
theorem JD (a:Nat){b:List Nat}(t:List Nat)(hn:b.length<=1024):gN (fr a b++t)=b.length:=by
 unfold gN
 rw[UG,G3 _ _ (ux 4 _),Lp]
 exact afA (Nat.lt_of_le_of_lt hn (by decide))
theorem amm {a:Nat}(b t:List Nat)(ha:a<18446744073709551616):gA (fr a b++t)=a:=by
 unfold gA
 rw[UG,Jf _ _ (ux 4 _),G3 _ _ (ux 8 _),Lp]
 exact afA (aci ha (by decide))
theorem Xk (a:Nat){b:List Nat}(t:List Nat)(hn:b.length<=1024):gB (fr a b++t)=b:=by
 unfold gB
 rw[JD a t hn,aiS,Jf _ _ (by rw[aaO,A8,ux]),G3 _ _ rfl]
theorem acP (a:Nat){b:List Nat}(t:List Nat)(hn:b.length<=1024):gE (fr a b++t)=0:=by
 have hl:(fr a b++t).length=16+b.length+t.length:=by rw[aaO,pj]
 have h1:(fr a b++t).take 12=gL a b:=by rw[X3,G3 _ _ (A8 a b)]
 have h2:((fr a b++t).drop 12).take 4=le 4 (fL 1 (gL a b++b)):=by rw[X3,Jf _ _ (A8 a b),G3 _ _ (ux 4 _)]
 have h3:ud (le 4 (fL 1 (gL a b++b)))=fL 1 (gL a b++b):=by
  rw[Lp]
  exact afA (Hh (s:=1) (by decide) _).1
 unfold gE
 rw[JD a t hn,Xk a t hn,h1,h2,h3,if_neg (by omega),if_neg (by omega),if_neg (by omega),if_neg (by simp)]
theorem M1 {H:Hp}{es:Nat}{y:AV}{l:List AV}(h:Rw H es y l)(a:Int):fl [.int .u64 0,.ae] [(0,1,.int .u64 a),(1,1,y)]=some [.int .u64 a,y]:=by
 have c1:kx (.int .u64 a)=some [.int .u64 a]:=rfl
 have c2:=Hu h
 simp[fl,c1,c2]
theorem I5 {H:Hp}{es:Nat}{x:AV}{l:List AV}(h:Rw H es x l)(di:0<es){j:Nat}(hj:j*es<l.length)(k:IntKind) :
  ∃ i o,ia es x (.int k j)=some (.ptr i o)/\∀ r v,l[j*es+r]? = some v->ld (.ptr i (o+r)) H=some v:=by
 cases h with
 | nil=>simp at hj
 | emp=>simp at hj
 | mk hr hn hc he=>
  refine⟨_,_,xt (Nat.lt_of_mul_lt_mul_right (a:=es) (by omega)),fun r v hv => ?_⟩
  rw[aeh]
  exact hr.ld hv
theorem LN:∀ (rs:List (Nat × List Nat)) (ys:List AV) (j:Nat) (r:Nat × List Nat) (y:AV),rs[j]? = some r->ys[j]? = some y->(jh rs ys)[j*2+0]? = some (.int .u64 (r.1:Nat))/\(jh rs ys)[j*2+1]? = some y
 | _::_,_::_,0,r,y,h,k=>by cases h;cases k;exact⟨rfl,rfl⟩
 | _::rs,_::ys,j+1,r,y,h,k=>by
  have:=LN rs ys j r y h k
  rw[show (j+1)*2+0=j*2+0+1+1 by omega,show (j+1)*2+1=j*2+1+1+1 by omega]
  exact this
theorem Rs.nX {H:Hp}{x:AV}{rs:List (Nat × List Nat)}{ys:List AV}(h:Rs H x rs ys):cy x=some (.int .i64 rs.length):=by
 obtain⟨n,h1,h2⟩:=h.own.rw.len
 rw[wg _ _ h.len] at h2
 rw[h1]
 have:n=rs.length:=by omega
 rw[this]
theorem Rs.at {H:Hp}{x:AV}{rs:List (Nat × List Nat)}{ys:List AV}(h:Rs H x rs ys){j:Nat}{r:Nat × List Nat}(hj:rs[j]? = some r)(k:IntKind) :
  ∃ i o y,ia 2 x (.int k j)=some (.ptr i o)/\ld (.ptr i (o+0)) H=some (.int .u64 (r.1:Nat))/\ld (.ptr i (o+1)) H=some y/\Rw H 1 y (bs r.2):=by
 have bW:=(aaL.1 hj).1
 obtain⟨y0,hy⟩:∃ y0,ys[j]? = some y0:=⟨_,abb (by rw[h.len];exact bW)⟩
 obtain⟨g0,g1⟩:=LN rs ys j r _ hj hy
 obtain⟨i,o,a1,a2⟩:=I5 h.own.rw (by decide) (j:=j) (by rw[wg _ _ h.len];omega) k
 exact⟨i,o,y0,a1,a2 0 _ g0,a2 1 _ g1,h.row j _ r hy hj⟩
theorem QS {α:Type}(Q:Nat->α->Prop):∀ n,(∀ j,j<n->∃ a,Q j a)->∃ l:List α,l.length=n/\∀ j a,l[j]? = some a->Q j a
 | 0,_=>⟨[],rfl,fun j a h=>by simp at h⟩
 | n+1,h=>by
  obtain⟨l,hl,hq⟩:=QS Q n fun j hj=>h j (by omega)
  obtain⟨a,ha⟩:=h n (by omega)
  refine⟨l++[a],by simp[hl],fun j b hb => ?_⟩
  by_cases hj:j<l.length
  ·rw[abi hj] at hb
   exact hq j b hb
  ·rw[abM (by omega)] at hb
   have bW:=(aaL.1 hb).1
   rw[List.length_singleton] at bW
   have e:j=n:=by omega
   subst e
   rw[hl,ahr] at hb
   cases hb
   exact ha
theorem UE {l:List AV}{a r:Nat}{v:AV}{n:Nat}(h:[v]=(((l.drop a).take n).drop r).take 1):l[a+r]? = some v:=by
 have:=congrArg (fun z=>z[0]?) h
 simp only[ac1,acL,acJ,nq] at this
 split at this
 ·split at this
  ·exact this.symm
  ·cases this
 ·cases this
theorem abv {H:Hp}{k:IntKind}{l:List AV}{d:D}(h:Is H (.int k) l d):∃ z,[.int k z]=l/\k.min<=z/\z<=k.max:=by
 cases h with
 | int k z h=>exact⟨z,rfl,h⟩
theorem akq {H:Hp}{l:List AV}{d:D}(h:Is H (.slice 1 (.int .u8)) l d):∃ x b,[x]=l/\Rw H 1 x (bs b)/\∀ c∈b,c<256:=by
 cases h with
 | slice hr hl hd=>
  obtain⟨b,h1,h2⟩:=amB (.slice hr hl hd)
  exact⟨_,b,rfl,h1,h2⟩
def Mk (H:Hp)(x:AV)(ms:List (Int × Int × List Nat)):Prop:=∃ cs,Rw H 3 x cs/\cs.length=ms.length*3/\∀ j m,ms[j]? = some m->cs[j*3+0]? = some (.int .i64 m.1)/\cs[j*3+1]? = some (.int .i64 m.2.1)/\∃ y,cs[j*3+2]? = some y/\Rw H 1 y (bs m.2.2)
theorem Mk.out {H H':Hp}{x:AV}{ms:List (Int × Int × List Nat)}(h:Mk H x ms)(k:Out [] H H'):Mk H' x ms:=by
 obtain⟨cs,h1,h2,h3⟩:=h
 refine⟨cs,h1.out k (fun j _ q=>by cases q),h2,fun j m hm => ?_⟩
 obtain⟨a,b,y,c,d⟩:=h3 j m hm
 exact⟨a,b,y,c,d.out k fun j _ q=>by cases q⟩
theorem Mk.nX {H:Hp}{x:AV}{ms:List (Int × Int × List Nat)}(h:Mk H x ms):cy x=some (.int .i64 ms.length):=by
 obtain⟨cs,h1,h2,h3⟩:=h
 obtain⟨n,a,b⟩:=h1.len
 have:n=ms.length:=by omega
 rw[a,this]
theorem Mk.at {H:Hp}{x:AV}{ms:List (Int × Int × List Nat)}(h:Mk H x ms){j:Nat}{m:Int × Int × List Nat}(hj:ms[j]? = some m)(k:IntKind) :
  ∃ i o y,ia 3 x (.int k j)=some (.ptr i o)/\ld (.ptr i (o+0)) H=some (.int .i64 m.1)/\ld (.ptr i (o+1)) H=some (.int .i64 m.2.1)/\ld (.ptr i (o+2)) H=some y/\Rw H 1 y (bs m.2.2):=by
 obtain⟨cs,h1,h2,h3⟩:=h
 obtain⟨a,b,y,c,d⟩:=h3 j m hj
 have bW:=(aaL.1 hj).1
 obtain⟨i,o,a1,a2⟩:=I5 h1 (by decide) (j:=j) (by omega) k
 exact⟨i,o,y,a1,a2 0 _ a,a2 1 _ b,a2 2 _ c,d⟩
end Go.Proofs.YtbdlbhlhnpblpaaGreatDoor.fX
namespace Go.Proofs.YtbdlbhlhnpblpaaGreatDoor.iR
open Go Am Am.K eU Sg gM
theorem Uc {H:Am.Hp}(hT:fY H dL):xT H:=by
 obtain⟨el,h⟩:=hT
 have h1:=h 7 (Sp.map (AV.int .u8)) (by simp[dL])
 have h2:=h 1 [.iface 215 (.ptr 10 0)] (by simp[dL])
 have h3:=h 2 [.iface 215 (.ptr 9 0)] (by simp[dL])
 refine⟨?_,⟨215,.ptr 10 0,?_⟩,⟨215,.ptr 9 0,?_⟩⟩
 ·unfold cellAt;rw[h1];kernel_rfl
 ·unfold cellAt;rw[h2];kernel_rfl
 ·unfold cellAt;rw[h3];kernel_rfl
theorem SJ (an:Nat->An){H:Am.Hp}(hV:xT H)(a:Int):CK Tryz.prog (lV Tryz.prog) ext b7 an (.func (.func 46) [] []) [.int .i64 a] H=some (.tuple [.str (bU a),.bool (eP a)],H):=by
 refine lh (p:=GW) (by kernel_rfl) ?_
 unfold GW
 simp only[if_pos hV]
theorem aej (an:Nat->An){H:Am.Hp}(hV:xT H)(s:List Nat)(hs:s.length<=281474976710656):CK Tryz.prog (lV Tryz.prog) ext b7 an (.func (.func 53) [] []) [.str s] H=some (.tuple [.int .i64 (ju s).1,.bool (ju s).2],H):=by
 refine lh (p:=FB) (by kernel_rfl) ?_
 unfold FB
 simp only[if_pos (show xT H/\s.length<=281474976710656 from⟨hV,hs⟩)]
theorem xx {a:Int}(h:0<=a)(k:a<=17592186044415):eP a=true:=by unfold eP;simp;omega
theorem aec {a:Int}(h:eP a=true):bU a=(nm a.toNat).map (·.toNat):=by unfold bU;rw[h];rfl
theorem Sr {a:Int}(h:eP a=true):ju (bU a)=(a.toNat,true):=by
 rw[aec h]
 unfold ju
 rw[afg,afu (g:=id) (fun x _=>by simp),List.map_id]
 refine Xc _ ?_
 unfold eP at h
 simp at h
 omega
end Go.Proofs.YtbdlbhlhnpblpaaGreatDoor.iR
namespace Go.Proofs.YtbdlbhlhnpblpaaGreatDoor.fX
open Go Am Am.K eU du Sg gM iR rB
theorem kO (l:List Int):(cI l).length=l.length:=by simp[cI]
theorem VO (l:List Int):∀ v∈cI l,dF v=true:=by
 intro v hv
 obtain⟨b,_,rfl⟩:=abn.1 hv
 rfl
theorem ac7 (a b:List Int):cI (a++b)=cI a++cI b:=by simp[cI]
theorem Lf {l:List Int}{j:Nat}{z:Int}(h:l[j]? = some z):(cI l)[j]? = some (.int .i64 z):=by simp[cI,h]
theorem aky {H:Hp}{x:AV}{zs:List Int}(hx:Ow H 2 1 x (cI zs))(hl:zs.length<=16777216) :
  ∃ H',cK (.func (.func 54) [] []) [x] H=some (.tuple [],H')/\Ow H' 2 1 x (cI (mR zs))/\Out (aa x) H H':=by
 generalize hz:cI zs=l at hx
 cases hx with
 | nil=>
  have:zs=[]:=by simpa[cI] using hz
  subst this
  refine⟨H,lh (p:=ry) (by kernel_rfl) ?_,?_,Out.refl _ _⟩
  ·rfl
  ·simp[mR,cI];exact .nil
 | @emp i off=>
  have:zs=[]:=by simpa[cI] using hz
  subst this
  refine⟨H,lh (p:=ry) (by kernel_rfl) ?_,?_,Out.refl _ _⟩
  ·unfold ry
   simp only[if_true]
  ·simp[mR,cI];exact .emp
 | @mk i off n cap ex _ c lo hi fl eG hg hf ec eg eh hn hc hs h1 he=>
  subst hz
  rw[kO,adO] at hn
  by_cases h0:n=0
  ·subst h0
   have:zs=[]:=List.length_eq_zero_iff.1 hn
   subst this
   refine⟨H,lh (p:=ry) (by kernel_rfl) ?_,?_,Out.refl _ _⟩
   ·unfold ry
    simp only[if_true]
   ·exact .mk eG hg hf ec eg eh (by simp[mR,cI]) (by simp[mR,cI]) hs (by simp[mR,cI]) he
  ·have mN:=OP zs
   have kI:Ro H i off (cI zs):=⟨eG,c,lo,hi,2,fl,hg,ec,by rw[kO];omega,hc⟩
   have Uf:=kI.cU
   rw[kO,hn] at Uf
   have aii:(Am.cU H i off n).bind yr=some zs:=by rw[Uf];exact WS zs
   have iT:ry [.slice i off n cap ex 1] H=some (.tuple [],{ H with h:=H.h.eZ i (.cells (c.cR off (cI (mR zs))) lo hi 2 fl) }):=by
    unfold ry
    simp only
    rw[if_neg h0,if_pos ⟨trivial,by omega⟩,hg,ach]
    unfold PH
    simp only
    rw[if_pos ⟨ec,by omega,hf⟩,aii]
    rfl
   have dM:∀ j,(H.h.eZ i (AO.cells (c.cR off (cI (mR zs))) lo hi 2 fl)).get j=if j=i then some (AO.cells (c.cR off (cI (mR zs))) lo hi 2 fl) else H.h.get j:=fun j=>Tr.RP _ _ _ _ (by rw[hg];rfl)
   refine⟨_,lh (p:=ry) (by kernel_rfl) iT,?_,⟨zf _,fun j hj wG => ?_⟩⟩
   ·refine .mk (c:=c.cR off (cI (mR zs))) eG ?_ hf ec eg eh (by rw[kO];omega) (fun k v hk => ?_) (fun k hk => ?_) (VO _) he
    ·show (H.h.eZ i _).get i=_
     rw[dM,if_pos rfl]
    ·have lR:=(aaL.1 hk).1
     rw[Tr.vD,if_pos ⟨by omega,by omega⟩,aeN]
     exact hk
    ·rw[Tr.vD]
     split
     ·rename_i ea
      rw[abb (by omega)]
      rfl
     ·exact hs k hk
   ·show (H.h.eZ i _).get j=_
    rw[dM,if_neg (fun q=>wG (by subst q;rw[pH he];exact .head _))]
theorem afh {H:Hp}{el:Nat}{x:AV}{l:List AV}(h:Ow H el 1 x l){j:Nat}(hj:j<l.length){v:AV}(hv:dF v=true)(hc:kx v=some [v]) :
  ∃ q H',(∀ k,ia 1 x (.int k j)=some q)/\st 1 q v H=some H'/\Ow H' el 1 x (l.set j v)/\Out (aa x) H H'/\H'.next=H.next:=by
 cases h with
 | nil=>simp at hj
 | emp=>simp at hj
 | @mk i off n cap ex _ c lo hi fl eG hg hf ec eg eh hn eO hs h1 he=>
  obtain⟨H',c',q1,q2,q3,q4,q5⟩:=CC [v] H i (off+j*1) c lo hi el fl hg hf (by omega) (by simp only[abg,abQ];omega) (fun k hk=>by
   simp only[abg,abQ] at hk
   have:=hs j (by omega)
   rw[show off+j*1+k=off+j by omega]
   exact this) (fun u hu=>by rw[yX] at hu;subst hu;exact hv)
  simp only[abg,abQ] at q5
  refine⟨.ptr i (off+j*1),H',fun k=>xt (by omega),?_,?_,⟨by omega,fun k hk wG=>q4 k fun e=>wG (by subst e;rw[pH he];exact .head _)⟩,q2⟩
  ·unfold st
   simp only[hc]
   exact q1
  ·refine .mk (by omega) q3 hf ec eg eh (by rw[List.length_set];exact hn) (fun k w hk => ?_) (fun k hk => ?_) (fun w hw => ?_) he
   ·rw[q5]
    rw[List.getElem?_set] at hk
    split at hk
    ·rename_i e
     subst e
     rw[if_pos ⟨by omega,by omega⟩,show off+j-(off+j*1)=0 by omega]
     exact hk
    ·rw[if_neg (by omega)]
     exact eO k w hk
   ·rw[q5]
    split
    ·rename_i e
     rw[show off+k-(off+j*1)=0 by omega]
     rfl
    ·exact hs k hk
   ·rcases List.mem_or_eq_of_mem_set hw with hw | rfl
    ·exact h1 w hw
    ·exact hv
theorem builtin_clear (Q:Program)(t:Array TypeId)(x:AV)(H:Hp):fx Q .clear t [x] H=(Cr Q t x H).map fun H=>(cF,H):=rfl
theorem ag4 {H:Hp}{x:AV}{l:List AV}(h:Ow H 2 1 x l)(h0:0<l.length){k:Nat}(hk:k<=l.length) :
  ∃ y H',dC 1 x (some (.int .i64 (k:Nat))) none none=some y/\fx P .clear #[83] [y] H=some (cF,H')/\Ow H' 2 1 x (l.take k++List.replicate (l.length-k) (.int .i64 0))/\Out (aa x) H H':=by
 cases h with
 | nil=>simp at h0
 | emp=>simp at h0
 | @mk i off n cap ex _ c lo hi fl eG hg hf ec eg eh hn eO hs h1 he=>
  have hb:=xN (len:=n) (cap:=cap) (a:=k) (b:=n) (lo:=some (.int .i64 (k:Nat))) (hi:=none) (by omega) (zf _) eh (Bd.yes _ _ _) (Bd.no _)
  have iH:(List.replicate (n-k) (AV.int .i64 0)).length=n-k:=afW
  obtain⟨H',c',q1,q2,q3,q4,q5⟩:=CC (List.replicate (n-k) (AV.int .i64 0)) H i (off+k*1) c lo hi 2 fl hg hf (by omega) (by rw[iH];omega) (fun j hj=>by
   rw[iH] at hj
   have:=hs (k+j) (by omega)
   rw[show off+k*1+j=off+(k+j) by omega]
   exact this) (fun u hu=>by rw[List.eq_of_mem_replicate hu];rfl)
  rw[iH] at q5
  have aeK:∀ m,rep m [AV.int .i64 0]=List.replicate m (AV.int .i64 0):=fun m=>by
   induction m with
   | zero=>rfl
   | succ m ih=>
    unfold rep at ih ⊢
    rw[ahn,ae0,ih,ahn]
    rfl
  refine⟨.slice i (off+k*1) (n-k) (cap-k) (ex||false) 1,H',?_,?_,?_,⟨by omega,fun j hj wG=>q4 j fun e=>wG (by subst e;rw[pH he];exact .head _)⟩⟩
  ·unfold dC
   simp only[hb,ach,if_true,ahp]
  ·rw[builtin_clear]
   have hz:zc P 2=some [.int .i64 0]:=by kernel_rfl
   have hu:P.underlying 83=some (.slice 2):=Tryz.underlying83
   have:Cr P #[83] (.slice i (off+k*1) (n-k) (cap-k) (ex||false) 1) H=setCells H i (off+k*1) (rep (n-k) [.int .i64 0]):=by
    unfold Cr
    simp only[ac9,nq,ach,hu,hz]
   rw[this,aeK,q1]
   rfl
  ·refine .mk (by omega) q3 hf ec eg eh (by simp;omega) (fun j w hj => ?_) (fun j hj => ?_) (fun w hw => ?_) he
   ·rw[q5]
    by_cases Fs:j<k
    ·rw[abi (by rw[abN];omega),ac1,if_pos Fs] at hj
     rw[if_neg (by omega)]
     exact eO j w hj
    ·rw[abM (by rw[abN];omega),abN,ad3 hk] at hj
     have:=(aaL.1 hj).1
     rw[afW] at this
     rw[if_pos ⟨by omega,by omega⟩,show off+j-(off+k*1)=j-k by omega]
     rw[ahl] at hj ⊢
     rw[if_pos (by omega)] at hj
     rw[if_pos (by omega)]
     exact hj
   ·rw[q5]
    split
    ·rw[ahl,if_pos (by omega)]
     rfl
    ·exact hs j hj
   ·rcases aac.1 hw with hw | hw
    ·exact h1 w (adb hw)
    ·rw[List.eq_of_mem_replicate hw];rfl
def gz:Int->List Int->List Int
 | _,[]=>[]
 | p,b::r=>if b=p then gz b r else b::gz b r
def ve:List Int->List Int
 | []=>[]
 | a::r=>a::gz a r
theorem XI:∀ (p:Int) (r:List Int),(gz p r).length<=r.length
 | _,[]=>zf _
 | p,b::r=>by
  have:=XI b r
  unfold gz
  split<;>simp only[abg]<;>omega
theorem Mt {j6:K.Fn 1}{gC:K.Fn 2}{n k0:Nat}{x y:AV}(hn:n<=16777216)(fS:cy y=some (.int .i64 ((n-k0:Nat):Int))) (hy:∀ j,k0+j<n->ia 1 y (.int .i64 (j:Nat))=ia 1 x (.int .i64 ((k0+j:Nat):Int))) :
  ∀ (r:List Int) (m kk:Nat) (p:Int) (l:List Int) (H:Hp),l.length=n->m<=n->k0<m->kk<m->l.drop (m-1)=p::r->Ow H 2 1 x (cI l)->
  ∃ l' H',(∀ k:K.Fn 2,ER JN GO cK j6 gC k x (.int .i64 (kk:Nat)) y (.int .i64 ((m-k0:Nat):Int)) H=k x (.int .i64 ((kk+(gz p r).length:Nat):Int)) H')/\Ow H' 2 1 x (cI l')/\l'.length=n/\l'.take (kk+(gz p r).length)=l.take kk++gz p r/\Out (aa x) H H'
 | [],m,kk,p,l,H,hl,hm,h0,BA,hd,hx=>by
  have h1:=congrArg List.length hd
  rw[adi] at h1
  simp only[abg,abQ] at h1
  have d:decide (((m-k0:Nat):Int)<((n-k0:Nat):Int))=false:=decide_eq_false (by omega)
  refine⟨l,H,fun k => ?_,hx,hl,by simp[gz],Out.refl _ _⟩
  rw[Qv]
  simp only[IQ,fS,d,gz,abQ,acJ,az,bd,aw,av,bG,aH,au,ak,aK,aA,aP,bK,aE,bO,bC,aR,bu,ay,bF,aT,aC,bq,aU,bI,bM,ba,aI,aW,aQ,ar,aV,a7,bS,aF,aO,bt,bJ,aN,aM,aD,bB,br,aY,bQ,bT,bk,bH,af,bp,ag,bP,ah,aB,aG,bw,bA,bR,aL,bN,bD,bo,aj,bh,bg,aq,ai,aS,a8,aZ,bE,aJ,nq,gk,wc,yL,yB,decide_true,decide_false,Int.reduceBEq,Int.reduceBNe,Int.reduceLT,Int.reduceLE,Int.reduceGT,Int.reduceGE,Int.reduceNeg,aaJ,bne_self_eq_false,ge_iff_le,gt_iff_lt]
 | b::r,m,kk,p,l,H,hl,hm,h0,BA,hd,hx=>by
  obtain⟨hp1,oq,qZ⟩:=xq hd
  rw[show m-1+1=m by omega] at qZ
  obtain⟨vL,ft,o8⟩:=xq qZ
  have d:decide (((m-k0:Nat):Int)<((n-k0:Nat):Int))=true:=decide_eq_true (by omega)
  obtain⟨qb,u1,u2⟩:=hx.rw.s7 (Lf ft) .i64
  obtain⟨qp,u3,u4⟩:=hx.rw.s7 (Lf oq) .i64
  have v1:=hy (m-k0) (by omega)
  rw[show k0+(m-k0)=m by omega,u1] at v1
  have v2:=hy (m-k0-1) (by omega)
  rw[show k0+(m-k0-1)=m-1 by omega,u3] at v2
  have s1:IntKind.wrap .i64 (((m-k0:Nat):Int)-1)=((m-k0-1:Nat):Int):=by rw[wrap_i64 (by omega) (by omega)];omega
  have e1:IntKind.wrap .i64 (((m-k0:Nat):Int)+1)=((m+1-k0:Nat):Int):=by rw[wrap_i64 (by omega) (by omega)];omega
  by_cases A5:b=p
  ·subst A5
   obtain⟨l',H',i1,i2,i3,i4,i5⟩:=Mt (j6:=j6) (gC:=gC) hn fS hy r (m+1) kk b l H hl (by omega) (by omega) (by omega) (by rw[ahB];exact qZ) hx
   have hg:gz b (b::r)=gz b r:=by rw[gz,if_pos rfl]
   rw[hg]
   refine⟨l',H',fun k => ?_,i2,i3,i4,i5⟩
   have d2:(b != b)=false:=by simp
   rw[Qv]
   simp only[IQ,fS,d,v1,u2,s1,v2,u4,d2,e1,i1,az,bd,aw,av,bG,aH,au,ak,aK,aA,aP,bK,aE,bO,bC,aR,bu,ay,bF,aT,aC,bq,aU,bI,bM,ba,aI,aW,aQ,ar,aV,a7,bS,aF,aO,bt,bJ,aN,aM,aD,bB,br,aY,bQ,bT,bk,bH,af,bp,ag,bP,ah,aB,aG,bw,bA,bR,aL,bN,bD,bo,aj,bh,bg,aq,ai,aS,a8,aZ,bE,aJ,nq,gk,wc,yL,yB,decide_true,decide_false,Int.reduceBEq,Int.reduceBNe,Int.reduceLT,Int.reduceLE,Int.reduceGT,Int.reduceGE,Int.reduceNeg,aaJ,bne_self_eq_false,ge_iff_le,gt_iff_lt]
  ·have d2:(b != p)=true:=by simp[A5]
   obtain⟨q,H1,w1,w2,w3,w4,w5⟩:=afh hx (j:=kk) (by rw[kO];omega) (v := .int .i64 b) rfl rfl
   have je:(cI l).set kk (.int .i64 b)=cI (l.set kk b):=by simp[cI,List.map_set]
   rw[je] at w3
   obtain⟨l',H',i1,i2,i3,i4,i5⟩:=Mt (j6:=j6) (gC:=gC) hn fS hy r (m+1) (kk+1) b (l.set kk b) H1 (by rw[List.length_set];exact hl) (by omega) (by omega) (by omega) (by rw[ahB,List.drop_set_of_lt BA];exact qZ) w3
   have hg:gz p (b::r)=b::gz b r:=by rw[gz,if_neg A5]
   have e2:IntKind.wrap .i64 (((kk:Nat):Int)+1)=((kk+1:Nat):Int):=by rw[wrap_i64 (by omega) (by omega)];rfl
   have ht:(l.set kk b).take (kk+1)=l.take kk++[b]:=by
    rw[List.take_set,List.take_add_one,abb (by omega)]
    have hlen:(l.take kk).length=kk:=by rw[abN];omega
    rw[List.set_append_right _ _ (by omega),hlen,ahr]
    rfl
   rw[hg,abg]
   refine⟨l',H',fun k => ?_,i2,i3,?_,w4.then i5 fun j hj => .inl hj⟩
   ·rw[Qv]
    simp only[IQ,fS,d,v1,u2,s1,v2,u4,d2,w1,w2,e2,e1,i1,az,bd,aw,av,bG,aH,au,ak,aK,aA,aP,bK,aE,bO,bC,aR,bu,ay,bF,aT,aC,bq,aU,bI,bM,ba,aI,aW,aQ,ar,aV,a7,bS,aF,aO,bt,bJ,aN,aM,aD,bB,br,aY,bQ,bT,bk,bH,af,bp,ag,bP,ah,aB,aG,bw,bA,bR,aL,bN,bD,bo,aj,bh,bg,aq,ai,aS,a8,aZ,bE,aJ,nq,gk,wc,yL,yB,decide_true,decide_false,Int.reduceBEq,Int.reduceBNe,Int.reduceLT,Int.reduceLE,Int.reduceGT,Int.reduceGE,Int.reduceNeg,aaJ,bne_self_eq_false,ge_iff_le,gt_iff_lt]
    rw[show kk+1+(gz b r).length=kk+((gz b r).length+1) by omega]
   ·rw[show kk+((gz b r).length+1)=kk+1+(gz b r).length by omega,i4,ht,adf]
    rfl
theorem VS {x:AV}{zs:List Int}{H:Hp}(hn:zs.length<=16777216)(hx:Ow H 2 1 x (cI zs)):∀ (r:List Int) (k:Nat) (p:Int),0<k->k<=zs.length->zs.drop (k-1)=p::r->ve zs=zs.take k++gz p r->
  ∃ y H',B5 JN GO cK (fun v h=>some (v,h)) x (.int .i64 (k:Nat)) H=some (y,H')/\Ow H' 2 1 y (cI (ve zs))/\Out (aa x) H H'/\∀ j∈aa y,j∈aa x
 | [],k,p,h0,hk,hd,hc=>by
  have h1:=congrArg List.length hd
  rw[adi] at h1
  simp only[abg,abQ] at h1
  have kM:k=zs.length:=by omega
  have cT:=hx.rw.il
  rw[kO] at cT
  have d:decide (((k:Nat):Int)<((zs.length:Nat):Int))=false:=decide_eq_false (by omega)
  refine⟨x,H,?_,?_,Out.refl _ _,fun j hj=>hj⟩
  ·rw[Q5]
   simp only[Kl,cT,d,az,bd,aw,av,bG,aH,au,ak,aK,aA,aP,bK,aE,bO,bC,aR,bu,ay,bF,aT,aC,bq,aU,bI,bM,ba,aI,aW,aQ,ar,aV,a7,bS,aF,aO,bt,bJ,aN,aM,aD,bB,br,aY,bQ,bT,bk,bH,af,bp,ag,bP,ah,aB,aG,bw,bA,bR,aL,bN,bD,bo,aj,bh,bg,aq,ai,aS,a8,aZ,bE,aJ,nq,gk,wc,yL,yB,decide_true,decide_false,Int.reduceBEq,Int.reduceBNe,Int.reduceLT,Int.reduceLE,Int.reduceGT,Int.reduceGE,Int.reduceNeg,aaJ,bne_self_eq_false,ge_iff_le,gt_iff_lt]
  ·rw[hc,gz,aeD,acI (by omega)]
   exact hx
 | b::r,k,p,h0,hk,hd,hc=>by
  obtain⟨hp1,oq,qZ⟩:=xq hd
  rw[show k-1+1=k by omega] at qZ
  obtain⟨vL,ft,o8⟩:=xq qZ
  have cT:=hx.rw.il
  rw[kO] at cT
  have d:decide (((k:Nat):Int)<((zs.length:Nat):Int))=true:=decide_eq_true (by omega)
  obtain⟨qb,u1,u2⟩:=hx.rw.s7 (Lf ft) .i64
  obtain⟨qp,u3,u4⟩:=hx.rw.s7 (Lf oq) .i64
  have s1:IntKind.wrap .i64 (((k:Nat):Int)-1)=((k-1:Nat):Int):=by rw[wrap_i64 (by omega) (by omega)];omega
  have e1:IntKind.wrap .i64 (((k:Nat):Int)+1)=((k+1:Nat):Int):=by rw[wrap_i64 (by omega) (by omega)];rfl
  by_cases A5:b=p
  ·subst A5
   have d2:(b==b)=true:=by simp
   have hg:gz b (b::r)=gz b r:=by rw[gz,if_pos rfl]
   rw[hg] at hc
   have yA:∃ y,dC 1 x (some (.int .i64 (k:Nat))) none none=some y/\cy y=some (.int .i64 ((zs.length-k:Nat):Int))/\∀ j,k+j<zs.length->ia 1 y (.int .i64 (j:Nat))=ia 1 x (.int .i64 ((k+j:Nat):Int)):=by
    have hO:=hx
    generalize hz:cI zs=l at hO
    have kL:l.length=zs.length:=by rw[<-hz,kO]
    cases hO with
    | nil=>simp at kL;omega
    | emp=>simp at kL;omega
    | @mk i off n cap ex _ c lo hi fl eG hg hf ec eg eh wG eO hs h1 he=>
     have pE:n=zs.length:=by omega
     have hb:=xN (len:=n) (cap:=cap) (a:=k) (b:=n) (lo:=some (.int .i64 (k:Nat))) (hi:=none) (by omega) (zf _) eh (Bd.yes _ _ _) (Bd.no _)
     refine⟨.slice i (off+k*1) (n-k) (cap-k) (ex||false) 1,?_,?_,fun j hj => ?_⟩
     ·unfold dC
      simp only[hb,ach,if_true,ahp]
     ·rw[aj,pE]
     ·rw[xt (by omega),xt (by omega)]
      congr 2
      omega
   obtain⟨y,y1,y2,y3⟩:=yA
   obtain⟨l',H1,i1,i2,i3,i4,i5⟩:=Mt (j6:=fun v h=>some (v,h)) (gC:=fun eW iG N2=>B1 (df iG (.int .i64 1)) fun AZ=>B5 JN GO cK (fun v h=>some (v,h)) eW AZ N2) (x:=x) (y:=y) hn y2 y3 r (k+1) k b zs H rfl (by omega) (by omega) (by omega) (by rw[ahB];exact qZ) hx
   rw[<-hc] at i4
   have hgl:=XI b r
   have iH:r.length+(k+1)=zs.length:=by
    have:=congrArg List.length o8
    rw[adi] at this
    omega
   obtain⟨y5,H2,c1,c2,c3,c4⟩:=ag4 i2 (by rw[kO];omega) (k:=k+(gz b r).length) (by rw[kO];omega)
   have T1:(cI l').take (k+(gz b r).length)=cI (ve zs):=by rw[<-i4];simp[cI,List.map_take]
   rw[T1] at c3
   have rm:(cI (ve zs)).length=k+(gz b r).length:=by rw[kO,<-i4,abN];omega
   obtain⟨y6,t1,t2,t3⟩:=DA (n:=zs.length) (a:=0) (b:=k+(gz b r).length) c3 (by rw[aaO,rm,afW,kO,i3];omega) (by decide) (lo:=none) (hi:=some (.int .i64 ((k+(gz b r).length:Nat):Int))) (ack _) (by omega) (Bd.no 0) (Bd.yes _ _ _)
   rw[aeT,adE,adD,adO,<-rm,List.take_left' rfl] at t2
   have e11:((k+1-k:Nat):Int)=1:=by omega
   rw[e11] at i1
   refine⟨y6,H2,?_,t2,i5.then c4 fun j hj => .inl hj,t3⟩
   rw[Q5]
   simp only[Kl,cT,d,u1,u2,s1,u3,u4,d2,y1,i1,c1,c2,t1,az,bd,aw,av,bG,aH,au,ak,aK,aA,aP,bK,aE,bO,bC,aR,bu,ay,bF,aT,aC,bq,aU,bI,bM,ba,aI,aW,aQ,ar,aV,a7,bS,aF,aO,bt,bJ,aN,aM,aD,bB,br,aY,bQ,bT,bk,bH,af,bp,ag,bP,ah,aB,aG,bw,bA,bR,aL,bN,bD,bo,aj,bh,bg,aq,ai,aS,a8,aZ,bE,aJ,nq,gk,wc,yL,yB,decide_true,decide_false,Int.reduceBEq,Int.reduceBNe,Int.reduceLT,Int.reduceLE,Int.reduceGT,Int.reduceGE,Int.reduceNeg,aaJ,bne_self_eq_false,ge_iff_le,gt_iff_lt]
  ·have d2:(b==p)=false:=by simp[A5]
   have hg:gz p (b::r)=b::gz b r:=by rw[gz,if_neg A5]
   obtain⟨y,H',i1,i2,i3,i4⟩:=VS hn hx r (k+1) b (by omega) (by omega) (by rw[ahB];exact qZ) (by rw[hc,hg,List.take_add_one,ft];simp)
   refine⟨y,H',?_,i2,i3,i4⟩
   rw[Q5]
   simp only[Kl,cT,d,u1,u2,s1,u3,u4,d2,e1,i1,az,bd,aw,av,bG,aH,au,ak,aK,aA,aP,bK,aE,bO,bC,aR,bu,ay,bF,aT,aC,bq,aU,bI,bM,ba,aI,aW,aQ,ar,aV,a7,bS,aF,aO,bt,bJ,aN,aM,aD,bB,br,aY,bQ,bT,bk,bH,af,bp,ag,bP,ah,aB,aG,bw,bA,bR,aL,bN,bD,bo,aj,bh,bg,aq,ai,aS,a8,aZ,bE,aJ,nq,gk,wc,yL,yB,decide_true,decide_false,Int.reduceBEq,Int.reduceBNe,Int.reduceLT,Int.reduceLE,Int.reduceGT,Int.reduceGE,Int.reduceNeg,aaJ,bne_self_eq_false,ge_iff_le,gt_iff_lt]
theorem acx {H:Hp}{x:AV}{zs:List Int}(hx:Ow H 2 1 x (cI zs))(hn:zs.length<=16777216) :
  ∃ y H',cK (.func (.func 55) [] []) [x] H=some (y,H')/\Ow H' 2 1 y (cI (ve zs))/\Out (aa x) H H'/\∀ j∈aa y,j∈aa x:=by
 have cT:=hx.rw.il
 rw[kO] at cT
 by_cases h2:zs.length<2
 ·have d:decide (((zs.length:Nat):Int)<2)=true:=decide_eq_true (by omega)
  have hz:ve zs=zs:=by
   match zs,h2 with
   | [],_=>rfl
   | [a],_=>rfl
  refine⟨x,H,Zs ?_,by rw[hz];exact hx,Out.refl _ _,fun j hj=>hj⟩
  unfold OK
  simp only[cT,d,az,bd,aw,av,bG,aH,au,ak,aK,aA,aP,bK,aE,bO,bC,aR,bu,ay,bF,aT,aC,bq,aU,bI,bM,ba,aI,aW,aQ,ar,aV,a7,bS,aF,aO,bt,bJ,aN,aM,aD,bB,br,aY,bQ,bT,bk,bH,af,bp,ag,bP,ah,aB,aG,bw,bA,bR,aL,bN,bD,bo,aj,bh,bg,aq,ai,aS,a8,aZ,bE,aJ,nq,gk,wc,yL,yB,decide_true,decide_false,Int.reduceBEq,Int.reduceBNe,Int.reduceLT,Int.reduceLE,Int.reduceGT,Int.reduceGE,Int.reduceNeg,aaJ,bne_self_eq_false,ge_iff_le,gt_iff_lt]
 ·have d:decide (((zs.length:Nat):Int)<2)=false:=decide_eq_false (by omega)
  obtain⟨a,r,rfl⟩:∃ a r,zs=a::r:=by
   cases zs with
   | nil=>simp at h2
   | cons a r=>exact⟨a,r,rfl⟩
  obtain⟨y,H',i1,i2,i3,i4⟩:=VS hn hx r 1 a (by decide) (by omega) rfl rfl
  rw[show (((1:Nat):Int))=1 from rfl] at i1
  refine⟨y,H',Zs ?_,i2,i3,i4⟩
  unfold OK
  simp only[cT,d,az,bd,aw,av,bG,aH,au,ak,aK,aA,aP,bK,aE,bO,bC,aR,bu,ay,bF,aT,aC,bq,aU,bI,bM,ba,aI,aW,aQ,ar,aV,a7,bS,aF,aO,bt,bJ,aN,aM,aD,bB,br,aY,bQ,bT,bk,bH,af,bp,ag,bP,ah,aB,aG,bw,bA,bR,aL,bN,bD,bo,aj,bh,bg,aq,ai,aS,a8,aZ,bE,aJ,nq,gk,wc,yL,yB,decide_true,decide_false,Int.reduceBEq,Int.reduceBNe,Int.reduceLT,Int.reduceLE,Int.reduceGT,Int.reduceGE,Int.reduceNeg,aaJ,bne_self_eq_false,ge_iff_le,gt_iff_lt]
  exact i1
theorem RU:∀ g l,(g,l)∈dL->g<11:=by
 have h:(dL.all fun q=>Nat.blt q.1 11)=true:=by kernel_rfl
 intro g l hg
 have:=adh.1 h (g,l) hg
 simpa using this
theorem ma {H H':Hp}(h:fY H dL)(hn:11<=H.next)(k:Out [] H H'):fY H' dL:=by
 obtain⟨el,h⟩:=h
 refine⟨el,fun g l hg => ?_⟩
 have:=RU g l hg
 rw[k.2 g (by omega) (fun q=>by cases q)]
 exact h g l hg
def strs (l:List (List Nat)):List AV:=l.map AV.str
theorem aln (l:List (List Nat)):(strs l).length=l.length:=by simp[strs]
theorem ahy {l:List (List Nat)}{j:Nat}{z:List Nat}(h:l[j]? = some z):(strs l)[j]? = some (.str z):=by simp[strs,h]
def mI:List (List Nat)->List Int
 | []=>[]
 | s::r=>if (ju s).2=true then ((ju s).1:Int)::mI r else mI r
theorem LS {H0:Hp}{x:AV}{ns:List (List Nat)}(hx:Rw H0 1 x (strs ns))(hT:fY H0 dL)(hn:11<=H0.next)(hl:ns.length<=1000)(hs:∀ s∈ns,s.length<=281474976710656):∀ (r:List (List Nat)) (i:Nat) (s:AV) (A:List Int) (H:Hp),ns.drop i=r->i<=ns.length->Out [] H0 H->Ow H 2 1 s (cI A)->(∀ j∈aa s,H0.next<=j)->A.length<=i->
  ∃ s' H',(∀ k:K.Fn 1,Gc JN GO cK k s x (.int .i64 (ns.length:Nat)) (.int .i64 (i:Nat)) H=k s' H')/\Out [] H0 H'/\Ow H' 2 1 s' (cI (A++mI r))/\(∀ j∈aa s',H0.next<=j)/\(A++mI r).length<=ns.length
 | [],i,s,A,H,hr,hi,ho,mN,kA,hA=>by
  have:ns.length<=i:=by simpa using hr
  have d:decide (((i:Nat):Int)<((ns.length:Nat):Int))=false:=decide_eq_false (by omega)
  refine⟨s,H,fun k => ?_,ho,by simpa[mI] using mN,kA,by simp[mI];omega⟩
  rw[Na]
  simp only[KI,d,az,bd,aw,av,bG,aH,au,ak,aK,aA,aP,bK,aE,bO,bC,aR,bu,ay,bF,aT,aC,bq,aU,bI,bM,ba,aI,aW,aQ,ar,aV,a7,bS,aF,aO,bt,bJ,aN,aM,aD,bB,br,aY,bQ,bT,bk,bH,af,bp,ag,bP,ah,aB,aG,bw,bA,bR,aL,bN,bD,bo,aj,bh,bg,aq,ai,aS,a8,aZ,bE,aJ,nq,gk,wc,yL,yB,decide_true,decide_false,Int.reduceBEq,Int.reduceBNe,Int.reduceLT,Int.reduceLE,Int.reduceGT,Int.reduceGE,Int.reduceNeg,aaJ,bne_self_eq_false,ge_iff_le,gt_iff_lt]
 | c::r,i,s,A,H,hr,hi,ho,mN,kA,hA=>by
  obtain⟨eG,hv,dg⟩:=xq hr
  have d:decide (((i:Nat):Int)<((ns.length:Nat):Int))=true:=decide_eq_true (by omega)
  obtain⟨q,u1,u2⟩:=(hx.out ho fun j _ q=>by cases q).s7 (ahy hv) .i64
  have hp:=aej an (Uc (ma hT hn ho)) c (hs c (abY hv))
  have e3:IntKind.wrap .i64 (((i:Nat):Int)+1)=((i+1:Nat):Int):=by rw[wrap_i64 (by omega) (by omega)];rfl
  by_cases jZ:(ju c).2=true
  ·obtain⟨H1,n1,n2,n3,n4⟩:=iI H [.int .i64 (((ju c).1:Nat):Int)] 2 0 (by simp)
   have gV:Rw H1 1 (.slice H.next 0 1 1 true 1) (cI [(((ju c).1:Nat):Int)]) := .mk n2.ro rfl (zf _) rfl
   have tM:=mN.out n3 fun j _ q=>by cases q
   obtain⟨s',H2,a1,a2,a3,a4⟩:=tJ (z:=[.int .i64 0]) tM gV (VO _) (by omega) (by rw[kO,kO];simp;omega)
   rw[<-ac7] at a2
   have o2:Out [] H0 H2:=(ho.trans n3).then a3 fun j hj => .inr (kA j hj)
   have ahe:∀ j∈aa s',H0.next<=j:=fun j hj=>(a4 j hj).elim (kA j) fun q=>abl (ho.trans n3).1 q
   obtain⟨s2,H3,b1,b2,b3,b4,b5⟩:=LS hx hT hn hl hs r (i+1) s' _ H2 dg (by omega) o2 a2 ahe (by simp;omega)
   have Tv:mI (c::r)=(((ju c).1:Nat):Int)::mI r:=by rw[mI,if_pos jZ]
   rw[Tv]
   rw[adf] at b3 b5
   refine⟨s2,H3,fun k => ?_,b2,b3,b4,b5⟩
   have hf:fl [.int .i64 0] [(0,1,AV.int .i64 (((ju c).1:Nat):Int))]=some [.int .i64 (((ju c).1:Nat):Int)]:=rfl
   rw[Na]
   rw[jZ] at hp
   simp only[KI,d,u1,u2,hp,hf,n1,a1,e3,b1,az,bd,aw,av,bG,aH,au,ak,aK,aA,aP,bK,aE,bO,bC,aR,bu,ay,bF,aT,aC,bq,aU,bI,bM,ba,aI,aW,aQ,ar,aV,a7,bS,aF,aO,bt,bJ,aN,aM,aD,bB,br,aY,bQ,bT,bk,bH,af,bp,ag,bP,ah,aB,aG,bw,bA,bR,aL,bN,bD,bo,aj,bh,bg,aq,ai,aS,a8,aZ,bE,aJ,nq,gk,wc,yL,yB,decide_true,decide_false,Int.reduceBEq,Int.reduceBNe,Int.reduceLT,Int.reduceLE,Int.reduceGT,Int.reduceGE,Int.reduceNeg,aaJ,bne_self_eq_false,ge_iff_le,gt_iff_lt]
  ·have akK:(ju c).2=false:=by simpa using jZ
   obtain⟨s2,H3,b1,b2,b3,b4,b5⟩:=LS hx hT hn hl hs r (i+1) s _ H dg (by omega) ho mN kA (by omega)
   have Tv:mI (c::r)=mI r:=by rw[mI,if_neg jZ]
   rw[Tv]
   refine⟨s2,H3,fun k => ?_,b2,b3,b4,b5⟩
   rw[Na]
   rw[akK] at hp
   simp only[KI,d,u1,u2,hp,e3,b1,az,bd,aw,av,bG,aH,au,ak,aK,aA,aP,bK,aE,bO,bC,aR,bu,ay,bF,aT,aC,bq,aU,bI,bM,ba,aI,aW,aQ,ar,aV,a7,bS,aF,aO,bt,bJ,aN,aM,aD,bB,br,aY,bQ,bT,bk,bH,af,bp,ag,bP,ah,aB,aG,bw,bA,bR,aL,bN,bD,bo,aj,bh,bg,aq,ai,aS,a8,aZ,bE,aJ,nq,gk,wc,yL,yB,decide_true,decide_false,Int.reduceBEq,Int.reduceBNe,Int.reduceLT,Int.reduceLE,Int.reduceGT,Int.reduceGE,Int.reduceNeg,aaJ,bne_self_eq_false,ge_iff_le,gt_iff_lt]
def wq (ns:List (List Nat)):List Int:=ve (mR (mI ns))
theorem ajg {H:Hp}{x:AV}{ns:List (List Nat)}(hx:Rw H 1 x (strs ns))(hT:fY H dL)(hn:11<=H.next)(hl:ns.length<=1000)(hs:∀ s∈ns,s.length<=281474976710656) :
  ∃ y H',cK (.func (.func 37) [] []) [x] H=some (y,H')/\Out [] H H'/\Ow H' 2 1 y (cI (wq ns))/\∀ j∈aa y,H.next<=j:=by
 have cT:=hx.il
 rw[aln] at cT
 obtain⟨s,H1,a1,a2,a3,a4,a5⟩:=LS hx hT hn hl hs ns 0 .ae [] H rfl (ack _) (Out.refl _ _) .nil (fun j hj=>by cases hj) (zf _)
 rw[adt] at a3 a5
 rw[show (((0:Nat):Int))=0 from rfl] at a1
 obtain⟨H2,b1,b2,b3⟩:=aky a3 (by omega)
 obtain⟨y,H3,c1,c2,c3,c4⟩:=acx b2 (by rw[OP];omega)
 refine⟨y,H3,ai4 ?_,(a2.then b3 fun j hj => .inr (a4 j hj)).then c3 fun j hj => .inr (a4 j hj),c2,fun j hj=>a4 j (c4 j hj)⟩
 unfold W6
 simp only[cT,a1,b1,c1,az,bd,aw,av,bG,aH,au,ak,aK,aA,aP,bK,aE,bO,bC,aR,bu,ay,bF,aT,aC,bq,aU,bI,bM,ba,aI,aW,aQ,ar,aV,a7,bS,aF,aO,bt,bJ,aN,aM,aD,bB,br,aY,bQ,bT,bk,bH,af,bp,ag,bP,ah,aB,aG,bw,bA,bR,aL,bN,bD,bo,aj,bh,bg,aq,ai,aS,a8,aZ,bE,aJ,nq,gk,wc,yL,yB,decide_true,decide_false,Int.reduceBEq,Int.reduceBNe,Int.reduceLT,Int.reduceLE,Int.reduceGT,Int.reduceGE,Int.reduceNeg,aaJ,bne_self_eq_false,ge_iff_le,gt_iff_lt]
theorem WZ:∀ (ns:List (List Nat)) (z:Int),z∈mI ns ↔ ∃ s∈ns,(ju s).2=true/\z=((ju s).1:Int)
 | [],z=>by simp[mI]
 | c::r,z=>by
  have ih:=WZ r z
  rw[mI]
  split
  ·rename_i h
   rw[aap,ih]
   constructor
   ·rintro (rfl | ⟨s,a,b⟩)
    ·exact⟨c,.head _,h,rfl⟩
    ·exact⟨s,.tail _ a,b⟩
   ·rintro⟨s,a,b,e⟩
    rcases aap.1 a with rfl | a
    ·exact .inl e
    ·exact .inr ⟨s,a,b,e⟩
  ·rename_i h
   rw[ih]
   constructor
   ·rintro⟨s,a,b⟩
    exact⟨s,.tail _ a,b⟩
   ·rintro⟨s,a,b,e⟩
    rcases aap.1 a with rfl | a
    ·exact absurd b h
    ·exact⟨s,a,b,e⟩
theorem LC:∀ (p:Int) (r:List Int) (x:Int),x∈p::gz p r↔x∈p::r
 | p,[],x=>by simp[gz]
 | p,b::r,x=>by
  have ih:=LC b r x
  rw[gz]
  split
  ·rename_i h
   subst h
   rw[ih]
   simp
  ·rw[aap,ih]
   simp
theorem Yn:∀ (p:Int) (r:List Int),(p::r).Pairwise (fun a b=>a<=b)->(p::gz p r).Pairwise (fun a b=>a<b)
 | p,[],_=>by simp[gz]
 | p,b::r,h=>by
  rw[afb] at h
  have ih:=Yn b r h.2
  rw[gz]
  split
  ·rename_i e
   subst e
   exact ih
  ·rename_i e
   rw[afb]
   refine⟨fun x hx => ?_,ih⟩
   have sL:=(LC b r x).1 hx
   have h1:=h.1 b (.head _)
   rcases aap.1 sL with rfl | sL
   ·omega
   ·have:=(afb.1 h.2).1 x sL
    omega
theorem aji (l:List Int)(x:Int):x∈ve l↔x∈l:=by
 cases l with
 | nil=>rfl
 | cons a r=>exact LC a r x
theorem ad9 {l:List Int}(h:l.Pairwise (fun a b=>a<=b)):(ve l).Pairwise (fun a b=>a<b):=by
 cases l with
 | nil=>exact .nil
 | cons a r=>exact Yn a r h
theorem ala (l:List Int):(mR l).Pairwise (fun a b=>a<=b):=by
 have:=List.pairwise_mergeSort (le:=fun x y:Int=>decide (x<=y)) (fun a b c h k=>by simp at h k ⊢;omega) (fun a b=>by simp;omega) l
 exact this.imp fun h=>by simpa using h
theorem adP (ns:List (List Nat)):(wq ns).Pairwise (fun a b=>a<b):=ad9 (ala _)
theorem Rk (ns:List (List Nat))(z:Int):z∈wq ns ↔ ∃ s∈ns,(ju s).2=true/\z=((ju s).1:Int):=by
 unfold wq
 rw[aji,<-WZ]
 exact (List.mergeSort_perm _ _).mem_iff
end Go.Proofs.YtbdlbhlhnpblpaaGreatDoor.fX
namespace Go.Proofs.YtbdlbhlhnpblpaaGreatDoor.du
open Go Am Am.K eU Sg gM iR fX cS
end Go.Proofs.YtbdlbhlhnpblpaaGreatDoor.du
