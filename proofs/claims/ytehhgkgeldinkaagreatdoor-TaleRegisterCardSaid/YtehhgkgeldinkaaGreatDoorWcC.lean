/- Laws that the proof uses. -/
import Derived.Test.YtehhgkgeldinkaaGreatDoorWlK
import Derived.Test.YtehhgkgeldinkaaGreatDoorHp
import Derived.Test.YtehhgkgeldinkaaGreatDoorAm16
import Derived.Test.YtehhgkgeldinkaaGreatDoorAm13
import Derived.Test.YtehhgkgeldinkaaGreatDoorAm15
set_option linter.unusedVariables false
set_option linter.unusedSimpArgs false
set_option maxRecDepth 10000
set_option maxHeartbeats 2000000
namespace Go.Proofs.YtehhgkgeldinkaaGreatDoor.dg
open Go Am Am.K jn
theorem apU (H:Hp)(l:List AV)(el fl:Nat):Cs ⟨H.h.put 34 H.next (.cells (Tr.dh .nil 0 l) 0 l.length el fl),H.next+1⟩ H.next l el fl/\Out [] H ⟨H.h.put 34 H.next (.cells (Tr.dh .nil 0 l) 0 l.length el fl),H.next+1⟩:=by
 refine⟨⟨aeX _,Tr.dh .nil 0 l,?_,?_⟩,⟨Nat.le_succ _,?_⟩⟩
 ·show (Tr.put 34 H.h H.next _).get _=_
  rw[Tr.put,Tr.fE,if_pos rfl]
 ·intro k v hv
  rw[G8,if_pos ⟨adf _,by have:=(abf.1 hv).1;omega⟩,ae9]
  exact hv
 ·intro j hj _
  show (Tr.put 34 H.h H.next _).get j=_
  rw[Tr.put,Tr.fE,if_neg (by omega)]
theorem Vn {H:Hp}{x:AV}{l:List Nat}(hx:Rw H 1 x (bs l))(hl:l.length<=140737488355328) :
  ∃ y H',cK (.func (.func 78) [] []) [x] H=some (y,H')/\Ow H' 5 1 y (bs l)/\Out [] H H'/\∀ j∈aa y,H.next<=j:=by
 have h1:=zV l
 have hz:∃ zs:List Int,bs l=zs.map (AV.int .u8):=⟨l.map (fun (b:Nat)=>(b:Int)),by simp[bs]⟩
 have hlen:=gO l
 have hp:aw 78=some DT.DS:=by kernel_rfl
 generalize bs l=m at *
 obtain⟨c1,c2⟩:=apU H m 5 0
 have hf:∀ n,m.length=n->∃ y H',(some (AV.slice H.next 0 n n false 1,(⟨H.h.put 34 H.next (.cells (Tr.dh .nil 0 m) 0 m.length 5 0),H.next+1⟩:Hp)):Option (AV × Hp))=some (y,H')/\Ow H' 5 1 y m/\Out [] H H'/\∀ j∈aa y,H.next<=j:=by
  intro n hn
  refine⟨_,_,rfl,c1.ow (n:=n) (by omega) (by omega) h1 false,c2,fun j hj => ?_⟩
  simp only[aa,ai7,cond_false,wc] at hj
  omega
 cases hx with
 | nil=>exact⟨.ae,H,oN hp rfl,.nil,Out.refl _ _,fun j hj=>by cases hj⟩
 | @emp i off=>
  obtain⟨y,H',e,q⟩:=hf 0 rfl
  refine⟨y,H',oN hp ?_,q⟩
  rw[<-e]
  have hc:Am.dQ H i off 0=some []:=rfl
  unfold DT.DS
  simp only[hc]
  rw[if_pos ⟨adf _,hz⟩]
  rfl
 | @mk i off n cap ex _ hr hn hc he=>
  rw[adQ] at hn
  obtain⟨y,H',e,q⟩:=hf n hn
  refine⟨y,H',oN hp ?_,q⟩
  rw[<-e]
  have hc:Am.dQ H i off n=some m:=by rw[<-hn];exact hr.dQ
  unfold DT.DS
  simp only[hc]
  rw[if_pos ⟨by omega,hz⟩]
  rfl
end Go.Proofs.YtehhgkgeldinkaaGreatDoor.dg
namespace Go.Proofs.YtehhgkgeldinkaaGreatDoor.iX
open Go Am Am.K jn dg
theorem akL:aw 60=some F7:=by kernel_rfl
theorem alK:aw 260=some Fj:=by kernel_rfl
theorem aau:aw 66=some (CG 9):=by kernel_rfl
abbrev vb:List Nat:=[97,98,99,100,101,102,103,104,105,106,107,108,109,110,111,112,113,114,115,116,117,118,119,120,121,122,48,49,50,51,52,53,54,55,56,57,45]
theorem amu (s:List Nat)(H:Hp)(hs:s.length<=4294967296):cK (.func (.func 60) [] []) [.str s,.str vb] H=some (.str (Ax s vb),H):=by
 refine oN akL ?_
 have h1:Ey vb=true:=by decide
 have h2:F.cW (Ey vb) (F.cW (Nat.ble (F.iJ s) 4294967296) (Nat.ble (F.iJ vb) 4294967280))=true:=by
  rw[F.jq,F.jq,F.nj,F.nj,h1]
  simp only[Bool.true_and,zf,ado]
  exact⟨hs,by decide⟩
 show I9 H s vb=_
 unfold I9
 rw[h2]
noncomputable def iV (s:List Nat):Bool := !(s==[])&&(decide ((s.length:Int)<=16)&&(Ax s vb==[]))
theorem LL (s:List Nat)(H:Hp):cK (.func (.func 181) [] []) [.str s] H=some (.bool (iV s),H):=by
 refine ac4 ?_
 unfold Yf iV
 cases h0:(s==[]) with
 | true=>simp only[aN,bH,aL,aK,cj,aV,aJ,aG,aZ,aO,bh,cq,aS,cx,bV,bo,bR,aM,cg,br,aQ,bO,bu,cn,cu,bG,aW,bB,bk,aI,bA,bE,cB,aT,bf,bQ,cp,bd,bc,aR,bU,bP,bC,cz,cC,bK,cl,aA,bN,aD,cy,bW,aP,aU,bS,bT,cA,ba,cw,bY,bM,aF,bJ,bI,aH,ck,bq,bF,bD,bZ,aY,nq,gk,yS,aat,aag,decide_true,decide_false,Int.reduceBEq,Int.reduceBNe,Int.reduceLT,Int.reduceLE,Int.reduceGT,Int.reduceGE,Int.reduceNeg,ab2,bne_self_eq_false,ge_iff_le,gt_iff_lt,h0,ai7]
 | false=>
  by_cases h1:(s.length:Int)<=16
  ·have ht:=amu s H (by omega)
   simp only[aN,bH,aL,aK,cj,aV,aJ,aG,aZ,aO,bh,cq,aS,cx,bV,bo,bR,aM,cg,br,aQ,bO,bu,cn,cu,bG,aW,bB,bk,aI,bA,bE,cB,aT,bf,bQ,cp,bd,bc,aR,bU,bP,bC,cz,cC,bK,cl,aA,bN,aD,cy,bW,aP,aU,bS,bT,cA,ba,cw,bY,bM,aF,bJ,bI,aH,ck,bq,bF,bD,bZ,aY,nq,gk,yS,aat,aag,decide_true,decide_false,Int.reduceBEq,Int.reduceBNe,Int.reduceLT,Int.reduceLE,Int.reduceGT,Int.reduceGE,Int.reduceNeg,ab2,bne_self_eq_false,ge_iff_le,gt_iff_lt,h0,h1,ht,Bool.true_and]
  ·simp only[aN,bH,aL,aK,cj,aV,aJ,aG,aZ,aO,bh,cq,aS,cx,bV,bo,bR,aM,cg,br,aQ,bO,bu,cn,cu,bG,aW,bB,bk,aI,bA,bE,cB,aT,bf,bQ,cp,bd,bc,aR,bU,bP,bC,cz,cC,bK,cl,aA,bN,aD,cy,bW,aP,aU,bS,bT,cA,ba,cw,bY,bM,aF,bJ,bI,aH,ck,bq,bF,bD,bZ,aY,nq,gk,yS,aat,aag,decide_true,decide_false,Int.reduceBEq,Int.reduceBNe,Int.reduceLT,Int.reduceLE,Int.reduceGT,Int.reduceGE,Int.reduceNeg,ab2,bne_self_eq_false,ge_iff_le,gt_iff_lt,h0,h1,Bool.true_and,ai7]
structure Fl where
 nm:List Nat
 b:List Nat
 sure:Nat
structure SM where
 room:Nat
 off:Bool
 eC:Nat
 dA:List Int
 fs:List Fl
structure FC where
 id:Nat
 sl:AV
 born:Nat
 f:Fl
def FC.me (x:FC):ME:=⟨.str x.f.nm,.ptr x.id 0,x.born⟩
def FC.ids (x:FC):List Nat:=x.id::aa x.sl
structure Lay where
 gx:Nat
 kp:Nat
 dA:AV
 cs:List FC
def dL (p:Nat)(L:Lay):List Nat:=p::L.gx::(aa L.dA++L.cs.flatMap FC.ids)
def ints (l:List Int):List AV:=l.map fun z => .int .i64 z
def dO (fs:List Fl):Nat:=(fs.map (·.b.length)).sum
def C0 (H:Hp)(i:Nat)(l:List AV):Prop:=∃ el,Cs H i l el 0
theorem C0.out {H H':Hp}{i:Nat}{l:List AV}{S:List Nat}(h:C0 H i l)(k:Out S H H')(hi:i∉S):C0 H' i l:=by
 obtain⟨el,h⟩:=h;exact⟨el,h.out k hi⟩
theorem C0.ld {H:Hp}{i:Nat}{l:List AV}(h:C0 H i l){o:Nat}{v:AV}(hv:l[o]? = some v):ld (.ptr i o) H=some v:=by
 obtain⟨el,h⟩:=h;exact h.ld hv
theorem C0.st {H:Hp}{i:Nat}{l:List AV}(h:C0 H i l){o:Nat}(ho:o<l.length){v:AV}(hv:db v=true) :
  ∃ H',st 1 (.ptr i o) v H=some H'/\C0 H' i (l.set o v)/\Out [i] H H'/\H'.next=H.next:=by
 obtain⟨el,h⟩:=h
 obtain⟨H',h1,h2,h3,h4⟩:=qZ h (by omega) ho hv
 exact⟨H',h1,⟨el,h2⟩,h3,h4⟩
theorem C0.lt {H:Hp}{i:Nat}{l:List AV}(h:C0 H i l):i<H.next:=by obtain⟨el,h⟩:=h;exact h.1
structure Okm (m:SM):Prop where
 room:m.room<=16777216
 sum:dO m.fs<=m.room
 sure:∀ f∈m.fs,f.sure<=f.b.length
 byte:∀ f∈m.fs,∀ c∈f.b,c<256
 eC:(m.eC:Int)<=9223372036854775807
 names:(m.fs.map (·.nm)).Nodup
 yO:∀ f∈m.fs,iV f.nm=true
 many:m.fs.length<=64
structure St (H:Hp)(p:Nat)(m:SM)(L:Lay):Prop where
 head:C0 H p [.int .i64 m.room,.map L.gx,.bool m.off,.int .i64 m.eC,L.dA]
 map:Mp H L.gx (L.cs.map FC.me) L.kp
 file:∀ x∈L.cs,C0 H x.id [x.sl,.int .i64 x.f.sure]/\Ow H 5 1 x.sl (bs x.f.b)
 dA:Rw H 1 L.dA (ints m.dA)
 nd:(dL p L).Nodup
 born:pz L.kp (L.cs.map FC.me) 0=true
 fs:m.fs=L.cs.map (·.f)
 ok:Okm m
def iw (p:Nat)(H:Hp)(L:Lay)(H':Hp)(L':Lay):Prop:=Out (dL p L) H H'/\∀ j∈dL p L',j∈dL p L\/H.next<=j
theorem iw.refl (p:Nat)(H:Hp)(L:Lay):iw p H L H L:=⟨Out.refl _ _,fun _ h => .inl h⟩
theorem iw.trans {p:Nat}{H H' rv:Hp}{L L' Wz:Lay}(h:iw p H L H' L')(k:iw p H' L' rv Wz):iw p H L rv Wz:=
 ⟨h.1.then k.1 h.2,fun j hj=>(k.2 j hj).elim (fun q=>h.2 j q) (fun q => .inr (abS h.1.1 q))⟩
section
variable {H:Hp}{p:Nat}{m:SM}{L:Lay}
theorem St.rL:p∈dL p L := .head _
theorem St.nV:L.gx∈dL p L := .tail _ (.head _)
theorem St.ux {j:Nat}(h:j∈aa L.dA):j∈dL p L := .tail _ (.tail _ (aaI _ h))
theorem St.lG {x:FC}(hx:x∈L.cs){j:Nat}(h:j∈x.ids):j∈dL p L := .tail _ (.tail _ (yX _ (adI.2 ⟨x,hx,h⟩)))
theorem St.lt (h:St H p m L):∀ j∈dL p L,j<H.next:=by
 intro j hj
 unfold dL at hj
 rcases yL.1 hj with rfl | hj
 ·exact h.head.lt
 rcases yL.1 hj with rfl | hj
 ·exact h.map.1
 rcases aal.1 hj with hj | hj
 ·exact h.dA.lt j hj
 ·obtain⟨x,hx,hj⟩:=adI.1 hj
  rcases yL.1 hj with rfl | hj
  ·exact (h.file x hx).1.lt
  ·exact (h.file x hx).2.rw.lt j hj
theorem St.out {H' : Hp}{S : List Nat}(h : St H p m L)(k : Out S H H')(hs : ∀ j ∈ dL p L, j ∉ S) : St H' p m L :=
  ⟨h.head.out k (hs _ St.rL), h.map.out k (hs _ St.nV), fun x hx => ⟨(h.file x hx).1.out k (hs _ (St.lG hx (.head _))), (h.file x hx).2.out k fun j hj => hs _ (St.lG hx (.tail _ hj))⟩,
   h.dA.out k fun j hj => hs _ (St.ux hj), h.nd, h.born, h.fs, h.ok⟩
def fp (L:Lay)(at':List Nat):AV:=match L.cs.find? (fun x=>x.f.nm==at') with | none => .aC | some x => .ptr x.id 0
def KU (fs:List Fl)(at':List Nat):Bool:=fs.any (fun f=>f.nm==at')
theorem St.find (h:St H p m L)(at':List Nat):(fp L at' = .aC/\KU m.fs at'=false/\∀ x∈L.cs,x.f.nm≠at')\/
  ∃ a x b,L.cs=a++x::b/\x.f.nm=at'/\(∀ y∈a,y.f.nm≠at')/\(∀ y∈b,y.f.nm≠at')/\fp L at' = .ptr x.id 0/\KU m.fs at'=true:=by
 have hn:=h.ok.names
 rw[h.fs,agx] at hn
 unfold fp KU
 rw[h.fs]
 cases hf:L.cs.find? (fun x=>x.f.nm==at') with
 | none=>
  rw[List.find?_eq_none] at hf
  have Kx:∀ x∈L.cs,x.f.nm≠at':=fun x hx=>by simpa using hf x hx
  refine .inl ⟨rfl,?_,Kx⟩
  rw[List.any_eq_false]
  intro f CP
  obtain⟨x,hx,rfl⟩:=adj.1 CP
  simpa using Kx x hx
 | some x=>
  obtain⟨h1,a,b,h2,h3⟩:=List.find?_eq_some_iff_append.1 hf
  have h1:x.f.nm=at':=by simpa using h1
  have h3:∀ y∈a,y.f.nm≠at':=fun y hy=>by simpa using h3 y hy
  refine .inr ⟨a,x,b,h2,h1,h3,?_,rfl,?_⟩
  ·intro y hy he
   rw[h2,acJ,ab8,acK,acB] at hn
   exact hn.2.1.1 (adj.2 ⟨y,hy,he.trans h1.symm⟩)
  ·rw[List.any_eq_true]
   exact⟨x.f,adj.2 ⟨x,by rw[h2];simp,rfl⟩,by simpa using h1⟩
theorem zU {a:List FC}{at':List Nat}(h:∀ y∈a,y.f.nm≠at'):∀ e∈a.map FC.me,∃ q,e.key = .str q/\q≠at':=by
 intro e he
 obtain⟨y,hy,rfl⟩:=adj.1 he
 exact⟨_,rfl,h y hy⟩
theorem St.mU (h:St H p m L)(at':List Nat):mU .str .aC false (.map L.gx) (.str at') H=some (fp L at'):=by
 rcases h.find at' with⟨h1,h2,h3⟩ | ⟨a,x,b,h1,h2,h3,h4,h5,h6⟩
 ·rw[acV h.map (zU h3),h1];rfl
 ·have hm:=h.map
  rw[h1,acJ,ab8] at hm
  rw[akU hm (by rw[FC.me,h2]) (zU h3) (zU h4),h5];rfl
theorem St.Pn (h:St H p m L)(at':List Nat)(H':Hp):pe (fp L at') .aC H'=some (!KU m.fs at'):=by
 rcases h.find at' with⟨h1,h2,h3⟩ | ⟨a,x,b,h1,h2,h3,h4,h5,h6⟩
 ·rw[h1,h2];rfl
 ·rw[h5,h6];rfl
theorem St.OO {H':Hp}{off:Bool}{eC:Nat}{dA:AV}{kl:List Int}(h:St H p m L)(hc:C0 H' p [.int .i64 m.room,.map L.gx,.bool off,.int .i64 eC,dA])(hf:(eC:Int)<=9223372036854775807)
  {S:List Nat} (ho:Out S H H') (hS:∀ j∈S,j=p\/j∈aa L.dA) (hk:Rw H' 1 dA (ints kl)) (fP:∀ j∈aa dA,j∈aa L.dA\/H.next<=j) (cU:(aa dA).Nodup) :
  St H' p { m with off:=off,eC:=eC,dA:=kl } { L with dA:=dA }/\iw p H L H' { L with dA:=dA }:=by
 have dI:=h.nd
 unfold dL at dI
 rw[acB,acB,acK] at dI
 obtain⟨n1,n2,n3,n4,n5⟩:=dI
 have nS:∀ j,j≠p->j∉aa L.dA->j∉S:=fun j h1 h2 hj=>(hS j hj).elim h1 h2
 have yi:L.gx∉S:=nS _ (fun q=>n1 (by rw[<-q];exact .head _)) (fun q=>n2 (aaI _ q))
 have abu:∀ x∈L.cs,∀ j∈x.ids,j∉S:=fun x hx j hj=>by
  have hm:j∈L.cs.flatMap FC.ids:=adI.2 ⟨x,hx,hj⟩
  exact nS _ (fun q=>n1 (by rw[<-q];exact .tail _ (yX _ hm))) (fun q=>n5 _ q _ hm rfl)
 refine⟨⟨hc,h.map.out ho yi,fun x hx=>⟨(h.file x hx).1.out ho (abu x hx _ (.head _)),(h.file x hx).2.out ho fun j hj=>abu x hx j (.tail _ hj)⟩,hk,?_,h.born,h.fs,
  ⟨h.ok.room,h.ok.sum,h.ok.sure,h.ok.byte,hf,h.ok.names,h.ok.yO,h.ok.many⟩⟩,ho.mono (fun j hj=>(hS j hj).elim (fun q=>by rw[q];exact St.rL) St.ux),fun j hj => ?_⟩
 ·have ah:=h.lt
  unfold dL
  rw[acB,acB,acK]
  have key:∀ j∈aa dA,j≠p/\j≠L.gx/\j∉L.cs.flatMap FC.ids:=by
   intro j hj
   rcases fP j hj with q | q
   ·exact⟨fun e=>n1 (by rw[<-e];exact .tail _ (aaI _ q)),fun e=>n2 (by rw[<-e];exact aaI _ q),fun e=>n5 _ q _ e rfl⟩
   ·refine⟨fun e => ?_,fun e => ?_,fun e => ?_⟩
    ·have:=ah p St.rL;omega
    ·have:=ah L.gx St.nV;omega
    ·obtain⟨x,hx,iU⟩:=adI.1 e
     have:=ah j (St.lG hx iU);omega
  refine⟨fun e => ?_,fun e => ?_,cU,n4,fun a ha b hb e=>(key a ha).2.2 (e▸hb)⟩
  ·rcases yL.1 e with e | e
   ·exact n1 (by rw[e];exact .head _)
   ·rcases aal.1 e with e | e
    ·exact (key _ e).1 rfl
    ·exact n1 (.tail _ (yX _ e))
  ·rcases aal.1 e with e | e
   ·exact (key _ e).2.1 rfl
   ·exact n2 (yX _ e)
 ·unfold dL at hj
  rcases yL.1 hj with rfl | hj
  ·exact .inl St.rL
  rcases yL.1 hj with rfl | hj
  ·exact .inl St.nV
  rcases aal.1 hj with hj | hj
  ·exact (fP j hj).imp St.ux id
  ·obtain⟨x,hx,iU⟩:=adI.1 hj
   exact .inl (St.lG (L:=L) hx iU)
end
section
variable {H:Hp}{p:Nat}{m:SM}{L:Lay}
def ea (at':List Nat)(f:Fl)(fs:List Fl):List Fl:=fs.map fun g=>if g.nm=at' then f else g
theorem FA {a b:List FC}{x:FC}{at':List Nat}{f:Fl}(hx:x.f.nm=at')(ha:∀ y∈a,y.f.nm≠at')(hb:∀ y∈b,y.f.nm≠at'):ea at' f ((a++x::b).map (·.f))=a.map (·.f)++f::b.map (·.f):=by
 unfold ea
 rw[acJ,ab8,acJ,ab8,if_pos hx]
 congr 1
 ·rw[agx];exact ag4 fun y hy=>if_neg (ha y hy)
 ·congr 1
  rw[agx];exact ag4 fun y hy=>if_neg (hb y hy)
theorem St.Ic {H':Hp}{a b:List FC}{x:FC}{f:Fl}{sl:AV}(h:St H p m L)(hL:L.cs=a++x::b)(ha:∀ y∈a,y.f.nm≠x.f.nm)(hb:∀ y∈b,y.f.nm≠x.f.nm)(uJ:f.nm=x.f.nm)
  {S:List Nat} (ho:Out S H H') (hS:∀ j∈S,j∈x.ids) (hc:C0 H' x.id [sl,.int .i64 f.sure]) (hw:Ow H' 5 1 sl (bs f.b)) (hr:∀ j∈aa sl,j∈aa x.sl\/H.next<=j) (jh:(aa sl).Nodup)
  (vY:f.sure<=f.b.length) (E2:∀ c∈f.b,c<256) (oT:dO (ea x.f.nm f m.fs)<=m.room) :
  St H' p { m with fs:=ea x.f.nm f m.fs } { L with cs:=a++⟨x.id,sl,x.born,f⟩::b }/\iw p H L H' { L with cs:=a++⟨x.id,sl,x.born,f⟩::b }:=by
 have Ex:x∈L.cs:=by rw[hL];simp
 have tv:ea x.f.nm f m.fs=(a++⟨x.id,sl,x.born,f⟩::b).map (·.f):=by
  rw[h.fs,hL,FA rfl ha hb,acJ,ab8]
 have dI:=h.nd
 unfold dL at dI
 rw[hL,afa,af2,acB,acB,acK,acK,acK] at dI
 obtain⟨n1,n2,n3,⟨n4,⟨n5,n6,n7⟩,n8⟩,n9⟩:=dI
 have ah:=h.lt
 have sub:∀ j∈S,j∈x.ids:=hS
 have nx:∀ j,j∉x.ids->j∉S:=fun j hj q=>hj (sub j q)
 have hp:p∉S:=nx _ fun q=>n1 (.tail _ (yX _ (yX _ (aaI _ q))))
 have yi:L.gx∉S:=nx _ fun q=>n2 (yX _ (yX _ (aaI _ q)))
 have apo:∀ j∈aa L.dA,j∉S:=fun j hj=>nx _ fun q=>n9 _ hj _ (yX _ (aaI _ q)) rfl
 have hA:∀ y∈a,∀ j∈y.ids,j∉S:=fun y hy j hj=>nx _ fun q=>n8 _ (adI.2 ⟨y,hy,hj⟩) _ (aaI _ q) rfl
 have hB:∀ y∈b,∀ j∈y.ids,j∉S:=fun y hy j hj=>nx _ fun q=>n7 _ q _ (adI.2 ⟨y,hy,hj⟩) rfl
 have key:∀ j∈FC.ids ⟨x.id,sl,x.born,f⟩,j∈x.ids\/H.next<=j:=by
  intro j hj
  rcases yL.1 hj with rfl | hj
  ·exact .inl (.head _)
  ·exact (hr j hj).imp (List.mem_cons_of_mem _) id
 have wj:∀ j∈FC.ids ⟨x.id,sl,x.born,f⟩,∀ k∈dL p L,k∉x.ids->j≠k:=by
  intro j hj k hk hkx e
  rcases key j hj with q | q
  ·exact hkx (e▸q)
  ·have:=ah k hk;omega
 have mA:∀ y∈a,y∈L.cs:=fun y hy=>by rw[hL];exact aaI _ hy
 have mB:∀ y∈b,y∈L.cs:=fun y hy=>by rw[hL];exact yX _ (.tail _ hy)
 refine⟨⟨h.head.out ho hp,?_,?_,h.dA.out ho apo,?_,?_,tv,⟨h.ok.room,oT,?_,?_,h.ok.eC,?_,?_,?_⟩⟩,ho.mono fun j hj=>St.lG Ex (sub j hj),?_⟩
 ·have hm:=h.map.out ho yi
  rw[hL] at hm
  rw[acJ,ab8] at hm ⊢
  have:FC.me ⟨x.id,sl,x.born,f⟩=x.me:=by unfold FC.me;rw[uJ]
  rw[this];exact hm
 ·intro y hy
  rcases aal.1 hy with hy | hy
  ·exact⟨(h.file y (mA y hy)).1.out ho (hA y hy _ (.head _)),(h.file y (mA y hy)).2.out ho fun j hj=>hA y hy j (.tail _ hj)⟩
  ·rcases yL.1 hy with rfl | hy
   ·exact⟨hc,hw⟩
   ·exact⟨(h.file y (mB y hy)).1.out ho (hB y hy _ (.head _)),(h.file y (mB y hy)).2.out ho fun j hj=>hB y hy j (.tail _ hj)⟩
 ·unfold dL
  rw[afa,af2,acB,acB,acK,acK,acK]
  have pX:p∉x.ids:=fun q=>n1 (.tail _ (yX _ (yX _ (aaI _ q))))
  have mX:L.gx∉x.ids:=fun q=>n2 (yX _ (yX _ (aaI _ q)))
  have aX:∀ k∈a.flatMap FC.ids,k∉x.ids:=fun k hk q=>n8 _ hk _ (aaI _ q) rfl
  have bX:∀ k∈b.flatMap FC.ids,k∉x.ids:=fun k hk q=>n7 _ q _ hk rfl
  have kX:∀ k∈aa L.dA,k∉x.ids:=fun k hk q=>n9 _ hk _ (yX _ (aaI _ q)) rfl
  have fA:∀ k∈a.flatMap FC.ids,k∈dL p L:=fun k hk=>by
   obtain⟨y,hy,hk⟩:=adI.1 hk
   exact St.lG (mA y hy) hk
  have fB:∀ k∈b.flatMap FC.ids,k∈dL p L:=fun k hk=>by
   obtain⟨y,hy,hk⟩:=adI.1 hk
   exact St.lG (mB y hy) hk
  refine⟨fun e => ?_,fun e => ?_,n3,⟨n4,⟨?_,n6,fun j hj k hk=>wj j hj k (fB k hk) (bX k hk)⟩,fun j hj k hk e => ?_⟩,fun j hj k hk e => ?_⟩
  ·rcases yL.1 e with e | e
   ·exact n1 (by rw[e];exact .head _)
   rcases aal.1 e with e | e
   ·exact n1 (.tail _ (aaI _ e))
   rcases aal.1 e with e | e
   ·exact n1 (.tail _ (yX _ (aaI _ e)))
   rcases aal.1 e with e | e
   ·exact wj _ e p St.rL pX rfl
   ·exact n1 (.tail _ (yX _ (yX _ (yX _ e))))
  ·rcases aal.1 e with e | e
   ·exact n2 (aaI _ e)
   rcases aal.1 e with e | e
   ·exact n2 (yX _ (aaI _ e))
   rcases aal.1 e with e | e
   ·exact wj _ e L.gx St.nV mX rfl
   ·exact n2 (yX _ (yX _ (yX _ e)))
  ·show (x.id::aa sl).Nodup
   rw[acB]
   refine⟨fun q => ?_,jh⟩
   rcases hr _ q with q | q
   ·have:(x.id::aa x.sl).Nodup:=n5
    rw[acB] at this
    exact this.1 q
   ·have:=ah x.id (St.lG Ex (.head _));omega
  ·rcases aal.1 hk with hk | hk
   ·exact wj k hk j (fA j hj) (aX j hj) e.symm
   ·exact n8 _ hj _ (yX _ hk) e
  ·rcases aal.1 hk with hk | hk
   ·exact n9 _ hj _ (aaI _ hk) e
   rcases aal.1 hk with hk | hk
   ·exact wj k hk j (St.ux hj) (kX j hj) e.symm
   ·exact n9 _ hj _ (yX _ (yX _ hk)) e
 ·have rA:=h.born
  rw[hL] at rA
  rw[acJ,ab8] at rA ⊢
  have:FC.me ⟨x.id,sl,x.born,f⟩=x.me:=by unfold FC.me;rw[uJ]
  rw[this];exact rA
 ·intro g hg
  unfold ea at hg
  obtain⟨g',oe,rfl⟩:=adj.1 hg
  split
  ·exact vY
  ·exact h.ok.sure g' oe
 ·intro g hg
  unfold ea at hg
  obtain⟨g',oe,rfl⟩:=adj.1 hg
  split
  ·exact E2
  ·exact h.ok.byte g' oe
 ·have:(ea x.f.nm f m.fs).map (·.nm)=m.fs.map (·.nm):=by
   unfold ea
   rw[agx]
   refine ag4 fun g hg => ?_
   simp only[Function.comp]
   split
   ·rename_i q;rw[q,uJ]
   ·rfl
  rw[this];exact h.ok.names
 ·intro g hg
  unfold ea at hg
  obtain⟨g',oe,rfl⟩:=adj.1 hg
  split
  ·rename_i q;rw[uJ,<-q];exact h.ok.yO g' oe
  ·exact h.ok.yO g' oe
 ·simp only[ea,adg];exact h.ok.many
 ·intro j hj
  unfold dL at hj
  rcases yL.1 hj with rfl | hj
  ·exact .inl St.rL
  rcases yL.1 hj with rfl | hj
  ·exact .inl St.nV
  rcases aal.1 hj with hj | hj
  ·exact .inl (St.ux hj)
  ·obtain⟨y,hy,iU⟩:=adI.1 hj
   rcases aal.1 hy with hy | hy
   ·exact .inl (St.lG (mA y hy) iU)
   ·rcases yL.1 hy with rfl | hy
    ·exact (key j iU).imp (St.lG Ex) id
    ·exact .inl (St.lG (mB y hy) iU)
end
theorem WJ {H:Hp}:∀ cs:List FC,(∀ x∈cs,C0 H x.id [x.sl,.int .i64 x.f.sure]/\Ow H 5 1 x.sl (bs x.f.b))->zF H (cs.map FC.me)=some (dO (cs.map (·.f)))
 | [],_=>rfl
 | x::cs,h=>by
  obtain⟨h1,h2⟩:=h x (.head _)
  have ih:=WJ cs fun y hy=>h y (.tail _ hy)
  have hl:F9 H x.me.val=some x.f.b.length:=by
   show F.oE EH (F.cellAt H x.id 0)=_
   rw[F.tV,F.Al]
   have Bc:cellAt H x.id 0=some x.sl:=h1.ld (o:=0) rfl
   rw[Bc]
   have h3:=h2.rw.gV
   rw[gO] at h3
   show EH x.sl=_
   cases rD:x.sl<;>rw[rD] at h3<;>first | (cases h3;done) | skip
   ·simp only[cJ,acS,AV.int.injEq,true_and] at h3
    simp only[EH,acS];omega
   ·simp only[cJ,acS,AV.int.injEq,true_and] at h3
    simp only[EH,acS];omega
  show F.oE (LQ (zF H (cs.map FC.me))) (F9 H x.me.val)=_
  rw[hl,ih]
  show F.vo some (Nat.add x.f.b.length (dO (cs.map (·.f))))=_
  rw[F.Dl]
  rfl
section
variable {H:Hp}{p:Nat}{m:SM}{L:Lay}
theorem afs (h:St H p m L):cK (.func (.func 260) [] []) [.ptr p 0] H=some (.int .i64 ((m.room:Int)-dO m.fs),H):=by
 refine oN alK ?_
 have h0:cellAt H p 0=some (.int .i64 m.room):=h.head.ld (o:=0) rfl
 have h1:cellAt H p 1=some (.map L.gx):=h.head.ld (o:=1) rfl
 have Az:=h.ok.room
 have oT:=h.ok.sum
 have hr:Sp (m.room:Int)=true:=by
  show Nat.ble m.room 9223372036854775807=true
  rw[ado];omega
 show KE H p 0=_
 unfold KE
 rw[F.Al,F.Al,h0,h1]
 show FH H (.int .i64 m.room) (.map L.gx)=_
 unfold FH
 simp only
 rw[F.jq,hr,F.get_eq]
 show F.oE (EL H (m.room:Int)) (H.h.get L.gx)=_
 rw[h.map.2,F.tV]
 show EL H (m.room:Int) (.map (L.cs.map FC.me) L.kp)=_
 unfold EL
 simp only[h.born]
 show F.oE (D8 H (m.room:Int)) (zF H (L.cs.map FC.me))=_
 rw[WJ L.cs h.file,F.tV,<-h.fs]
 show D8 H (m.room:Int) (dO m.fs)=_
 unfold D8
 rw[F.VV,F.aer]
 have:IntKind.wrap .i64 ((m.room:Int)-Int.ofNat (dO m.fs))=(m.room:Int)-dO m.fs:=wrap_i64 (by simp only[Int.ofNat_eq_natCast];omega) (by simp only[Int.ofNat_eq_natCast];omega)
 rw[this];rfl
theorem V5:∀ cs:List FC,AU (cs.map FC.me)=some (cs.map (·.f.nm))
 | []=>rfl
 | x::cs=>by
  show LS (AU (cs.map FC.me)) (.str x.f.nm)=_
  rw[V5 cs];rfl
theorem Yd:∀ l:List (List Nat),l.Nodup->D2 l=true
 | [],_=>rfl
 | x::l,h=>by
  rw[acB] at h
  have h1:xU x l=false:=by rw[<-Bool.not_eq_true];exact fun q=>h.1 ((Sh x l).1 q)
  show @Bool.rec (fun _=>Bool) (D2 l) false (xU x l)=true
  rw[h1];exact Yd l h.2
theorem Z0:∀ l:List (List Nat),(∀ x∈l,x.length<=16777216)->Dy l=true
 | [],_=>rfl
 | x::l,h=>by
  show F.cW (Nat.ble (F.iJ x) 16777216) (Dy l)=true
  rw[F.jq,F.nj,Z0 l fun y hy=>h y (.tail _ hy),Bool.and_true,ado]
  exact h x (.head _)
theorem arK {s:List Nat}(h:iV s=true):s.length<=16:=by
 unfold iV at h
 simp only[zf,decide_eq_true_eq] at h
 omega
noncomputable def names (m:SM):List (List Nat):=nY (m.fs.map (·.nm))
theorem Z1 (x:List Nat):∀ l:List (List Nat),(tA x l).length=l.length+1
 | []=>rfl
 | y::l=>by
  show (@Bool.rec (fun _=>List (List Nat)) (x::y::l) (y::tA x l) (Ac y x)).length=_
  cases Ac y x
  ·rfl
  ·show (tA x l).length+1=_
   rw[Z1 x l];rfl
theorem R4:∀ l:List (List Nat),(nY l).length=l.length
 | []=>rfl
 | x::l=>by
  show (tA x (nY l)).length=_
  rw[Z1,R4 l];rfl
theorem aaT (x y:List Nat):∀ l:List (List Nat),y∈tA x l↔y=x\/y∈l
 | []=>by show y∈[x]↔_;simp
 | z::l=>by
  show y ∈ @Bool.rec (fun _=>List (List Nat)) (x::z::l) (z::tA x l) (Ac z x)↔_
  cases Ac z x
  ·show y∈x::z::l↔_
   simp
  ·show y∈z::tA x l↔_
   rw[yL,aaT x y l,yL]
   constructor
   ·rintro (h | h | h)
    ·exact .inr (.inl h)
    ·exact .inl h
    ·exact .inr (.inr h)
   ·rintro (h | h | h)
    ·exact .inr (.inl h)
    ·exact .inl h
    ·exact .inr (.inr h)
theorem aaN (y:List Nat):∀ l:List (List Nat),y∈nY l↔y∈l
 | []=>Iff.rfl
 | x::l=>by
  show y∈tA x (nY l)↔_
  rw[aaT,aaN y l,yL]
def strs (l:List (List Nat)):List AV:=l.map AV.str
theorem Yv (h:St H p m L):∃ x H',cK (.func (.func 66) [] []) [.ptr p 0] H=some (x,H')/\Rw H' 1 x (strs (names m))/\Out [] H H'/\(∀ j∈aa x,H.next<=j)/\cJ x=some (.int .i64 (names m).length):=by
 have h1:cellAt H p 1=some (.map L.gx):=h.head.ld (o:=1) rfl
 have P3:∀ x∈L.cs.map (·.f.nm),x.length<=16777216:=by
  intro x hx
  obtain⟨y,hy,rfl⟩:=adj.1 hx
  have:=arK (h.ok.yO y.f (by rw[h.fs];exact adj.2 ⟨y,hy,rfl⟩))
  omega
 have dI:(L.cs.map (·.f.nm)).Nodup:=by
  have:=h.ok.names
  rw[h.fs,agx] at this
  exact this
 have J9:=h.ok.many
 rw[h.fs,adg] at J9
 have hN:names m=nY (L.cs.map (·.f.nm)):=by unfold names;rw[h.fs,agx];rfl
 have hp:CG 9 [.ptr p 0] H=RO 9 H (names m):=by
  show IZ 9 H p 0=_
  unfold IZ
  rw[F.Al,h1]
  show F.oE (Lx 9 H) (F.get H.1 L.gx)=_
  rw[F.get_eq,F.tV]
  show (H.h.get L.gx).bind _=_
  rw[h.map.2]
  show Lx 9 H (.map (L.cs.map FC.me) L.kp)=_
  show F.oE (GR 9 H L.kp (L.cs.map FC.me)) (AU (L.cs.map FC.me))=_
  rw[V5,F.tV]
  show GR 9 H L.kp (L.cs.map FC.me) (L.cs.map (·.f.nm))=_
  unfold GR
  rw[F.jq,F.jq,F.jq,h.born,Yd _ dI,Z0 _ P3,F.nj]
  have:Nat.ble (L.cs.map FC.me).length 16777216=true:=by rw[ado,adg];omega
  rw[this,hN];rfl
 have hlen:(names m).length=L.cs.length:=by rw[hN,R4,adg]
 cases hn:names m with
 | nil=>
  refine⟨.ae,H,oN aau ?_,.nil,Out.refl _ _,(fun j hj=>by cases hj),rfl⟩
  rw[hp,hn];rfl
 | cons y ys=>
  obtain⟨H',q1,q2,q3,q4⟩:=eJ H (strs (y::ys)) 9 0 (by unfold strs;rw[adg,<-hn,hlen];omega)
  refine⟨.slice H.next 0 (y::ys).length (y::ys).length false 1,H',oN aau ?_,.mk q2.ro (by unfold strs;rw[adg,adQ]) (aar _) rfl,q3,fun j hj => ?_,rfl⟩
  ·rw[hp,hn]
   show F.GZ H 9 0 (Bs (F.iJ (y::ys))) (F.EV AV.str (y::ys))=_
   rw[F.YK,F.M0,F.nj]
   have:cI H (List.map AV.str (y::ys)) 9 0=some (H.next,H'):=q1
   rw[this];rfl
  ·simp only[aa,ai7,cond_false,wc] at hj
   omega
end
theorem aev {H:Hp}{es:Nat}{x:AV}{l:List AV}(h:Rw H es x l):db x=true:=by cases h<;>rfl
def look (m:SM)(at':List Nat):Option Fl:=m.fs.find? (fun f=>f.nm==at')
noncomputable def dZ (m:SM)(at':List Nat):Int:=if m.off=true then 11 else if iV at'=false then 1 else if (look m at').isNone=true then 4 else 0
theorem aqE {H:Hp}{x:AV}{l:List Nat}(hx:Rw H 1 x (bs l))(h1:∀ v∈bs l,db v=true)(hl:(bs l).length<=16777216) :
  ∃ x' H',cK (.func (.func 78) [] []) [x] H=some (x',H')/\Ow H' 5 1 x' (bs l)/\Out [] H H'/\∀ j∈aa x',H.next<=j:=Vn hx (by rw[gO] at hl;omega)
section
variable {H:Hp}{p:Nat}{m:SM}{L:Lay}
theorem St.ER (h:St H p m L)(at':List Nat):(fp L at' = .aC/\look m at'=none/\∀ x∈L.cs,x.f.nm≠at')\/
  ∃ a x b,L.cs=a++x::b/\x.f.nm=at'/\(∀ y∈a,y.f.nm≠at')/\(∀ y∈b,y.f.nm≠at')/\fp L at' = .ptr x.id 0/\look m at'=some x.f:=by
 rcases h.find at' with⟨h1,h2,h3⟩ | ⟨a,x,b,h1,h2,h3,h4,h5,h6⟩
 ·refine .inl ⟨h1,?_,h3⟩
  unfold look
  rw[h.fs,List.find?_eq_none]
  intro f hf
  obtain⟨x,hx,rfl⟩:=adj.1 hf
  simpa using h3 x hx
 ·refine .inr ⟨a,x,b,h1,h2,h3,h4,h5,?_⟩
  unfold look
  rw[h.fs,List.find?_eq_some_iff_append]
  exact⟨by simpa using h2,a.map (·.f),b.map (·.f),by rw[h1,acJ,ab8],fun f hf=>by
   obtain⟨y,hy,rfl⟩:=adj.1 hf
   simpa using h3 y hy⟩
theorem St.zT (h:St H p m L):ld (.ptr p 1) H=some (.map L.gx):=h.head.ld (o:=1) rfl
theorem St.NS (h:St H p m L):ld (.ptr p 2) H=some (.bool m.off):=h.head.ld (o:=2) rfl
theorem St.ape (h:St H p m L):ld (.ptr p 3) H=some (.int .i64 m.eC):=h.head.ld (o:=3) rfl
theorem AK (h:St H p m L)(at':List Nat):cK (.func (.func 121) [] []) [.ptr p 0,.str at'] H=
  some (.tuple [if m.off=true\/iV at'=false then .aC else fp L at',.int .i64 (dZ m at')],H):=by
 refine apA ?_
 unfold WZ
 have h1:=h.zT
 have h2:=h.NS
 have h3:=h.mU at'
 have h4:=LL at' H
 have h5:=h.Pn at' H
 simp only[h1,h2,h3,h4,h5,aN,bH,aL,aK,cj,aV,aJ,aG,aZ,aO,bh,cq,aS,cx,bV,bo,bR,aM,cg,br,aQ,bO,bu,cn,cu,bG,aW,bB,bk,aI,bA,bE,cB,aT,bf,bQ,cp,bd,bc,aR,bU,bP,bC,cz,cC,bK,cl,aA,bN,aD,cy,bW,aP,aU,bS,bT,cA,ba,cw,bY,bM,aF,bJ,bI,aH,ck,bq,bF,bD,bZ,aY,nq,gk,yS,aat,aag,decide_true,decide_false,Int.reduceBEq,Int.reduceBNe,Int.reduceLT,Int.reduceLE,Int.reduceGT,Int.reduceGE,Int.reduceNeg,ab2,bne_self_eq_false,ge_iff_le,gt_iff_lt]
 cases ho:m.off with
 | true=>simp only[aN,bH,aL,aK,cj,aV,aJ,aG,aZ,aO,bh,cq,aS,cx,bV,bo,bR,aM,cg,br,aQ,bO,bu,cn,cu,bG,aW,bB,bk,aI,bA,bE,cB,aT,bf,bQ,cp,bd,bc,aR,bU,bP,bC,cz,cC,bK,cl,aA,bN,aD,cy,bW,aP,aU,bS,bT,cA,ba,cw,bY,bM,aF,bJ,bI,aH,ck,bq,bF,bD,bZ,aY,nq,gk,yS,aat,aag,decide_true,decide_false,Int.reduceBEq,Int.reduceBNe,Int.reduceLT,Int.reduceLE,Int.reduceGT,Int.reduceGE,Int.reduceNeg,ab2,bne_self_eq_false,ge_iff_le,gt_iff_lt,true_or,if_true,dZ,ho]
 | false=>
  cases hk:iV at' with
  | false=>simp only[aN,bH,aL,aK,cj,aV,aJ,aG,aZ,aO,bh,cq,aS,cx,bV,bo,bR,aM,cg,br,aQ,bO,bu,cn,cu,bG,aW,bB,bk,aI,bA,bE,cB,aT,bf,bQ,cp,bd,bc,aR,bU,bP,bC,cz,cC,bK,cl,aA,bN,aD,cy,bW,aP,aU,bS,bT,cA,ba,cw,bY,bM,aF,bJ,bI,aH,ck,bq,bF,bD,bZ,aY,nq,gk,yS,aat,aag,decide_true,decide_false,Int.reduceBEq,Int.reduceBNe,Int.reduceLT,Int.reduceLE,Int.reduceGT,Int.reduceGE,Int.reduceNeg,ab2,bne_self_eq_false,ge_iff_le,gt_iff_lt,or_true,if_true,dZ,ho,hk,abZ,if_false]
  | true=>
   simp only[aN,bH,aL,aK,cj,aV,aJ,aG,aZ,aO,bh,cq,aS,cx,bV,bo,bR,aM,cg,br,aQ,bO,bu,cn,cu,bG,aW,bB,bk,aI,bA,bE,cB,aT,bf,bQ,cp,bd,bc,aR,bU,bP,bC,cz,cC,bK,cl,aA,bN,aD,cy,bW,aP,aU,bS,bT,cA,ba,cw,bY,bM,aF,bJ,bI,aH,ck,bq,bF,bD,bZ,aY,nq,gk,yS,aat,aag,decide_true,decide_false,Int.reduceBEq,Int.reduceBNe,Int.reduceLT,Int.reduceLE,Int.reduceGT,Int.reduceGE,Int.reduceNeg,ab2,bne_self_eq_false,ge_iff_le,gt_iff_lt,or_self,if_false,dZ,ho,hk,abZ,agL]
   rcases h.find at' with⟨q1,q2,q3⟩ | ⟨a,x,b,q1,q2,q3,q4,q5,q6⟩<;>rcases h.ER at' with⟨r1,r2,r3⟩ | ⟨a',x',b',r1,r2,r3,r4,r5,r6⟩
   ·simp only[q1,q2,r2,aN,bH,aL,aK,cj,aV,aJ,aG,aZ,aO,bh,cq,aS,cx,bV,bo,bR,aM,cg,br,aQ,bO,bu,cn,cu,bG,aW,bB,bk,aI,bA,bE,cB,aT,bf,bQ,cp,bd,bc,aR,bU,bP,bC,cz,cC,bK,cl,aA,bN,aD,cy,bW,aP,aU,bS,bT,cA,ba,cw,bY,bM,aF,bJ,bI,aH,ck,bq,bF,bD,bZ,aY,nq,gk,yS,aat,aag,decide_true,decide_false,Int.reduceBEq,Int.reduceBNe,Int.reduceLT,Int.reduceLE,Int.reduceGT,Int.reduceGE,Int.reduceNeg,ab2,bne_self_eq_false,ge_iff_le,gt_iff_lt,Option.isNone_none,if_true]
   ·exact absurd r2 (q3 x' (by rw[r1];simp))
   ·exact absurd q2 (r3 x (by rw[q1];simp))
   ·simp only[q5,q6,r6,aN,bH,aL,aK,cj,aV,aJ,aG,aZ,aO,bh,cq,aS,cx,bV,bo,bR,aM,cg,br,aQ,bO,bu,cn,cu,bG,aW,bB,bk,aI,bA,bE,cB,aT,bf,bQ,cp,bd,bc,aR,bU,bP,bC,cz,cC,bK,cl,aA,bN,aD,cy,bW,aP,aU,bS,bT,cA,ba,cw,bY,bM,aF,bJ,bI,aH,ck,bq,bF,bD,bZ,aY,nq,gk,yS,aat,aag,decide_true,decide_false,Int.reduceBEq,Int.reduceBNe,Int.reduceLT,Int.reduceLE,Int.reduceGT,Int.reduceGE,Int.reduceNeg,ab2,bne_self_eq_false,ge_iff_le,gt_iff_lt,Option.isNone_some,if_false,abZ]
end
section
variable {H:Hp}{p:Nat}{m:SM}{L:Lay}
theorem Sk (h:St H p m L):∃ H',cK (.func (.func 130) [] []) [.ptr p 0] H=some (.tuple [],H')/\St H' p { m with off:=false } L/\iw p H L H' L:=by
 obtain⟨H',h1,h2,h3,h4⟩:=h.head.st (o:=2) (v := .bool false) (by simp) rfl
 have hk:=h.dA.out h3 fun j hj q=>by
  have dI:=h.nd
  unfold dL at dI
  rw[acB] at dI
  simp only[wc] at q
  exact dI.1 (q ▸ .tail _ (aaI _ hj))
 obtain⟨q1,q2⟩:=h.OO (off:=false) (eC:=m.eC) (dA:=L.dA) (kl:=m.dA) h2 h.ok.eC h3 (fun j hj => .inl (by simpa using hj)) hk (fun j hj => .inl hj) (vZ _)
 refine⟨H',aoX ?_,q1,q2⟩
 unfold acj
 simp only[h1,aN,bH,aL,aK,cj,aV,aJ,aG,aZ,aO,bh,cq,aS,cx,bV,bo,bR,aM,cg,br,aQ,bO,bu,cn,cu,bG,aW,bB,bk,aI,bA,bE,cB,aT,bf,bQ,cp,bd,bc,aR,bU,bP,bC,cz,cC,bK,cl,aA,bN,aD,cy,bW,aP,aU,bS,bT,cA,ba,cw,bY,bM,aF,bJ,bI,aH,ck,bq,bF,bD,bZ,aY,nq,gk,yS,aat,aag,decide_true,decide_false,Int.reduceBEq,Int.reduceBNe,Int.reduceLT,Int.reduceLE,Int.reduceGT,Int.reduceGE,Int.reduceNeg,ab2,bne_self_eq_false,ge_iff_le,gt_iff_lt]
theorem CX (h:St H p m L):cK (.func (.func 63) [] []) [.ptr p 0] H=some (.bool m.off,H):=by
 refine ae8 ?_
 unfold VI
 simp only[h.NS,aN,bH,aL,aK,cj,aV,aJ,aG,aZ,aO,bh,cq,aS,cx,bV,bo,bR,aM,cg,br,aQ,bO,bu,cn,cu,bG,aW,bB,bk,aI,bA,bE,cB,aT,bf,bQ,cp,bd,bc,aR,bU,bP,bC,cz,cC,bK,cl,aA,bN,aD,cy,bW,aP,aU,bS,bT,cA,ba,cw,bY,bM,aF,bJ,bI,aH,ck,bq,bF,bD,bZ,aY,nq,gk,yS,aat,aag,decide_true,decide_false,Int.reduceBEq,Int.reduceBNe,Int.reduceLT,Int.reduceLE,Int.reduceGT,Int.reduceGE,Int.reduceNeg,ab2,bne_self_eq_false,ge_iff_le,gt_iff_lt]
def B4 (m:SM)(at':List Nat):Nat:=match look m at' with | some f=>f.sure | none=>0
theorem afJ (h:St H p m L)(at':List Nat):cK (.func (.func 264) [] []) [.ptr p 0,.str at'] H=some (.int .i64 (B4 m at'),H):=by
 refine amy ?_
 unfold XV B4
 have h1:=h.zT
 have h2:=h.mU at'
 rcases h.ER at' with⟨r1,r2,r3⟩ | ⟨a,x,b,r1,r2,r3,r4,r5,r6⟩
 ·simp only[h1,h2,r1,r2,aN,bH,aL,aK,cj,aV,aJ,aG,aZ,aO,bh,cq,aS,cx,bV,bo,bR,aM,cg,br,aQ,bO,bu,cn,cu,bG,aW,bB,bk,aI,bA,bE,cB,aT,bf,bQ,cp,bd,bc,aR,bU,bP,bC,cz,cC,bK,cl,aA,bN,aD,cy,bW,aP,aU,bS,bT,cA,ba,cw,bY,bM,aF,bJ,bI,aH,ck,bq,bF,bD,bZ,aY,nq,gk,yS,aat,aag,decide_true,decide_false,Int.reduceBEq,Int.reduceBNe,Int.reduceLT,Int.reduceLE,Int.reduceGT,Int.reduceGE,Int.reduceNeg,ab2,bne_self_eq_false,ge_iff_le,gt_iff_lt];rfl
 ·have h3:=(h.file x (by rw[r1];simp)).1.ld (o:=1) rfl
  simp only[h1,h2,r5,r6,h3,aN,bH,aL,aK,cj,aV,aJ,aG,aZ,aO,bh,cq,aS,cx,bV,bo,bR,aM,cg,br,aQ,bO,bu,cn,cu,bG,aW,bB,bk,aI,bA,bE,cB,aT,bf,bQ,cp,bd,bc,aR,bU,bP,bC,cz,cC,bK,cl,aA,bN,aD,cy,bW,aP,aU,bS,bT,cA,ba,cw,bY,bM,aF,bJ,bI,aH,ck,bq,bF,bD,bZ,aY,nq,gk,yS,aat,aag,decide_true,decide_false,Int.reduceBEq,Int.reduceBNe,Int.reduceLT,Int.reduceLE,Int.reduceGT,Int.reduceGE,Int.reduceNeg,ab2,bne_self_eq_false,ge_iff_le,gt_iff_lt]
noncomputable def G1 (m:SM)(at':List Nat):List Nat:=if dZ m at'=0 then (match look m at' with | some f=>f.b | none=>[]) else []
theorem ZC (m:SM)(at':List Nat):(dZ m at'=11/\m.off=true)\/(dZ m at'=1/\m.off=false/\iV at'=false)\/(dZ m at'=4/\m.off=false/\iV at'=true/\look m at'=none)\/
  (dZ m at'=0/\m.off=false/\iV at'=true/\∃ f,look m at'=some f):=by
 unfold dZ
 cases ho:m.off with
 | true=>exact .inl ⟨by simp,rfl⟩
 | false=>
  cases hk:iV at' with
  | false=>exact .inr (.inl ⟨by simp,rfl,rfl⟩)
  | true=>
   cases hl:look m at' with
   | none=>exact .inr (.inr (.inl ⟨by simp,rfl,rfl,rfl⟩))
   | some f=>exact .inr (.inr (.inr ⟨by simp,rfl,rfl,f,rfl⟩))
theorem St.Fs (h:St H p m L){at':List Nat}(he:dZ m at'=0):m.off=false/\iV at'=true/\∃ a x b,L.cs=a++x::b/\x.f.nm=at'/\(∀ y∈a,y.f.nm≠at')/\(∀ y∈b,y.f.nm≠at')/\fp L at' = .ptr x.id 0/\look m at'=some x.f/\x∈L.cs/\x.f∈m.fs:=by
 rcases ZC m at' with⟨q,_⟩ | ⟨q,_⟩ | ⟨q,_⟩ | ⟨_,q1,q2,f,q3⟩
 ·rw[he] at q;cases q
 ·rw[he] at q;cases q
 ·rw[he] at q;cases q
 ·rcases h.ER at' with⟨r1,r2,r3⟩ | ⟨a,x,b,r1,r2,r3,r4,r5,r6⟩
  ·rw[r2] at q3;cases q3
  ·have hx:x∈L.cs:=by rw[r1];simp
   exact⟨q1,q2,a,x,b,r1,r2,r3,r4,r5,r6,hx,by rw[h.fs];exact adj.2 ⟨x,hx,rfl⟩⟩
theorem M9 {f:Fl}{fs:List Fl}(hf:f∈fs):f.b.length<=dO fs:=by
 induction fs with
 | nil=>cases hf
 | cons g fs ih=>
  have e:dO (g::fs)=g.b.length+dO fs:=by unfold dO;rw[ab8,ah6]
  rw[e]
  rcases yL.1 hf with rfl | hf
  ·omega
  ·have:=ih hf;omega
theorem Xj (h:St H p m L)(at':List Nat):∃ x' H',cK (.func (.func 71) [] []) [.ptr p 0,.str at'] H=some (.tuple [x',.int .i64 (dZ m at')],H')/\
  Rw H' 1 x' (bs (G1 m at'))/\Out [] H H'/\∀ j∈aa x',H.next<=j:=by
 have h0:=AK h at'
 by_cases he:dZ m at'=0
 ·obtain⟨q1,q2,a,x,b,r1,r2,r3,r4,r5,r6,hx,hf⟩:=h.Fs he
  obtain⟨rW,uC⟩:=h.file x hx
  have hl:=rW.ld (o:=0) rfl
  have hb:(bs x.f.b).length<=16777216:=by
   rw[gO]
   have:=M9 hf;have:=h.ok.sum;have:=h.ok.room;omega
  obtain⟨x',H',c1,c2,c3,c4⟩:=aqE uC.rw (zV _) hb
  refine⟨x',H',WS ?_,?_,c3,c4⟩
  ·unfold MV
   simp only[h0,he,q1,q2,r5,hl,c1,abZ,agL,or_self,if_false,aN,bH,aL,aK,cj,aV,aJ,aG,aZ,aO,bh,cq,aS,cx,bV,bo,bR,aM,cg,br,aQ,bO,bu,cn,cu,bG,aW,bB,bk,aI,bA,bE,cB,aT,bf,bQ,cp,bd,bc,aR,bU,bP,bC,cz,cC,bK,cl,aA,bN,aD,cy,bW,aP,aU,bS,bT,cA,ba,cw,bY,bM,aF,bJ,bI,aH,ck,bq,bF,bD,bZ,aY,nq,gk,yS,aat,aag,decide_true,decide_false,Int.reduceBEq,Int.reduceBNe,Int.reduceLT,Int.reduceLE,Int.reduceGT,Int.reduceGE,Int.reduceNeg,ab2,bne_self_eq_false,ge_iff_le,gt_iff_lt]
  ·unfold G1
   rw[if_pos he,r6];exact c2.rw
 ·refine⟨.ae,H,WS ?_,?_,Out.refl _ _,fun j hj=>by cases hj⟩
  ·unfold MV
   have:(dZ m at' != 0)=true:=by simpa using he
   simp only[h0,this,aN,bH,aL,aK,cj,aV,aJ,aG,aZ,aO,bh,cq,aS,cx,bV,bo,bR,aM,cg,br,aQ,bO,bu,cn,cu,bG,aW,bB,bk,aI,bA,bE,cB,aT,bf,bQ,cp,bd,bc,aR,bU,bP,bC,cz,cC,bK,cl,aA,bN,aD,cy,bW,aP,aU,bS,bT,cA,ba,cw,bY,bM,aF,bJ,bI,aH,ck,bq,bF,bD,bZ,aY,nq,gk,yS,aat,aag,decide_true,decide_false,Int.reduceBEq,Int.reduceBNe,Int.reduceLT,Int.reduceLE,Int.reduceGT,Int.reduceGE,Int.reduceNeg,ab2,bne_self_eq_false,ge_iff_le,gt_iff_lt]
  ·unfold G1
   rw[if_neg he];exact .nil
end
section
variable {H:Hp}{p:Nat}{m:SM}{L:Lay}
theorem St.Mu (h:St H p m L){x:FC}(hx:x∈L.cs):x.id∉aa x.sl:=by
 have dI:=h.nd
 unfold dL at dI
 rw[acB,acB,acK] at dI
 obtain⟨a,b,hL⟩:=List.append_of_mem hx
 have h1:=dI.2.2.2.1
 rw[hL,afa,af2,acK,acK] at h1
 have h2:(x.id::aa x.sl).Nodup:=h1.2.1.1
 exact (acB.1 h2).1
theorem St.TA (h:St H p m L){x:FC}(hx:x∈L.cs){H0:Hp}{sl:AV}{b:List Nat}(ho:Out (aa x.sl) H H0)(hw:Ow H0 5 1 sl (bs b))(hr:∀ j∈aa sl,j∈aa x.sl\/H.next<=j) :
  ∃ H1,st 1 (.ptr x.id 0) sl H0=some H1/\C0 H1 x.id [sl,.int .i64 x.f.sure]/\Out x.ids H H1/\Ow H1 5 1 sl (bs b):=by
 have hid:=h.Mu hx
 have hc:=(h.file x hx).1.out ho hid
 obtain⟨H1,h1,h2,h3,h4⟩:=hc.st (o:=0) (v:=sl) (by simp) (aev hw.rw)
 have ah:=(h.file x hx).1.lt
 refine⟨H1,h1,h2,(ho.mono fun j hj=>List.mem_cons_of_mem _ hj).trans (h3.mono fun j hj=>by rw[wc.1 hj];exact .head _),hw.out h3 fun j hj q => ?_⟩
 rw[wc.1 q] at hj
 rcases hr _ hj with q | q
 ·exact hid q
 ·omega
theorem Sa {i:Nat}{sl:AV}{s t:Int}{b:List Nat}{H1:Hp}(hc:C0 H1 i [sl,.int .i64 s])(hw:Ow H1 5 1 sl (bs b))(hi:i∉aa sl) :
  ∃ H2,st 1 (.ptr i 1) (.int .i64 t) H1=some H2/\C0 H2 i [sl,.int .i64 t]/\Out [i] H1 H2/\Ow H2 5 1 sl (bs b):=by
 obtain⟨H2,h1,h2,h3,h4⟩:=hc.st (o:=1) (v := .int .i64 t) (by simp) rfl
 exact⟨H2,h1,h2,h3,hw.out h3 fun j hj q=>hi (by rw[wc.1 q] at hj;exact hj)⟩
theorem wD (a b:List Fl):dO (a++b)=dO a+dO b:=by unfold dO;rw[acJ,List.sum_append]
theorem ub (f:Fl)(b:List Fl):dO (f::b)=f.b.length+dO b:=by unfold dO;rw[ab8,ah6]
theorem St.ED (h:St H p m L){a b:List FC}{x:FC}(hL:L.cs=a++x::b)(ha:∀ y∈a,y.f.nm≠x.f.nm)(hb:∀ y∈b,y.f.nm≠x.f.nm)(f:Fl):dO (ea x.f.nm f m.fs)+x.f.b.length=dO m.fs+f.b.length:=by
 rw[h.fs,hL,FA rfl ha hb,acJ,ab8,wD,wD,ub,ub]
 omega
def tl (L:Lay)(j:Nat):Prop:=∃ y∈L.cs,j∈y.ids
def ajC (f:Fl)(n:Nat):Fl:=⟨f.nm,f.b.take n,n⟩
theorem aqP (l:List Nat)(n:Nat):bs (l.take n)=(bs l).take n:=by unfold bs;rw[List.map_take]
theorem St.cut (h:St H p m L){a b:List FC}{x:FC}(hL:L.cs=a++x::b)(ha:∀ y∈a,y.f.nm≠x.f.nm)(hb:∀ y∈b,y.f.nm≠x.f.nm){n s:Nat}(hn:n<=x.f.b.length)(hs:s<=n) :
  ∃ sl H1 H2 L',fT 1 x.sl none (some (.int .i64 n)) none=some sl/\st 1 (.ptr x.id 0) sl H=some H1/\ld (.ptr x.id 0) H1=some sl/\ld (.ptr x.id 1) H1=some (.int .i64 x.f.sure)/\cJ sl=some (.int .i64 n)/\st 1 (.ptr x.id 1) (.int .i64 s) H1=some H2/\
   St H2 p { m with fs:=ea x.f.nm ⟨x.f.nm,x.f.b.take n,s⟩ m.fs } L'/\iw p H L H2 L'/\L'.dA=L.dA/\L'.gx=L.gx/\(∀ j,tl L' j->tl L j\/H.next<=j)/\Out x.ids H H2:=by
 have hx:x∈L.cs:=by rw[hL];simp
 obtain⟨rW,uC⟩:=h.file x hx
 have hlen:(bs x.f.b).length=x.f.b.length*1:=by rw[gO,adQ]
 obtain⟨sl,s1,s2,s3⟩:=Mv uC hlen (by omega) (a:=0) (b:=n) (lo:=none) (hi:=some (.int .i64 n)) (adf _) hn (Bd.no 0) (Bd.yes _ _ _)
 rw[afB,afO,ae9,adQ,<-aqP] at s2
 obtain⟨H1,p1,p2,p3,p4⟩:=h.TA hx (Out.refl _ _) s2 fun j hj => .inl (s3 j hj)
 have hid:x.id∉aa sl:=fun q=>h.Mu hx (s3 _ q)
 obtain⟨H2,r1,r2,r3,r4⟩:=Sa (t:=(s:Int)) p2 p4 hid
 have yr:Out x.ids H H2:=p3.trans (r3.mono fun j hj=>by rw[wc.1 hj];exact .head _)
 have Ge:(x.f.b.take n).length=n:=by rw[afi];omega
 have oT:=h.ED hL ha hb ⟨x.f.nm,x.f.b.take n,s⟩
 have CP:x.f∈m.fs:=by rw[h.fs];exact adj.2 ⟨x,hx,rfl⟩
 have vN:=h.ok.sum
 obtain⟨q1,q2⟩:=h.Ic (f:=⟨x.f.nm,x.f.b.take n,s⟩) hL ha hb rfl yr (fun j hj=>hj) r2 r4 (fun j hj => .inl (s3 j hj)) (vZ _) (by simp only;omega) (fun c hc=>h.ok.byte x.f CP c (List.mem_of_mem_take hc))
  (by simp only at oT ⊢;omega)
 refine⟨sl,H1,H2,_,s1,p1,p2.ld rfl,p2.ld (o:=1) rfl,?_,r1,q1,q2,rfl,rfl,fun j hj => ?_,yr⟩
 ·have:=s2.rw.gV
  rw[gO,Ge] at this
  exact this
 ·obtain⟨y,hy,hj⟩:=hj
  rcases aal.1 hy with hy | hy
  ·exact .inl ⟨y,by rw[hL];exact aaI _ hy,hj⟩
  ·rcases yL.1 hy with rfl | hy
   ·refine .inl ⟨x,hx,?_⟩
    rcases yL.1 hj with rfl | hj
    ·exact .head _
    ·exact .tail _ (s3 j hj)
   ·exact .inl ⟨y,by rw[hL];exact yX _ (.tail _ hy),hj⟩
end
def kn:List Int->Int
 | []=>0
 | k::_=>k
def zX:List (List Nat)->List Int->List Fl->List Fl
 | [],_,fs=>fs
 | n::ns,dA,fs=>match fs.find? (fun f=>f.nm==n) with
  | none=>fs
  | some f=>if f.b.length=f.sure then zX ns dA fs else zX ns dA.tail (ea n (ajC f (f.sure+min (kn dA).toNat (f.b.length-f.sure))) fs)
noncomputable def JP (m:SM)(dA:List Int):SM:=if m.off=true then m else { m with off:=true,eC:=0,fs:=zX (names m) dA m.fs }
theorem ao1 {fs:List Fl}{n k:List Nat}{g:Fl}(hg:g.nm=n)(h:(fs.find? (fun f=>f.nm==k)).isSome=true):((ea n g fs).find? (fun f=>f.nm==k)).isSome=true:=by
 rw[List.find?_isSome] at h ⊢
 obtain⟨f,hf,he⟩:=h
 unfold ea
 refine⟨if f.nm=n then g else f,adj.2 ⟨f,hf,rfl⟩,?_⟩
 split
 ·rename_i q;rw[hg,<-q];exact he
 ·exact he
theorem JB (j7:Am.K.Fn 1)(p:Nat)(x:AV)(all:List (List Nat))(gC:all.length<=1000000):∀ (rest:List (List Nat)) (i:Nat) (H:Hp) (m:SM) (L:Lay) (kv:AV) (kl:List Int),St H p m L->Rw H 1 x (strs all)->(∀ j∈aa x,¬ tl L j)->
  i+rest.length=all.length->all.drop i=rest->Rw H 1 kv (ints kl)->(∀ j∈aa kv,¬ tl L j)->(∀ n∈rest,(look m n).isSome=true)->
  ∃ H' L',EO JN GO cK j7 (.ptr p 0) kv x (.int .i64 all.length) (.int .i64 i) H=j7 (.ptr p 0) H'/\St H' p { m with fs:=zX rest kl m.fs } L'/\iw p H L H' L'/\L'.dA=L.dA
 | [],i,H,m,L,kv,kl,h,hx,rX,hi,hd,hk,cU,hl=>by
  refine⟨H,L,?_,h,iw.refl _ _ _,rfl⟩
  rw[aaq]
  have:decide ((i:Int)<(all.length:Int))=false:=by simp only[abY] at hi;simp;omega
  simp only[DH,this,aN,bH,aL,aK,cj,aV,aJ,aG,aZ,aO,bh,cq,aS,cx,bV,bo,bR,aM,cg,br,aQ,bO,bu,cn,cu,bG,aW,bB,bk,aI,bA,bE,cB,aT,bf,bQ,cp,bd,bc,aR,bU,bP,bC,cz,cC,bK,cl,aA,bN,aD,cy,bW,aP,aU,bS,bT,cA,ba,cw,bY,bM,aF,bJ,bI,aH,ck,bq,bF,bD,bZ,aY,nq,gk,yS,aat,aag,decide_true,decide_false,Int.reduceBEq,Int.reduceBNe,Int.reduceLT,Int.reduceLE,Int.reduceGT,Int.reduceGE,Int.reduceNeg,ab2,bne_self_eq_false,ge_iff_le,gt_iff_lt]
 | n::ns,i,H,m,L,kv,kl,h,hx,rX,hi,hd,hk,cU,hl=>by
  simp only[abn] at hi
  have ah:decide ((i:Int)<(all.length:Int))=true:=by simp;omega
  have hn:all[i]? = some n:=by
   have:=congrArg (fun l=>l[0]?) hd
   simpa using this
  obtain⟨q,vi,qC⟩:=hx.lA (i:=i) (v := .str n) (by unfold strs;rw[adh,hn];rfl) .i64
  have gP:all.drop (i+1)=ns:=by
   have:=congrArg (List.drop 1) hd
   rw[aib] at this
   simpa using this
  have hw:IntKind.wrap .i64 ((i:Int)+1)=((i+1:Nat):Int):=by rw[wrap_i64 (by omega) (by omega)];omega
  have h1:=h.zT
  have h2:=h.mU n
  have Bq:=hl n (.head _)
  rcases h.ER n with⟨r1,r2,r3⟩ | ⟨a,fc,b,r1,r2,r3,r4,r5,r6⟩
  ·rw[r2] at Bq;cases Bq
  have RJ:fc∈L.cs:=by rw[r1];simp
  have CP:fc.f∈m.fs:=by rw[h.fs];exact adj.2 ⟨fc,RJ,rfl⟩
  obtain⟨rW,uC⟩:=h.file fc RJ
  have R8:=rW.ld (o:=0) rfl
  have SX:=rW.ld (o:=1) rfl
  have hlen:=uC.rw.gV
  rw[gO] at hlen
  have vY:=h.ok.sure _ CP
  have tu:fc.f.b.length<=16777216:=by
   have:=M9 CP;have:=h.ok.sum;have:=h.ok.room;omega
  have Ie:IntKind.wrap .i64 ((fc.f.b.length:Int)-(fc.f.sure:Int))=((fc.f.b.length-fc.f.sure:Nat):Int):=by rw[wrap_i64 (by omega) (by omega)];omega
  rw[aaq]
  by_cases heq:fc.f.b.length=fc.f.sure
  ·have hz:(((fc.f.b.length-fc.f.sure:Nat):Int)==0)=true:=by rw[heq];simp
   obtain⟨H',L',e1,e2,e3,e4⟩:=JB j7 p x all gC ns (i+1) H m L kv kl h hx rX (by omega) gP hk cU fun k hk=>hl k (.tail _ hk)
   refine⟨H',L',?_,?_,e3,e4⟩
   ·simp only[DH,ah,vi,qC,h1,h2,r5,R8,SX,hlen,Ie,hz,hw,e1,aN,bH,aL,aK,cj,aV,aJ,aG,aZ,aO,bh,cq,aS,cx,bV,bo,bR,aM,cg,br,aQ,bO,bu,cn,cu,bG,aW,bB,bk,aI,bA,bE,cB,aT,bf,bQ,cp,bd,bc,aR,bU,bP,bC,cz,cC,bK,cl,aA,bN,aD,cy,bW,aP,aU,bS,bT,cA,ba,cw,bY,bM,aF,bJ,bI,aH,ck,bq,bF,bD,bZ,aY,nq,gk,yS,aat,aag,decide_true,decide_false,Int.reduceBEq,Int.reduceBNe,Int.reduceLT,Int.reduceLE,Int.reduceGT,Int.reduceGE,Int.reduceNeg,ab2,bne_self_eq_false,ge_iff_le,gt_iff_lt]
   ·have:zX (n::ns) kl m.fs=zX ns kl m.fs:=by
     show (match look m n with | none=>m.fs | some f=>_)=_
     rw[r6];simp only;rw[if_pos heq]
    rw[this];exact e2
  ·have hz:(((fc.f.b.length-fc.f.sure:Nat):Int)==0)=false:=by simp;omega
   obtain⟨sl,H1,H2,L2,c1,c2,c3,c3',c4,c5,c6,c7,c8,c9,c10,Rr⟩:=h.cut r1 (by rw[r2];exact r3) (by rw[r2];exact r4) (n:=fc.f.sure+min (kn kl).toNat (fc.f.b.length-fc.f.sure)) (s:=fc.f.sure+min (kn kl).toNat (fc.f.b.length-fc.f.sure)) (by omega) (aar _)
   have hwa:IntKind.wrap .i64 ((fc.f.sure:Int)+((min (kn kl).toNat (fc.f.b.length-fc.f.sure):Nat):Int))=((fc.f.sure+min (kn kl).toNat (fc.f.b.length-fc.f.sure):Nat):Int):=by rw[wrap_i64 (by omega) (by omega)];omega
   have yr:∀ y:AV,(∀ j∈aa y,¬ tl L j)->∀ j∈aa y,j∉fc.ids:=fun y hy j hj q=>hy j hj ⟨fc,RJ,q⟩
   have qm:=hx.out Rr (yr x rX)
   have wj:∀ (y:AV) (l:List AV),Rw H 1 y l->(∀ j∈aa y,¬ tl L j)->∀ j∈aa y,¬ tl L2 j:=fun y l hy Iv j hj q=>by
    rcases c10 j q with q | q
    ·exact Iv j hj q
    ·have:=hy.lt j hj;omega
   have lb:∀ k∈ns,(look { m with fs:=ea fc.f.nm ⟨fc.f.nm,fc.f.b.take (fc.f.sure+min (kn kl).toNat (fc.f.b.length-fc.f.sure)),fc.f.sure+min (kn kl).toNat (fc.f.b.length-fc.f.sure)⟩ m.fs } k).isSome=true:=
    fun k hk=>ao1 rfl (hl k (.tail _ hk))
   have gm:zX (n::ns) kl m.fs=zX ns kl.tail (ea fc.f.nm ⟨fc.f.nm,fc.f.b.take (fc.f.sure+min (kn kl).toNat (fc.f.b.length-fc.f.sure)),fc.f.sure+min (kn kl).toNat (fc.f.b.length-fc.f.sure)⟩ m.fs):=by
    show (match look m n with | none=>m.fs | some f=>_)=_
    rw[r6];simp only;rw[if_neg heq,<-r2];rfl
   cases kl with
   | nil=>
    have xt:cJ kv=some (.int .i64 0):=by
     have:=hk.gV
     exact this
    obtain⟨H',L',e1,e2,e3,e4⟩:=JB j7 p x all gC ns (i+1) H2 _ L2 kv [] c6 qm (wj x _ hx rX) (by omega) gP (hk.out Rr (yr kv cU)) (wj kv _ hk cU) lb
    refine⟨H',L',?_,by rw[gm];exact e2,c7.trans e3,e4.trans c8⟩
    have adL:IntKind.wrap .i64 ((fc.f.sure:Int)+0)=((fc.f.sure+min (kn []).toNat (fc.f.b.length-fc.f.sure):Nat):Int):=by rw[wrap_i64 (by omega) (by omega)];simp[kn]
    have FW:decide ((0:Int)<0)=false:=rfl
    simp only[DH,ah,vi,qC,h1,h2,r5,R8,SX,hlen,Ie,hz,hw,xt,FW,adL,c1,c2,c3,c4,c5,e1,aN,bH,aL,aK,cj,aV,aJ,aG,aZ,aO,bh,cq,aS,cx,bV,bo,bR,aM,cg,br,aQ,bO,bu,cn,cu,bG,aW,bB,bk,aI,bA,bE,cB,aT,bf,bQ,cp,bd,bc,aR,bU,bP,bC,cz,cC,bK,cl,aA,bN,aD,cy,bW,aP,aU,bS,bT,cA,ba,cw,bY,bM,aF,bJ,bI,aH,ck,bq,bF,bD,bZ,aY,nq,gk,yS,aat,aag,decide_true,decide_false,Int.reduceBEq,Int.reduceBNe,Int.reduceLT,Int.reduceLE,Int.reduceGT,Int.reduceGE,Int.reduceNeg,ab2,bne_self_eq_false,ge_iff_le,gt_iff_lt]
   | cons k ks=>
    have ql:cJ kv=some (.int .i64 ((ks.length+1:Nat):Int)):=by
     have:=hk.gV
     unfold ints at this
     rw[adg] at this
     exact this
    have AH:decide ((0:Int)<((ks.length+1:Nat):Int))=true:=decide_eq_true (by omega)
    obtain⟨qk,jm,hk3⟩:=hk.lA (i:=0) (v := .int .i64 k) rfl .i64
    have zN:(ints (k::ks)).length=(ks.length+1)*1:=by unfold ints;simp
    obtain⟨F6,k1,k2,k3⟩:=Fg hk zN (by omega) (a:=1) (b:=ks.length+1) (lo:=some (.int .i64 1)) (hi:=none) (by omega) (aar _) (Bd.yes .i64 1 0) (Bd.no _)
    have abo:Rw H 1 F6 (ints ks):=by
     have:((ints (k::ks)).drop (1*1)).take ((ks.length+1-1)*1)=ints ks:=by
      unfold ints
      simp only[ab8,adQ,List.drop_succ_cons,afO,aio]
      rw[aea (by simp)]
     rw[this] at k2;exact k2
    have abJ:∀ j∈aa F6,¬ tl L j:=fun j hj=>cU j (k3 j hj)
    obtain⟨H',L',e1,e2,e3,e4⟩:=JB j7 p x all gC ns (i+1) H2 _ L2 F6 ks c6 qm (wj x _ hx rX) (by omega) gP (abo.out Rr (yr F6 abJ)) (wj F6 _ abo abJ) lb
    refine⟨H',L',?_,by rw[gm];exact e2,c7.trans e3,e4.trans c8⟩
    have G3:(if ((if k<0 then (0:Int) else k))>((fc.f.b.length-fc.f.sure:Nat):Int) then ((fc.f.b.length-fc.f.sure:Nat):Int) else (if k<0 then (0:Int) else k))=((min (kn (k::ks)).toNat (fc.f.b.length-fc.f.sure):Nat):Int):=by
     simp only[kn]
     split<;>split<;>omega
    simp only[gt_iff_lt] at G3
    have yU:ia 1 kv (.int .i64 0)=some qk:=jm
    simp only[DH,ah,vi,qC,h1,h2,r5,R8,SX,hlen,Ie,hz,hw,ql,AH,yU,hk3,JL,Ga,G3,k1,hwa,c1,c2,c3,c4,c5,e1,aN,bH,aL,aK,cj,aV,aJ,aG,aZ,aO,bh,cq,aS,cx,bV,bo,bR,aM,cg,br,aQ,bO,bu,cn,cu,bG,aW,bB,bk,aI,bA,bE,cB,aT,bf,bQ,cp,bd,bc,aR,bU,bP,bC,cz,cC,bK,cl,aA,bN,aD,cy,bW,aP,aU,bS,bT,cA,ba,cw,bY,bM,aF,bJ,bI,aH,ck,bq,bF,bD,bZ,aY,nq,gk,yS,aat,aag,decide_true,decide_false,Int.reduceBEq,Int.reduceBNe,Int.reduceLT,Int.reduceLE,Int.reduceGT,Int.reduceGE,Int.reduceNeg,ab2,bne_self_eq_false,ge_iff_le,gt_iff_lt]
section
variable {H:Hp}{p:Nat}{m:SM}{L:Lay}
theorem St.arG (h:St H p m L):¬ tl L p/\¬ tl L L.gx/\∀ j∈aa L.dA,¬ tl L j:=by
 have dI:=h.nd
 unfold dL at dI
 rw[acB,acB,acK] at dI
 obtain⟨n1,n2,n3,n4,n5⟩:=dI
 refine⟨fun⟨y,hy,hj⟩=>n1 (.tail _ (yX _ (adI.2 ⟨y,hy,hj⟩))),fun⟨y,hy,hj⟩=>n2 (yX _ (adI.2 ⟨y,hy,hj⟩)),fun j hj ⟨y,hy,hk⟩=>n5 _ hj _ (adI.2 ⟨y,hy,hk⟩) rfl⟩
theorem St.aaA (h:St H p m L):p∉aa L.dA:=by
 have dI:=h.nd
 unfold dL at dI
 rw[acB] at dI
 exact fun q=>dI.1 (.tail _ (aaI _ q))
theorem apZ (h:St H p m L):∀ n∈names m,(look m n).isSome=true:=by
 intro n hn
 unfold names at hn
 rw[aaN] at hn
 obtain⟨f,hf,rfl⟩:=adj.1 hn
 unfold look
 rw[List.find?_isSome]
 exact⟨f,hf,by simp⟩
theorem aoC (h:St H p m L){kv:AV}{kl:List Int}(hk:Rw H 1 kv (ints kl))(cU:∀ j∈aa kv,¬ tl L j) :
  ∃ H' L',cK (.func (.func 91) [] []) [.ptr p 0,kv] H=some (.tuple [],H')/\St H' p (JP m kl) L'/\iw p H L H' L':=by
 have h2:=h.NS
 cases ho:m.off with
 | true=>
  rw[ho] at h2
  refine⟨H,L,Ww ?_,by unfold JP;rw[if_pos ho];exact h,iw.refl _ _ _⟩
  unfold IX
  simp only[h2,aN,bH,aL,aK,cj,aV,aJ,aG,aZ,aO,bh,cq,aS,cx,bV,bo,bR,aM,cg,br,aQ,bO,bu,cn,cu,bG,aW,bB,bk,aI,bA,bE,cB,aT,bf,bQ,cp,bd,bc,aR,bU,bP,bC,cz,cC,bK,cl,aA,bN,aD,cy,bW,aP,aU,bS,bT,cA,ba,cw,bY,bM,aF,bJ,bI,aH,ck,bq,bF,bD,bZ,aY,nq,gk,yS,aat,aag,decide_true,decide_false,Int.reduceBEq,Int.reduceBNe,Int.reduceLT,Int.reduceLE,Int.reduceGT,Int.reduceGE,Int.reduceNeg,ab2,bne_self_eq_false,ge_iff_le,gt_iff_lt]
 | false=>
  rw[ho] at h2
  obtain⟨x,H1,n1,n2,n3,n4,n5⟩:=Yv h
  have h1:=h.out n3 fun j _ q=>by cases q
  have ah:=h.lt
  have kR:(names m).length<=1000000:=by
   unfold names
   rw[R4,adg]
   have:=h.ok.many;omega
  obtain⟨H2,L2,e1,e2,e3,e4⟩:=JB (fun qB BB=>
    B1 (ag qB) fun vM=>
    B1 (fa 2 vM) fun wu=>
    B1 (st 1 wu (.bool true) BB) fun qM=>
    B1 (ag qB) fun rU=>
    B1 (fa 3 rU) fun v124=>
    B1 (st 1 v124 (.int .i64 0) qM) fun Hi=>
    some (.tuple [],Hi)) p x (names m) kR (names m) 0 H1 m L kv kl h1 n2 (fun j hj ⟨y,hy,q⟩=>by
     have:=n4 j hj
     have:=ah j (St.lG hy q);omega) (by simp) rfl (hk.out n3 fun j _ q=>by cases q) cU (apZ h)
  obtain⟨H3,a1,a2,a3,a4⟩:=e2.head.st (o:=2) (v := .bool true) (by simp) rfl
  obtain⟨H4,b1,b2,b3,b4⟩:=a2.st (o:=3) (v := .int .i64 ((0:Nat):Int)) (by simp) rfl
  have vl:Out [p] H2 H4:=a3.trans b3
  have jm:=e2.dA.out vl fun j hj q=>e2.aaA (by rw[wc.1 q] at hj;exact hj)
  obtain⟨q1,q2⟩:=e2.OO (off:=true) (eC:=0) (dA:=L2.dA) (kl:=m.dA) b2 (by omega) vl (fun j hj => .inl (by simpa using hj)) jm (fun j hj => .inl hj) (vZ _)
  have hgo:iw p H L H1 L:=⟨n3.mono (fun j hj=>by cases hj),fun j hj => .inl hj⟩
  refine⟨H4,L2,Ww ?_,?_,(hgo.trans e3).trans q2⟩
  ·unfold IX
   have b1':st 1 (.ptr p 3) (.int .i64 0) H3=some H4:=b1
   have Hl:EO JN GO cK (fun qB BB=>
    B1 (ag qB) fun vM=>
    B1 (fa 2 vM) fun wu=>
    B1 (st 1 wu (.bool true) BB) fun qM=>
    B1 (ag qB) fun rU=>
    B1 (fa 3 rU) fun v124=>
    B1 (st 1 v124 (.int .i64 0) qM) fun Hi=>
    some (.tuple [],Hi)) (.ptr p 0) kv x (.int .i64 (names m).length) (.int .i64 0) H1=some (.tuple [],H4):=by
    refine e1.trans ?_
    simp only[a1,b1',aN,bH,aL,aK,cj,aV,aJ,aG,aZ,aO,bh,cq,aS,cx,bV,bo,bR,aM,cg,br,aQ,bO,bu,cn,cu,bG,aW,bB,bk,aI,bA,bE,cB,aT,bf,bQ,cp,bd,bc,aR,bU,bP,bC,cz,cC,bK,cl,aA,bN,aD,cy,bW,aP,aU,bS,bT,cA,ba,cw,bY,bM,aF,bJ,bI,aH,ck,bq,bF,bD,bZ,aY,nq,gk,yS,aat,aag,decide_true,decide_false,Int.reduceBEq,Int.reduceBNe,Int.reduceLT,Int.reduceLE,Int.reduceGT,Int.reduceGE,Int.reduceNeg,ab2,bne_self_eq_false,ge_iff_le,gt_iff_lt]
   simp only[h2,n1,n5,aN,bH,aL,aK,cj,aV,aJ,aG,aZ,aO,bh,cq,aS,cx,bV,bo,bR,aM,cg,br,aQ,bO,bu,cn,cu,bG,aW,bB,bk,aI,bA,bE,cB,aT,bf,bQ,cp,bd,bc,aR,bU,bP,bC,cz,cC,bK,cl,aA,bN,aD,cy,bW,aP,aU,bS,bT,cA,ba,cw,bY,bM,aF,bJ,bI,aH,ck,bq,bF,bD,bZ,aY,nq,gk,yS,aat,aag,decide_true,decide_false,Int.reduceBEq,Int.reduceBNe,Int.reduceLT,Int.reduceLE,Int.reduceGT,Int.reduceGE,Int.reduceNeg,ab2,bne_self_eq_false,ge_iff_le,gt_iff_lt]
   exact Hl
  ·unfold JP
   rw[if_neg (by rw[ho];simp)]
   exact q1
def lQ (m:SM):Bool:=m.eC != 1
noncomputable def gy (m:SM):SM:=if m.eC=0 then m else if m.eC=1 then JP { m with eC:=0 } m.dA else { m with eC:=m.eC-1 }
theorem Ka (h:St H p m L):∃ H' L',cK (.func (.func 122) [] []) [.ptr p 0] H=some (.bool (lQ m),H')/\St H' p (gy m) L'/\iw p H L H' L'/\(lQ m=true->L'=L/\Out [p] H H'/\(gy m).fs=m.fs/\(gy m).room=m.room/\(gy m).off=m.off/\(gy m).dA=m.dA):=by
 have h3:=h.ape
 by_cases h0:m.eC=0
 ·have hB:lQ m=true:=by simp[lQ,h0]
  refine⟨H,L,Tp ?_,by unfold gy;rw[if_pos h0];exact h,iw.refl _ _ _,fun _=>⟨rfl,Out.refl _ _,by unfold gy;rw[if_pos h0],by unfold gy;rw[if_pos h0],by unfold gy;rw[if_pos h0],by unfold gy;rw[if_pos h0]⟩⟩
  unfold K6
  have:((m.eC:Int)==0)=true:=by rw[h0];rfl
  simp only[h3,this,hB,aN,bH,aL,aK,cj,aV,aJ,aG,aZ,aO,bh,cq,aS,cx,bV,bo,bR,aM,cg,br,aQ,bO,bu,cn,cu,bG,aW,bB,bk,aI,bA,bE,cB,aT,bf,bQ,cp,bd,bc,aR,bU,bP,bC,cz,cC,bK,cl,aA,bN,aD,cy,bW,aP,aU,bS,bT,cA,ba,cw,bY,bM,aF,bJ,bI,aH,ck,bq,bF,bD,bZ,aY,nq,gk,yS,aat,aag,decide_true,decide_false,Int.reduceBEq,Int.reduceBNe,Int.reduceLT,Int.reduceLE,Int.reduceGT,Int.reduceGE,Int.reduceNeg,ab2,bne_self_eq_false,ge_iff_le,gt_iff_lt]
 ·have hz:((m.eC:Int)==0)=false:=by simp;omega
  have hf:=h.ok.eC
  have hw:IntKind.wrap .i64 ((m.eC:Int)-1)=((m.eC-1:Nat):Int):=by rw[wrap_i64 (by omega) (by omega)];omega
  obtain⟨H1,a1,a2,a3,a4⟩:=h.head.st (o:=3) (v := .int .i64 ((m.eC-1:Nat):Int)) (by simp) rfl
  have ql:=h.dA.out a3 fun j hj q=>h.aaA (by rw[wc.1 q] at hj;exact hj)
  obtain⟨q1,q2⟩:=h.OO (off:=m.off) (eC:=m.eC-1) (dA:=L.dA) (kl:=m.dA) a2 (by omega) a3 (fun j hj => .inl (by simpa using hj)) ql (fun j hj => .inl hj) (vZ _)
  have zu:ld (.ptr p 3) H1=some (.int .i64 ((m.eC-1:Nat):Int)):=a2.ld (o:=3) rfl
  have aop:ld (.ptr p 4) H1=some L.dA:=a2.ld (o:=4) rfl
  by_cases h1:m.eC=1
  ·have hB:lQ m=false:=by simp[lQ,h1]
   have hn:decide ((0:Int)<((m.eC-1:Nat):Int))=false:=decide_eq_false (by omega)
   obtain⟨H2,L2,c1,c2,c3⟩:=aoC q1 (kv:=L.dA) (kl:=m.dA) ql q1.arG.2.2
   refine⟨H2,L2,Tp ?_,?_,q2.trans c3,fun q=>by rw[hB] at q;cases q⟩
   ·unfold K6
    simp only[h3,hz,hw,a1,zu,hn,aop,c1,hB,aN,bH,aL,aK,cj,aV,aJ,aG,aZ,aO,bh,cq,aS,cx,bV,bo,bR,aM,cg,br,aQ,bO,bu,cn,cu,bG,aW,bB,bk,aI,bA,bE,cB,aT,bf,bQ,cp,bd,bc,aR,bU,bP,bC,cz,cC,bK,cl,aA,bN,aD,cy,bW,aP,aU,bS,bT,cA,ba,cw,bY,bM,aF,bJ,bI,aH,ck,bq,bF,bD,bZ,aY,nq,gk,yS,aat,aag,decide_true,decide_false,Int.reduceBEq,Int.reduceBNe,Int.reduceLT,Int.reduceLE,Int.reduceGT,Int.reduceGE,Int.reduceNeg,ab2,bne_self_eq_false,ge_iff_le,gt_iff_lt]
   ·unfold gy
    rw[if_neg h0,if_pos h1]
    have:m.eC-1=0:=by omega
    rw[this] at c2;exact c2
  ·have hB:lQ m=true:=by simp[lQ,h1]
   have hn:decide ((0:Int)<((m.eC-1:Nat):Int))=true:=decide_eq_true (by omega)
   have uP:gy m={ m with eC:=m.eC-1 }:=by unfold gy;rw[if_neg h0,if_neg h1]
   refine⟨H1,L,Tp ?_,by rw[uP];exact q1,q2,fun _=>⟨rfl,a3,by rw[uP],by rw[uP],by rw[uP],by rw[uP]⟩⟩
   unfold K6
   simp only[h3,hz,hw,a1,zu,hn,hB,aN,bH,aL,aK,cj,aV,aJ,aG,aZ,aO,bh,cq,aS,cx,bV,bo,bR,aM,cg,br,aQ,bO,bu,cn,cu,bG,aW,bB,bk,aI,bA,bE,cB,aT,bf,bQ,cp,bd,bc,aR,bU,bP,bC,cz,cC,bK,cl,aA,bN,aD,cy,bW,aP,aU,bS,bT,cA,ba,cw,bY,bM,aF,bJ,bI,aH,ck,bq,bF,bD,bZ,aY,nq,gk,yS,aat,aag,decide_true,decide_false,Int.reduceBEq,Int.reduceBNe,Int.reduceLT,Int.reduceLE,Int.reduceGT,Int.reduceGE,Int.reduceNeg,ab2,bne_self_eq_false,ge_iff_le,gt_iff_lt]
noncomputable def rq (m:SM)(at':List Nat):Int × SM:=if dZ m at'≠0 then (dZ m at',m) else if lQ m=false then (11,gy m) else
 (0,{ gy m with fs:=match look m at' with | some f=>ea at' ⟨f.nm,f.b,f.b.length⟩ m.fs | none=>m.fs })
theorem RT {m:SM}{at':List Nat}(he:dZ m at'≠0):(dZ m at' != 0)=true:=by simpa using he
theorem aly (h:St H p m L)(at':List Nat):∃ H' L',cK (.func (.func 67) [] []) [.ptr p 0,.str at'] H=some (.int .i64 (rq m at').1,H')/\St H' p (rq m at').2 L'/\iw p H L H' L':=by
 have h0:=AK h at'
 by_cases he:dZ m at'=0
 ·obtain⟨q1,q2,a,x,b,r1,r2,r3,r4,r5,r6,hx,hf⟩:=h.Fs he
  obtain⟨H1,L1,b1,b2,b3,b4⟩:=Ka h
  cases hB:lQ m with
  | false=>
   have:rq m at'=(11,gy m):=by unfold rq;rw[if_neg (by simp[he]),if_pos hB]
   rw[this]
   refine⟨H1,L1,R5 ?_,b2,b3⟩
   unfold LV
   simp only[h0,he,q1,q2,b1,hB,abZ,agL,or_self,if_false,aN,bH,aL,aK,cj,aV,aJ,aG,aZ,aO,bh,cq,aS,cx,bV,bo,bR,aM,cg,br,aQ,bO,bu,cn,cu,bG,aW,bB,bk,aI,bA,bE,cB,aT,bf,bQ,cp,bd,bc,aR,bU,bP,bC,cz,cC,bK,cl,aA,bN,aD,cy,bW,aP,aU,bS,bT,cA,ba,cw,bY,bM,aF,bJ,bI,aH,ck,bq,bF,bD,bZ,aY,nq,gk,yS,aat,aag,decide_true,decide_false,Int.reduceBEq,Int.reduceBNe,Int.reduceLT,Int.reduceLE,Int.reduceGT,Int.reduceGE,Int.reduceNeg,ab2,bne_self_eq_false,ge_iff_le,gt_iff_lt]
  | true=>
   obtain⟨e1,e2,e3,e4,e5,e6⟩:=b4 hB
   rw[e1] at b2 b3
   obtain⟨rW,uC⟩:=b2.file x hx
   have hl:=rW.ld (o:=0) rfl
   have hlen:=uC.rw.gV
   rw[gO] at hlen
   obtain⟨H2,c1,c2,c3,c4⟩:=Sa (t:=(x.f.b.length:Int)) rW uC (b2.Mu hx)
   have fM:=b2.Ic (f:=⟨x.f.nm,x.f.b,x.f.b.length⟩) r1 (by rw[r2];exact r3) (by rw[r2];exact r4) rfl c3 (fun j hj=>by rw[wc.1 hj];exact .head _) c2 c4 (fun j hj => .inl hj) (vZ _) (aar _) (h.ok.byte x.f hf) (by
    have:=b2.ED r1 (by rw[r2];exact r3) (by rw[r2];exact r4) ⟨x.f.nm,x.f.b,x.f.b.length⟩
    have:=b2.ok.sum
    simp only at *;omega)
   obtain⟨s1,s2⟩:=fM
   have:rq m at'=(0,{ gy m with fs:=ea x.f.nm ⟨x.f.nm,x.f.b,x.f.b.length⟩ (gy m).fs }):=by
    unfold rq;rw[if_neg (by simp[he]),if_neg (by simp[hB]),r6,<-r2,e3]
   rw[this]
   refine⟨H2,_,R5 ?_,s1,b3.trans s2⟩
   unfold LV
   simp only[h0,he,q1,q2,b1,hB,r5,hl,hlen,c1,abZ,agL,or_self,if_false,aN,bH,aL,aK,cj,aV,aJ,aG,aZ,aO,bh,cq,aS,cx,bV,bo,bR,aM,cg,br,aQ,bO,bu,cn,cu,bG,aW,bB,bk,aI,bA,bE,cB,aT,bf,bQ,cp,bd,bc,aR,bU,bP,bC,cz,cC,bK,cl,aA,bN,aD,cy,bW,aP,aU,bS,bT,cA,ba,cw,bY,bM,aF,bJ,bI,aH,ck,bq,bF,bD,bZ,aY,nq,gk,yS,aat,aag,decide_true,decide_false,Int.reduceBEq,Int.reduceBNe,Int.reduceLT,Int.reduceLE,Int.reduceGT,Int.reduceGE,Int.reduceNeg,ab2,bne_self_eq_false,ge_iff_le,gt_iff_lt]
 ·have:rq m at'=(dZ m at',m):=by unfold rq;rw[if_pos he]
  rw[this]
  refine⟨H,L,R5 ?_,h,iw.refl _ _ _⟩
  unfold LV
  simp only[h0,RT he,aN,bH,aL,aK,cj,aV,aJ,aG,aZ,aO,bh,cq,aS,cx,bV,bo,bR,aM,cg,br,aQ,bO,bu,cn,cu,bG,aW,bB,bk,aI,bA,bE,cB,aT,bf,bQ,cp,bd,bc,aR,bU,bP,bC,cz,cC,bK,cl,aA,bN,aD,cy,bW,aP,aU,bS,bT,cA,ba,cw,bY,bM,aF,bJ,bI,aH,ck,bq,bF,bD,bZ,aY,nq,gk,yS,aat,aag,decide_true,decide_false,Int.reduceBEq,Int.reduceBNe,Int.reduceLT,Int.reduceLE,Int.reduceGT,Int.reduceGE,Int.reduceNeg,ab2,bne_self_eq_false,ge_iff_le,gt_iff_lt]
end
theorem zH (c:Nat)(x:ME)(es:List ME)(p:Nat):pz c (x::es) p=true↔p<=x.born/\x.born<c/\pz c es (x.born+1)=true:=by
 show F.cW (Nat.ble p x.born) (F.cW (Nat.blt x.born c) (pz c es (x.born+1)))=true↔_
 rw[F.jq,F.jq,zf,zf,ado,adn]
theorem agm (c:Nat):∀ (es:List ME) (p q:Nat),q<=p->pz c es p=true->pz c es q=true
 | [],p,q,h,_=>rfl
 | x::es,p,q,h,hi=>by
  rw[zH] at hi ⊢
  exact⟨by omega,hi.2⟩
theorem aac (c:Nat)(x:ME)(b:List ME):∀ (a:List ME) (p:Nat),pz c (a++x::b) p=true->pz c (a++b) p=true
 | [],p,h=>by
  rw[afE,zH] at h
  exact agm c b _ _ (by omega) h.2.2
 | y::a,p,h=>by
  rw[ahd,zH] at h ⊢
  exact⟨h.1,h.2.1,aac c x b a _ h.2.2⟩
theorem Zo (c:Nat)(x:ME)(hx:x.born=c):∀ (a:List ME) (p:Nat),p<=c->pz c a p=true->pz (c+1) (a++[x]) p=true
 | [],p,hp,h=>by
  rw[afE,zH]
  exact⟨by omega,by omega,rfl⟩
 | y::a,p,hp,h=>by
  rw[zH] at h
  rw[ahd,zH]
  exact⟨h.1,by omega,Zo c x hx a _ (by omega) h.2.2⟩
theorem Wk (c:Nat)(x y:ME)(hx:y.born=x.born)(b:List ME):∀ (a:List ME) (p:Nat),pz c (a++x::b) p=true->pz c (a++y::b) p=true
 | [],p,h=>by
  rw[afE,zH] at h ⊢
  rw[hx];exact h
 | z::a,p,h=>by
  rw[ahd,zH] at h ⊢
  exact⟨h.1,h.2.1,Wk c x y hx b a _ h.2.2⟩
def kc (n:List Nat)(fs:List Fl):List Fl:=fs.filter fun f => !(f.nm==n)
theorem HX {a b:List FC}{x:FC}{n:List Nat}(hx:x.f.nm=n)(ha:∀ y∈a,y.f.nm≠n)(hb:∀ y∈b,y.f.nm≠n):kc n ((a++x::b).map (·.f))=(a++b).map (·.f):=by
 unfold kc
 rw[acJ,ab8,List.filter_append,List.filter_cons]
 have h1:(!(x.f.nm==n))=false:=by rw[hx];simp
 have hf:∀ l:List FC,(∀ y∈l,y.f.nm≠n)->(l.map (·.f)).filter (fun f => !(f.nm==n))=l.map (·.f):=fun l hl=>List.filter_eq_self.2 fun f hf=>by
  obtain⟨y,hy,rfl⟩:=adj.1 hf
  simpa using hl y hy
 rw[h1,hf a ha,hf b hb,acJ]
 simp
section
variable {H:Hp}{p:Nat}{m:SM}{L:Lay}
theorem St.acP (h:St H p m L):p≠L.gx/\L.gx∉aa L.dA/\∀ y∈L.cs,L.gx∉y.ids:=by
 have dI:=h.nd
 unfold dL at dI
 rw[acB,acB] at dI
 exact⟨fun q=>dI.1 (by rw[q];exact .head _),fun q=>dI.2.1 (aaI _ q),fun y hy q=>dI.2.1 (yX _ (adI.2 ⟨y,hy,q⟩))⟩
theorem St.QI {H':Hp}(h:St H p m L)(ho:Out [L.gx] H H'):C0 H' p [.int .i64 m.room,.map L.gx,.bool m.off,.int .i64 m.eC,L.dA]/\Rw H' 1 L.dA (ints m.dA)/\
  ∀ x∈L.cs,C0 H' x.id [x.sl,.int .i64 x.f.sure]/\Ow H' 5 1 x.sl (bs x.f.b):=by
 obtain⟨n1,n2,n3⟩:=h.acP
 have e:∀ j,j≠L.gx->j∉[L.gx]:=fun j hj q=>hj (wc.1 q)
 exact⟨h.head.out ho (e _ n1),h.dA.out ho fun j hj=>e _ fun q=>n2 (q▸hj),fun x hx=>⟨(h.file x hx).1.out ho (e _ fun q=>n3 x hx (q ▸ .head _)),(h.file x hx).2.out ho fun j hj=>e _ fun q=>n3 x hx (q ▸ .tail _ hj)⟩⟩
theorem St.abR (h:St H p m L){a b:List FC}{x:FC}(hL:L.cs=a++x::b)(ha:∀ y∈a,y.f.nm≠x.f.nm)(hb:∀ y∈b,y.f.nm≠x.f.nm) :
  ∃ H',Aq .str (.map L.gx) (.str x.f.nm) H=some H'/\St H' p { m with fs:=kc x.f.nm m.fs } { L with cs:=a++b }/\iw p H L H' { L with cs:=a++b }/\
   C0 H' x.id [x.sl,.int .i64 x.f.sure]/\Ow H' 5 1 x.sl (bs x.f.b)/\(∀ j∈x.ids,j∉dL p { L with cs:=a++b })/\x.ids.Nodup:=by
 have hm:=h.map
 rw[hL,acJ,ab8] at hm
 obtain⟨H',d1,d2,d3⟩:=al7 hm (k:=x.f.nm) rfl (zU ha) (zU hb)
 obtain⟨c1,c2,c3⟩:=h.QI d3
 have tv:kc x.f.nm m.fs=(a++b).map (·.f):=by rw[h.fs,hL,HX rfl ha hb]
 have EJ:∀ f∈kc x.f.nm m.fs,f∈m.fs:=fun f hf=>(List.mem_filter.1 hf).1
 have Ex:x∈L.cs:=by rw[hL];simp
 have mem:∀ y∈a++b,y∈L.cs:=fun y hy=>by
  rw[hL]
  rcases aal.1 hy with q | q
  ·exact aaI _ q
  ·exact yX _ (.tail _ q)
 have dI:=h.nd
 unfold dL at dI
 rw[hL,afa,af2,acB,acB,acK,acK,acK] at dI
 obtain⟨n1,n2,n3,⟨n4,⟨n5,n6,n7⟩,n8⟩,n9⟩:=dI
 have oT:dO (kc x.f.nm m.fs)<=dO m.fs:=by
  rw[tv,h.fs,hL,acJ,acJ,ab8,wD,wD,ub];omega
 refine⟨H',d1,⟨c1,by rw[acJ];exact d2,fun y hy=>c3 y (mem y hy),c2,?_,?_,tv,⟨h.ok.room,abS oT h.ok.sum,fun f hf=>h.ok.sure f (EJ f hf),fun f hf=>h.ok.byte f (EJ f hf),h.ok.eC,?_,fun f hf=>h.ok.yO f (EJ f hf),?_⟩⟩,
  ⟨d3.mono fun j hj=>by rw[wc.1 hj];exact St.nV,fun j hj => .inl ?_⟩,(c3 x Ex).1,(c3 x Ex).2,?_,n5⟩
 ·unfold dL
  rw[afa,acB,acB,acK,acK]
  refine⟨fun q => ?_,fun q => ?_,n3,⟨n4,n6,fun j hj k hk=>n8 j hj k (yX _ hk)⟩,fun j hj k hk => ?_⟩
  ·rcases yL.1 q with q | q
   ·exact n1 (by rw[q];exact .head _)
   rcases aal.1 q with q | q
   ·exact n1 (.tail _ (aaI _ q))
   rcases aal.1 q with q | q
   ·exact n1 (.tail _ (yX _ (aaI _ q)))
   ·exact n1 (.tail _ (yX _ (yX _ (yX _ q))))
  ·rcases aal.1 q with q | q
   ·exact n2 (aaI _ q)
   rcases aal.1 q with q | q
   ·exact n2 (yX _ (aaI _ q))
   ·exact n2 (yX _ (yX _ (yX _ q)))
  ·rcases aal.1 hk with q | q
   ·exact n9 j hj k (aaI _ q)
   ·exact n9 j hj k (yX _ (yX _ q))
 ·have lO:=h.born
  rw[hL,acJ,ab8] at lO
  rw[acJ]
  exact aac _ _ _ _ _ lO
 ·exact List.Nodup.sublist ((List.filter_sublist).map _) h.ok.names
 ·exact abS (List.length_filter_le _ _) h.ok.many
 ·unfold dL at hj
  rcases yL.1 hj with rfl | hj
  ·exact St.rL
  rcases yL.1 hj with rfl | hj
  ·exact St.nV
  rcases aal.1 hj with hj | hj
  ·exact St.ux hj
  ·obtain⟨y,hy,hj⟩:=adI.1 hj
   exact St.lG (mem y hy) hj
 ·intro j hj q
  have iU:j∈FC.ids x:=hj
  unfold dL at q
  rcases yL.1 q with q | q
  ·exact n1 (.tail _ (yX _ (yX _ (aaI _ (q▸iU)))))
  rcases yL.1 q with q | q
  ·exact n2 (yX _ (yX _ (aaI _ (q▸iU))))
  rcases aal.1 q with q | q
  ·exact n9 j q j (yX _ (aaI _ iU)) rfl
  ·rw[afa] at q
   rcases aal.1 q with q | q
   ·exact n8 j q j (aaI _ iU) rfl
   ·exact n7 j iU j q rfl
theorem St.UJ (h:St H p m L){id:Nat}{sl:AV}{f:Fl}(cL:∀ y∈L.cs,y.f.nm≠f.nm)(hc:C0 H id [sl,.int .i64 f.sure])(hw:Ow H 5 1 sl (bs f.b))(hd:∀ j∈FC.ids ⟨id,sl,L.kp,f⟩,j∉dL p L)(dI:(FC.ids ⟨id,sl,L.kp,f⟩).Nodup)
  (vY:f.sure<=f.b.length) (E2:∀ c∈f.b,c<256) (oT:dO m.fs+f.b.length<=m.room) (P3:iV f.nm=true) (J9:m.fs.length<64) :
  ∃ H',kb .str (.map L.gx) (.str f.nm) (.ptr id 0) H=some H'/\St H' p { m with fs:=m.fs++[f] } { L with cs:=L.cs++[⟨id,sl,L.kp,f⟩],kp:=L.kp+1 }/\Out [L.gx] H H':=by
 obtain⟨H',d1,d2,d3⟩:=anN h.map (zU cL) (.ptr id 0)
 obtain⟨c1,c2,c3⟩:=h.QI d3
 have yi:∀ j∈FC.ids ⟨id,sl,L.kp,f⟩,j∉[L.gx]:=fun j hj q=>hd j hj (by rw[wc.1 q];exact St.nV)
 refine⟨H',d1,⟨c1,by rw[acJ];exact d2,fun y hy => ?_,c2,?_,?_,by rw[acJ,<-h.fs];rfl,⟨h.ok.room,by rw[wD,ub];exact oT,fun g hg => ?_,fun g hg => ?_,h.ok.eC,?_,fun g hg => ?_,by rw[abz];simp;omega⟩⟩,d3⟩
 ·rcases aal.1 hy with q | q
  ·exact c3 y q
  ·rw[wc.1 q]
   exact⟨hc.out d3 (yi _ (.head _)),hw.out d3 fun j hj=>yi j (.tail _ hj)⟩
 ·have hn:=h.nd
  unfold dL at hn ⊢
  rw[acB,acB,acK] at hn
  rw[afa,acB,acB,acK,acK]
  have e:List.flatMap FC.ids [(⟨id,sl,L.kp,f⟩:FC)]=FC.ids ⟨id,sl,L.kp,f⟩:=by simp
  rw[e]
  obtain⟨n1,n2,n3,n4,n5⟩:=hn
  refine⟨fun q => ?_,fun q => ?_,n3,⟨n4,dI,fun j hj k hk ek=>hd k hk ?_⟩,fun j hj k hk => ?_⟩
  ·rcases yL.1 q with q | q
   ·exact n1 (by rw[q];exact .head _)
   rcases aal.1 q with q | q
   ·exact n1 (.tail _ (aaI _ q))
   rcases aal.1 q with q | q
   ·exact n1 (.tail _ (yX _ q))
   ·exact hd _ q St.rL
  ·rcases aal.1 q with q | q
   ·exact n2 (aaI _ q)
   rcases aal.1 q with q | q
   ·exact n2 (yX _ q)
   ·exact hd _ q St.nV
  ·obtain⟨y,hy,hj⟩:=adI.1 hj
   rw[<-ek];exact St.lG hy hj
  ·rcases aal.1 hk with q | q
   ·exact n5 j hj k q
   ·exact fun ek=>hd k q (by rw[<-ek];exact St.ux hj)
 ·have lO:=h.born
  rw[acJ]
  exact Zo L.kp (FC.me ⟨id,sl,L.kp,f⟩) rfl _ _ (adf _) lO
 ·rcases aal.1 hg with q | q
  ·exact h.ok.sure g q
  ·rw[wc.1 q];exact vY
 ·rcases aal.1 hg with q | q
  ·exact h.ok.byte g q
  ·rw[wc.1 q];exact E2
 ·rw[acJ,acK]
  refine⟨h.ok.names,by simp,fun n hn k hk => ?_⟩
  obtain⟨g,hg,rfl⟩:=adj.1 hn
  rw[h.fs] at hg
  obtain⟨y,hy,rfl⟩:=adj.1 hg
  simp only[ab8,List.map_nil,wc] at hk
  rw[hk];exact cL y hy
 ·rcases aal.1 hg with q | q
  ·exact h.ok.yO g q
  ·rw[wc.1 q];exact P3
theorem St.arx (h:St H p m L){a b:List FC}{y:FC}(hL:L.cs=a++y::b){id:Nat}{sl:AV}{f:Fl}(hf:f.nm=y.f.nm)(ha:∀ z∈a,z.f.nm≠y.f.nm)(hb:∀ z∈b,z.f.nm≠y.f.nm)(hc:C0 H id [sl,.int .i64 f.sure])(hw:Ow H 5 1 sl (bs f.b))(hd:∀ j∈FC.ids ⟨id,sl,y.born,f⟩,j∉dL p L)(dI:(FC.ids ⟨id,sl,y.born,f⟩).Nodup)
  (vY:f.sure<=f.b.length) (E2:∀ c∈f.b,c<256) (oT:dO (ea y.f.nm f m.fs)<=m.room) :
  ∃ H',kb .str (.map L.gx) (.str f.nm) (.ptr id 0) H=some H'/\St H' p { m with fs:=ea y.f.nm f m.fs } { L with cs:=a++⟨id,sl,y.born,f⟩::b }/\Out [L.gx] H H':=by
 have hm:=h.map
 rw[hL,acJ,ab8] at hm
 obtain⟨H',d1,d2,d3⟩:=ahT hm (k:=f.nm) (by rw[hf];rfl) (by rw[hf];exact zU ha) (by rw[hf];exact zU hb) (.ptr id 0)
 obtain⟨c1,c2,c3⟩:=h.QI d3
 have yi:∀ j∈FC.ids ⟨id,sl,y.born,f⟩,j∉[L.gx]:=fun j hj q=>hd j hj (by rw[wc.1 q];exact St.nV)
 have hyL:y∈L.cs:=by rw[hL];simp
 have mA:∀ z∈a,z∈L.cs:=fun z hz=>by rw[hL];exact aaI _ hz
 have mB:∀ z∈b,z∈L.cs:=fun z hz=>by rw[hL];exact yX _ (.tail _ hz)
 have tv:ea y.f.nm f m.fs=(a++⟨id,sl,y.born,f⟩::b).map (·.f):=by
  rw[h.fs,hL,FA rfl ha hb,acJ,ab8]
 have fM:∀ g∈ea y.f.nm f m.fs,g=f\/g∈m.fs:=fun g hg=>by
  unfold ea at hg
  obtain⟨g',oe,rfl⟩:=adj.1 hg
  split
  ·exact .inl rfl
  ·exact .inr oe
 have hgy:iV f.nm=true:=by rw[hf];exact h.ok.yO y.f (by rw[h.fs];exact adj.2 ⟨y,hyL,rfl⟩)
 refine⟨H',d1,⟨c1,by rw[acJ,ab8];exact d2,fun z hz => ?_,c2,?_,?_,tv,⟨h.ok.room,oT,fun g hg => ?_,fun g hg => ?_,h.ok.eC,?_,fun g hg => ?_,by simp only[ea,adg];exact h.ok.many⟩⟩,d3⟩
 ·rcases aal.1 hz with q | q
  ·exact c3 z (mA z q)
  ·rcases yL.1 q with rfl | q
   ·exact⟨hc.out d3 (yi _ (.head _)),hw.out d3 fun j hj=>yi j (.tail _ hj)⟩
   ·exact c3 z (mB z q)
 ·have hn:=h.nd
  unfold dL at hn ⊢
  rw[hL,afa,af2,acB,acB,acK,acK,acK] at hn
  rw[afa,af2,acB,acB,acK,acK,acK]
  obtain⟨n1,n2,n3,⟨n4,⟨n5,n6,n7⟩,n8⟩,n9⟩:=hn
  have fA:∀ j∈a.flatMap FC.ids,j∈dL p L:=fun j hj=>by
   obtain⟨z,hz,hj⟩:=adI.1 hj
   exact St.lG (mA z hz) hj
  have fB:∀ j∈b.flatMap FC.ids,j∈dL p L:=fun j hj=>by
   obtain⟨z,hz,hj⟩:=adI.1 hj
   exact St.lG (mB z hz) hj
  refine⟨fun q => ?_,fun q => ?_,n3,⟨n4,⟨dI,n6,fun j hj k hk ek=>hd j hj (ek▸fB k hk)⟩,fun j hj k hk ek => ?_⟩,fun j hj k hk ek => ?_⟩
  ·rcases yL.1 q with q | q
   ·exact n1 (by rw[q];exact .head _)
   rcases aal.1 q with q | q
   ·exact n1 (.tail _ (aaI _ q))
   rcases aal.1 q with q | q
   ·exact n1 (.tail _ (yX _ (aaI _ q)))
   rcases aal.1 q with q | q
   ·exact hd _ q St.rL
   ·exact n1 (.tail _ (yX _ (yX _ (yX _ q))))
  ·rcases aal.1 q with q | q
   ·exact n2 (aaI _ q)
   rcases aal.1 q with q | q
   ·exact n2 (yX _ (aaI _ q))
   rcases aal.1 q with q | q
   ·exact hd _ q St.nV
   ·exact n2 (yX _ (yX _ (yX _ q)))
  ·rcases aal.1 hk with q | q
   ·exact hd k q (ek▸fA j hj)
   ·exact n8 j hj k (yX _ q) ek
  ·rcases aal.1 hk with q | q
   ·exact n9 j hj k (aaI _ q) ek
   rcases aal.1 q with q | q
   ·exact hd k q (ek▸St.ux hj)
   ·exact n9 j hj k (yX _ (yX _ q)) ek
 ·have lO:=h.born
  rw[hL,acJ,ab8] at lO
  rw[acJ,ab8]
  exact Wk _ _ _ (by rfl) _ _ _ lO
 ·rcases fM g hg with rfl | q
  ·exact vY
  ·exact h.ok.sure g q
 ·rcases fM g hg with rfl | q
  ·exact E2
  ·exact h.ok.byte g q
 ·have:(ea y.f.nm f m.fs).map (·.nm)=m.fs.map (·.nm):=by
   unfold ea
   rw[agx]
   refine ag4 fun g hg => ?_
   simp only[Function.comp]
   split
   ·rename_i q;rw[q,hf]
   ·rfl
  rw[this];exact h.ok.names
 ·rcases fM g hg with rfl | q
  ·exact hgy
  ·exact h.ok.yO g q
end
section
variable {H:Hp}{p:Nat}{m:SM}{L:Lay}
noncomputable def uw (m:SM)(at':List Nat):Int × SM:=if dZ m at'≠0 then (dZ m at',m) else if lQ m=false then (11,gy m) else (0,{ gy m with fs:=kc at' m.fs })
theorem aq0 (h:St H p m L)(at':List Nat):∃ H' L',cK (.func (.func 171) [] []) [.ptr p 0,.str at'] H=some (.int .i64 (uw m at').1,H')/\St H' p (uw m at').2 L'/\iw p H L H' L':=by
 have h0:=AK h at'
 by_cases he:dZ m at'=0
 ·obtain⟨q1,q2,a,x,b,r1,r2,r3,r4,r5,r6,hx,hf⟩:=h.Fs he
  obtain⟨H1,L1,b1,b2,b3,b4⟩:=Ka h
  cases hB:lQ m with
  | false=>
   have:uw m at'=(11,gy m):=by unfold uw;rw[if_neg (by simp[he]),if_pos hB]
   rw[this]
   refine⟨H1,L1,RA ?_,b2,b3⟩
   unfold Kg
   simp only[h0,he,q1,q2,b1,hB,abZ,agL,or_self,if_false,aN,bH,aL,aK,cj,aV,aJ,aG,aZ,aO,bh,cq,aS,cx,bV,bo,bR,aM,cg,br,aQ,bO,bu,cn,cu,bG,aW,bB,bk,aI,bA,bE,cB,aT,bf,bQ,cp,bd,bc,aR,bU,bP,bC,cz,cC,bK,cl,aA,bN,aD,cy,bW,aP,aU,bS,bT,cA,ba,cw,bY,bM,aF,bJ,bI,aH,ck,bq,bF,bD,bZ,aY,nq,gk,yS,aat,aag,decide_true,decide_false,Int.reduceBEq,Int.reduceBNe,Int.reduceLT,Int.reduceLE,Int.reduceGT,Int.reduceGE,Int.reduceNeg,ab2,bne_self_eq_false,ge_iff_le,gt_iff_lt]
  | true=>
   obtain⟨e1,e2,e3,e4,e5,e6⟩:=b4 hB
   rw[e1] at b2 b3
   have ND:=b2.zT
   obtain⟨H2,d1,d2,d3,d4,d5,d6,d7⟩:=b2.abR r1 (by rw[r2];exact r3) (by rw[r2];exact r4)
   rw[r2] at d1 d2
   rw[e3] at d2
   have:uw m at'=(0,{ gy m with fs:=kc at' m.fs }):=by unfold uw;rw[if_neg (by simp[he]),if_neg (by simp[hB])]
   rw[this]
   refine⟨H2,_,RA ?_,d2,b3.trans d3⟩
   unfold Kg
   simp only[h0,he,q1,q2,b1,hB,ND,d1,abZ,agL,or_self,if_false,aN,bH,aL,aK,cj,aV,aJ,aG,aZ,aO,bh,cq,aS,cx,bV,bo,bR,aM,cg,br,aQ,bO,bu,cn,cu,bG,aW,bB,bk,aI,bA,bE,cB,aT,bf,bQ,cp,bd,bc,aR,bU,bP,bC,cz,cC,bK,cl,aA,bN,aD,cy,bW,aP,aU,bS,bT,cA,ba,cw,bY,bM,aF,bJ,bI,aH,ck,bq,bF,bD,bZ,aY,nq,gk,yS,aat,aag,decide_true,decide_false,Int.reduceBEq,Int.reduceBNe,Int.reduceLT,Int.reduceLE,Int.reduceGT,Int.reduceGE,Int.reduceNeg,ab2,bne_self_eq_false,ge_iff_le,gt_iff_lt]
 ·have:uw m at'=(dZ m at',m):=by unfold uw;rw[if_pos he]
  rw[this]
  refine⟨H,L,RA ?_,h,iw.refl _ _ _⟩
  unfold Kg
  simp only[h0,RT he,aN,bH,aL,aK,cj,aV,aJ,aG,aZ,aO,bh,cq,aS,cx,bV,bo,bR,aM,cg,br,aQ,bO,bu,cn,cu,bG,aW,bB,bk,aI,bA,bE,cB,aT,bf,bQ,cp,bd,bc,aR,bU,bP,bC,cz,cC,bK,cl,aA,bN,aD,cy,bW,aP,aU,bS,bT,cA,ba,cw,bY,bM,aF,bJ,bI,aH,ck,bq,bF,bD,bZ,aY,nq,gk,yS,aat,aag,decide_true,decide_false,Int.reduceBEq,Int.reduceBNe,Int.reduceLT,Int.reduceLE,Int.reduceGT,Int.reduceGE,Int.reduceNeg,ab2,bne_self_eq_false,ge_iff_le,gt_iff_lt]
noncomputable def iA (m:SM)(at':List Nat)(b:List Nat):Int × SM:=if dZ m at'≠0/\dZ m at'≠4 then (dZ m at',m) else
 if (m.room:Int)-dO m.fs<b.length\/((look m at').isNone=true/\64<=m.fs.length) then (6,m) else if lQ m=false then (11,gy m) else
 (0,{ gy m with fs:=match look m at' with | some f=>ea at' ⟨f.nm,f.b++b,f.sure⟩ m.fs | none=>m.fs++[⟨at',b,0⟩] })
theorem Tx (h:St H p m L)(at':List Nat){y:AV}{b:List Nat}(hy:Rw H 1 y (bs b))(hb:∀ c∈b,c<256)(Iv:∀ j∈aa y,j∉dL p L) :
  ∃ H' L',cK (.func (.func 203) [] []) [.ptr p 0,.str at',y] H=some (.int .i64 (iA m at' b).1,H')/\St H' p (iA m at' b).2 L'/\iw p H L H' L':=by
 have h0:=AK h at'
 have uk:=afs h
 have zP:=hy.gV
 rw[gO] at zP
 have Az:=h.ok.room
 have oT:=h.ok.sum
 have Jw:=aqa h.map
 have QQ:=h.zT
 have fC:(L.cs.map FC.me).length=m.fs.length:=by rw[h.fs,adg,adg]
 rw[fC] at Jw
 by_cases kI:dZ m at'≠0/\dZ m at'≠4
 ·have:iA m at' b=(dZ m at',m):=by unfold iA;rw[if_pos kI]
  rw[this]
  refine⟨H,L,BL ?_,h,iw.refl _ _ _⟩
  unfold xX
  have d1:(dZ m at' != 0)=true:=by simpa using kI.1
  have d2:(dZ m at' != 4)=true:=by simpa using kI.2
  simp only[h0,d1,d2,aN,bH,aL,aK,cj,aV,aJ,aG,aZ,aO,bh,cq,aS,cx,bV,bo,bR,aM,cg,br,aQ,bO,bu,cn,cu,bG,aW,bB,bk,aI,bA,bE,cB,aT,bf,bQ,cp,bd,bc,aR,bU,bP,bC,cz,cC,bK,cl,aA,bN,aD,cy,bW,aP,aU,bS,bT,cA,ba,cw,bY,bM,aF,bJ,bI,aH,ck,bq,bF,bD,bZ,aY,nq,gk,yS,aat,aag,decide_true,decide_false,Int.reduceBEq,Int.reduceBNe,Int.reduceLT,Int.reduceLE,Int.reduceGT,Int.reduceGE,Int.reduceNeg,ab2,bne_self_eq_false,ge_iff_le,gt_iff_lt]
 ·have R0:(dZ m at'=0/\m.off=false/\iV at'=true/\∃ a x c,L.cs=a++x::c/\x.f.nm=at'/\(∀ y∈a,y.f.nm≠at')/\(∀ y∈c,y.f.nm≠at')/\fp L at' = .ptr x.id 0/\look m at'=some x.f/\x∈L.cs/\x.f∈m.fs)\/
    (dZ m at'=4/\m.off=false/\iV at'=true/\look m at'=none/\fp L at' = .aC/\∀ y∈L.cs,y.f.nm≠at'):=by
   rcases ZC m at' with⟨q,_⟩ | ⟨q,_⟩ | ⟨q,q1,q2,q3⟩ | ⟨q,_⟩
   ·rw[q] at kI;simp at kI
   ·rw[q] at kI;simp at kI
   ·rcases h.ER at' with⟨r1,r2,r3⟩ | ⟨a,x,c,r1,r2,r3,r4,r5,r6⟩
    ·exact .inr ⟨q,q1,q2,q3,r1,r3⟩
    ·rw[q3] at r6;cases r6
   ·obtain⟨q1,q2,r⟩:=h.Fs q
    exact .inl ⟨q,q1,q2,r⟩
  have hE:(dZ m at' != 0)=true->(dZ m at' != 4)=false:=by
   intro q
   rcases R0 with⟨e,_⟩ | ⟨e,_⟩
   ·rw[e] at q;cases q
   ·rw[e];rfl
  have asL:∀ k:AV->R,B1 (eX (.int .i64 (dZ m at')) (.int .i64 0)) (fun cY=>GO cY true (fun Ce=>Ce (.int .i64 (dZ m at')) H) (fun da gJ=>GO cY true (fun HY=>B1 (eX da (.int .i64 4)) fun dw=>HY dw gJ) (fun eu dX=>B1 (pk cY eu (.bool false)) fun v21=>k v21) gJ) H)=k (.bool false):=by
   intro k
   cases d:(dZ m at' != 0) with
   | false=>simp only[d,aN,bH,aL,aK,cj,aV,aJ,aG,aZ,aO,bh,cq,aS,cx,bV,bo,bR,aM,cg,br,aQ,bO,bu,cn,cu,bG,aW,bB,bk,aI,bA,bE,cB,aT,bf,bQ,cp,bd,bc,aR,bU,bP,bC,cz,cC,bK,cl,aA,bN,aD,cy,bW,aP,aU,bS,bT,cA,ba,cw,bY,bM,aF,bJ,bI,aH,ck,bq,bF,bD,bZ,aY,nq,gk,yS,aat,aag,decide_true,decide_false,Int.reduceBEq,Int.reduceBNe,Int.reduceLT,Int.reduceLE,Int.reduceGT,Int.reduceGE,Int.reduceNeg,ab2,bne_self_eq_false,ge_iff_le,gt_iff_lt]
   | true=>simp only[d,hE d,aN,bH,aL,aK,cj,aV,aJ,aG,aZ,aO,bh,cq,aS,cx,bV,bo,bR,aM,cg,br,aQ,bO,bu,cn,cu,bG,aW,bB,bk,aI,bA,bE,cB,aT,bf,bQ,cp,bd,bc,aR,bU,bP,bC,cz,cC,bK,cl,aA,bN,aD,cy,bW,aP,aU,bS,bT,cA,ba,cw,bY,bM,aF,bJ,bI,aH,ck,bq,bF,bD,bZ,aY,nq,gk,yS,aat,aag,decide_true,decide_false,Int.reduceBEq,Int.reduceBNe,Int.reduceLT,Int.reduceLE,Int.reduceGT,Int.reduceGE,Int.reduceNeg,ab2,bne_self_eq_false,ge_iff_le,gt_iff_lt]
  have Dn:(if m.off=true\/iV at'=false then AV.aC else fp L at')=fp L at':=by
   rcases R0 with⟨_,q1,q2,_⟩ | ⟨_,q1,q2,_⟩<;>simp[q1,q2]
  rw[Dn] at h0
  by_cases tu:(m.room:Int)-dO m.fs<b.length
  ·have:iA m at' b=(6,m):=by unfold iA;rw[if_neg kI,if_pos (.inl tu)]
   rw[this]
   refine⟨H,L,BL ?_,h,iw.refl _ _ _⟩
   unfold xX
   have d3:decide ((m.room:Int)-dO m.fs<b.length)=true:=decide_eq_true tu
   cases d:(dZ m at' != 0) with
   | false=>simp only[h0,d,zP,uk,d3,aN,bH,aL,aK,cj,aV,aJ,aG,aZ,aO,bh,cq,aS,cx,bV,bo,bR,aM,cg,br,aQ,bO,bu,cn,cu,bG,aW,bB,bk,aI,bA,bE,cB,aT,bf,bQ,cp,bd,bc,aR,bU,bP,bC,cz,cC,bK,cl,aA,bN,aD,cy,bW,aP,aU,bS,bT,cA,ba,cw,bY,bM,aF,bJ,bI,aH,ck,bq,bF,bD,bZ,aY,nq,gk,yS,aat,aag,decide_true,decide_false,Int.reduceBEq,Int.reduceBNe,Int.reduceLT,Int.reduceLE,Int.reduceGT,Int.reduceGE,Int.reduceNeg,ab2,bne_self_eq_false,ge_iff_le,gt_iff_lt]
   | true=>simp only[h0,d,hE d,zP,uk,d3,aN,bH,aL,aK,cj,aV,aJ,aG,aZ,aO,bh,cq,aS,cx,bV,bo,bR,aM,cg,br,aQ,bO,bu,cn,cu,bG,aW,bB,bk,aI,bA,bE,cB,aT,bf,bQ,cp,bd,bc,aR,bU,bP,bC,cz,cC,bK,cl,aA,bN,aD,cy,bW,aP,aU,bS,bT,cA,ba,cw,bY,bM,aF,bJ,bI,aH,ck,bq,bF,bD,bZ,aY,nq,gk,yS,aat,aag,decide_true,decide_false,Int.reduceBEq,Int.reduceBNe,Int.reduceLT,Int.reduceLE,Int.reduceGT,Int.reduceGE,Int.reduceNeg,ab2,bne_self_eq_false,ge_iff_le,gt_iff_lt]
  ·have d3:decide ((m.room:Int)-dO m.fs<b.length)=false:=decide_eq_false tu
   obtain⟨H1,L1,b1,b2,b3,b4⟩:=Ka h
   rcases R0 with⟨e,q1,q2,a,x,c,r1,r2,r3,r4,r5,r6,hx,hf⟩ | ⟨e,q1,q2,r6,r5,r3⟩
   ·rw[r5,e] at h0
    have xk:iA m at' b=if lQ m=false then (11,gy m) else (0,{ gy m with fs:=ea at' ⟨x.f.nm,x.f.b++b,x.f.sure⟩ m.fs }):=by
     unfold iA;rw[if_neg kI,if_neg (by simp[r6];omega),r6]
    cases hB:lQ m with
    | false=>
     rw[xk,if_pos hB]
     refine⟨H1,L1,BL ?_,b2,b3⟩
     unfold xX
     simp only[h0,zP,uk,d3,b1,hB,aN,bH,aL,aK,cj,aV,aJ,aG,aZ,aO,bh,cq,aS,cx,bV,bo,bR,aM,cg,br,aQ,bO,bu,cn,cu,bG,aW,bB,bk,aI,bA,bE,cB,aT,bf,bQ,cp,bd,bc,aR,bU,bP,bC,cz,cC,bK,cl,aA,bN,aD,cy,bW,aP,aU,bS,bT,cA,ba,cw,bY,bM,aF,bJ,bI,aH,ck,bq,bF,bD,bZ,aY,nq,gk,yS,aat,aag,decide_true,decide_false,Int.reduceBEq,Int.reduceBNe,Int.reduceLT,Int.reduceLE,Int.reduceGT,Int.reduceGE,Int.reduceNeg,ab2,bne_self_eq_false,ge_iff_le,gt_iff_lt]
    | true=>
     rw[xk,if_neg (by simp[hB])]
     obtain⟨e1,e2,e3,e4,e5,e6⟩:=b4 hB
     rw[e1] at b2 b3
     obtain⟨PC,HW⟩:=b2.file x hx
     have Dv:=PC.ld (o:=0) rfl
     have yf:=hy.out e2 fun j hj q=>Iv j hj (by rw[wc.1 q];exact St.rL)
     have Ge:(bs x.f.b).length+(bs b).length<=16777216:=by
      rw[gO,gO]
      have:=M9 hf;omega
     obtain⟨s',H2,a1,a2,a3,a4⟩:=wU (z:=[.int .u8 0]) HW yf (zV b) (by omega) Ge
     rw[<-Et] at a2
     obtain⟨H3,p1,p2,p3,p4⟩:=b2.TA hx a3 a2 a4
     have ar8:ld (.ptr x.id 0) H1=some x.sl:=Dv
     have fM:=b2.Ic (f:=⟨x.f.nm,x.f.b++b,x.f.sure⟩) r1 (by rw[r2];exact r3) (by rw[r2];exact r4) rfl p3 (fun j hj=>hj) p2 p4 a4 (vZ _) (by have:=h.ok.sure x.f hf;simp;omega) (fun k hk=>(aal.1 hk).elim (h.ok.byte x.f hf k) (hb k)) (by
      have:=b2.ED r1 (by rw[r2];exact r3) (by rw[r2];exact r4) ⟨x.f.nm,x.f.b++b,x.f.sure⟩
      rw[e3] at this ⊢
      rw[e4]
      simp only[abz] at this;omega)
     obtain⟨s1,s2⟩:=fM
     rw[e3,r2] at s1
     refine⟨H3,_,BL ?_,by rw[r2];exact s1,b3.trans s2⟩
     unfold xX
     simp only[h0,zP,uk,d3,b1,hB,Dv,a1,p1,aN,bH,aL,aK,cj,aV,aJ,aG,aZ,aO,bh,cq,aS,cx,bV,bo,bR,aM,cg,br,aQ,bO,bu,cn,cu,bG,aW,bB,bk,aI,bA,bE,cB,aT,bf,bQ,cp,bd,bc,aR,bU,bP,bC,cz,cC,bK,cl,aA,bN,aD,cy,bW,aP,aU,bS,bT,cA,ba,cw,bY,bM,aF,bJ,bI,aH,ck,bq,bF,bD,bZ,aY,nq,gk,yS,aat,aag,decide_true,decide_false,Int.reduceBEq,Int.reduceBNe,Int.reduceLT,Int.reduceLE,Int.reduceGT,Int.reduceGE,Int.reduceNeg,ab2,bne_self_eq_false,ge_iff_le,gt_iff_lt]
   ·rw[r5,e] at h0
    by_cases J9:64<=m.fs.length
    ·have:iA m at' b=(6,m):=by unfold iA;rw[if_neg kI,if_pos (.inr ⟨by rw[r6];rfl,J9⟩)]
     rw[this]
     refine⟨H,L,BL ?_,h,iw.refl _ _ _⟩
     unfold xX
     have d4:decide ((64:Int)<=(m.fs.length:Int))=true:=decide_eq_true (by omega)
     simp only[h0,zP,uk,d3,QQ,Jw,d4,aN,bH,aL,aK,cj,aV,aJ,aG,aZ,aO,bh,cq,aS,cx,bV,bo,bR,aM,cg,br,aQ,bO,bu,cn,cu,bG,aW,bB,bk,aI,bA,bE,cB,aT,bf,bQ,cp,bd,bc,aR,bU,bP,bC,cz,cC,bK,cl,aA,bN,aD,cy,bW,aP,aU,bS,bT,cA,ba,cw,bY,bM,aF,bJ,bI,aH,ck,bq,bF,bD,bZ,aY,nq,gk,yS,aat,aag,decide_true,decide_false,Int.reduceBEq,Int.reduceBNe,Int.reduceLT,Int.reduceLE,Int.reduceGT,Int.reduceGE,Int.reduceNeg,ab2,bne_self_eq_false,ge_iff_le,gt_iff_lt]
    ·have d4:decide ((64:Int)<=(m.fs.length:Int))=false:=decide_eq_false (by omega)
     have xk:iA m at' b=if lQ m=false then (11,gy m) else (0,{ gy m with fs:=m.fs++[⟨at',b,0⟩] }):=by
      unfold iA;rw[if_neg kI,if_neg (by rw[r6];simp;omega),r6]
     cases hB:lQ m with
     | false=>
      rw[xk,if_pos hB]
      refine⟨H1,L1,BL ?_,b2,b3⟩
      unfold xX
      simp only[h0,zP,uk,d3,QQ,Jw,d4,b1,hB,aN,bH,aL,aK,cj,aV,aJ,aG,aZ,aO,bh,cq,aS,cx,bV,bo,bR,aM,cg,br,aQ,bO,bu,cn,cu,bG,aW,bB,bk,aI,bA,bE,cB,aT,bf,bQ,cp,bd,bc,aR,bU,bP,bC,cz,cC,bK,cl,aA,bN,aD,cy,bW,aP,aU,bS,bT,cA,ba,cw,bY,bM,aF,bJ,bI,aH,ck,bq,bF,bD,bZ,aY,nq,gk,yS,aat,aag,decide_true,decide_false,Int.reduceBEq,Int.reduceBNe,Int.reduceLT,Int.reduceLE,Int.reduceGT,Int.reduceGE,Int.reduceNeg,ab2,bne_self_eq_false,ge_iff_le,gt_iff_lt]
     | true=>
      rw[xk,if_neg (by simp[hB])]
      obtain⟨e1,e2,e3,e4,e5,e6⟩:=b4 hB
      rw[e1] at b2 b3
      have sH:fl [.ae,(.int .i64 0)] []=some [AV.ae,.int .i64 ((0:Nat):Int)]:=rfl
      obtain⟨H2,n1,n2,n3,n4⟩:=jP H1 199 (.agg [AV.ae,.int .i64 ((0:Nat):Int)]) [AV.ae,.int .i64 ((0:Nat):Int)] rfl (by simp)
      have b5:=b2.out n3 fun j _ q=>by cases q
      have ah:=b2.lt
      have ahw:=b5.zT
      have cL:∀ y∈L.cs,y.f.nm≠(⟨at',[],0⟩:Fl).nm:=r3
      obtain⟨H3,f1,f2,f3⟩:=b5.UJ (id:=H1.next) (sl := .ae) (f:=⟨at',[],0⟩) cL ⟨_,n2⟩ .nil (fun j hj=>by
        simp only[FC.ids,aa,wc] at hj
        intro q
        have:=ah j q;omega) (by simp[FC.ids,aa]) (by simp) (fun c hc=>by cases hc) (by simp only[abY];rw[e3,e4];omega) q2 (by rw[e3];omega)
      have qu:(⟨H1.next,.ae,L.kp,⟨at',[],0⟩⟩:FC)∈L.cs++[⟨H1.next,.ae,L.kp,⟨at',[],0⟩⟩]:=by simp
      obtain⟨PC,HW⟩:=f2.file _ qu
      have Dv:=PC.ld (o:=0) rfl
      have asB:∀ j∈aa y,j<H1.next:=fun j hj=>adi (hy.lt j hj) e2.1
      have yf:Rw H3 1 y (bs b):=((hy.out e2 fun j hj q=>Iv j hj (by rw[wc.1 q];exact St.rL)).out n3 fun j _ q=>by cases q).out f3 fun j hj q=>Iv j hj (by rw[wc.1 q];exact St.nV)
      have Ge:([]:List AV).length+(bs b).length<=16777216:=by
       rw[gO];simp only[abY];omega
      obtain⟨s',H4,a1,a2,a3,a4⟩:=wU (z:=[.int .u8 0]) (l:=[]) HW yf (zV b) (by omega) Ge
      rw[afE] at a2
      obtain⟨H5,p1,p2,p3,p4⟩:=f2.TA qu a3 a2 a4
      have Xi:L.cs++[(⟨H1.next,.ae,L.kp,⟨at',[],0⟩⟩:FC)]=L.cs++(⟨H1.next,.ae,L.kp,⟨at',[],0⟩⟩:FC)::[]:=rfl
      have fM:=f2.Ic (f:=⟨at',b,0⟩) Xi r3 (fun y hy=>by cases hy) rfl p3 (fun j hj=>hj) p2 p4 a4 (vZ _) (adf _) hb (by
       have:=f2.ED Xi r3 (fun y hy=>by cases hy) ⟨at',b,0⟩
       simp only[wD,ub,abY] at this ⊢
       rw[e3] at this ⊢
       rw[e4]
       have:dO ([]:List Fl)=0:=rfl
       omega)
      obtain⟨s1,s2⟩:=fM
      have tv:ea at' ⟨at',b,0⟩ ((gy m).fs++[(⟨at',[],0⟩:Fl)])=m.fs++[⟨at',b,0⟩]:=by
       rw[e3]
       have:m.fs++[(⟨at',[],0⟩:Fl)]=(L.cs++(⟨H1.next,.ae,L.kp,⟨at',[],0⟩⟩:FC)::[]).map (·.f):=by rw[h.fs,acJ];rfl
       rw[this,FA (at':=at') (x:=⟨H1.next,.ae,L.kp,⟨at',[],0⟩⟩) (b:=[]) rfl r3 (fun y hy=>by cases hy),h.fs];rfl
      refine⟨H5,_,BL ?_,by
       have:=s1
       simp only at this
       rw[tv] at this
       exact this,?_⟩
      ·unfold xX
       simp only[h0,zP,uk,d3,QQ,Jw,d4,b1,hB,sH,n1,ahw,f1,Dv,a1,p1,aN,bH,aL,aK,cj,aV,aJ,aG,aZ,aO,bh,cq,aS,cx,bV,bo,bR,aM,cg,br,aQ,bO,bu,cn,cu,bG,aW,bB,bk,aI,bA,bE,cB,aT,bf,bQ,cp,bd,bc,aR,bU,bP,bC,cz,cC,bK,cl,aA,bN,aD,cy,bW,aP,aU,bS,bT,cA,ba,cw,bY,bM,aF,bJ,bI,aH,ck,bq,bF,bD,bZ,aY,nq,gk,yS,aat,aag,decide_true,decide_false,Int.reduceBEq,Int.reduceBNe,Int.reduceLT,Int.reduceLE,Int.reduceGT,Int.reduceGE,Int.reduceNeg,ab2,bne_self_eq_false,ge_iff_le,gt_iff_lt]
      ·have g1:iw p H1 L H3 { L with cs:=L.cs++[⟨H1.next,.ae,L.kp,⟨at',[],0⟩⟩],kp:=L.kp+1 }:=by
        refine⟨(n3.mono fun j hj=>by cases hj).trans (f3.mono fun j hj=>by rw[wc.1 hj];exact St.nV),fun j hj => ?_⟩
        unfold dL at hj
        rw[afa] at hj
        rcases yL.1 hj with rfl | hj
        ·exact .inl St.rL
        rcases yL.1 hj with rfl | hj
        ·exact .inl St.nV
        rcases aal.1 hj with hj | hj
        ·exact .inl (St.ux hj)
        rcases aal.1 hj with hj | hj
        ·obtain⟨z,hz,hj⟩:=adI.1 hj
         exact .inl (St.lG hz hj)
        ·simp only[af2,List.flatMap_nil,afD,FC.ids,aa,wc] at hj
         exact .inr (by omega)
       exact (b3.trans g1).trans s2
end
section
variable {H:Hp}{p:Nat}{m:SM}{L:Lay}
def va (f:Fl)(fs:List Fl):List Fl:=if (fs.find? (fun g=>g.nm==f.nm)).isSome=true then ea f.nm f fs else fs++[f]
noncomputable def pq (m:SM)(a b:List Nat):Int × SM:=if dZ m a=11 then (11,m) else if iV b=false then (1,m) else if dZ m a≠0 then (dZ m a,m) else if lQ m=false then (11,gy m) else
 match look m a with | some f=>(0,{ gy m with fs:=va ⟨b,f.b,f.b.length⟩ (kc a m.fs) }) | none=>(0,m)
theorem alU (h:St H p m L)(at' lZ:List Nat):∃ H' L',cK (.func (.func 204) [] []) [.ptr p 0,.str at',.str lZ] H=some (.int .i64 (pq m at' lZ).1,H')/\St H' p (pq m at' lZ).2 L'/\iw p H L H' L':=by
 have h0:=AK h at'
 have hn:=LL lZ H
 by_cases Ct:dZ m at'=11
 ·have:pq m at' lZ=(11,m):=by unfold pq;rw[if_pos Ct]
  rw[this]
  refine⟨H,L,EW ?_,h,iw.refl _ _ _⟩
  unfold zI
  simp only[h0,Ct,aN,bH,aL,aK,cj,aV,aJ,aG,aZ,aO,bh,cq,aS,cx,bV,bo,bR,aM,cg,br,aQ,bO,bu,cn,cu,bG,aW,bB,bk,aI,bA,bE,cB,aT,bf,bQ,cp,bd,bc,aR,bU,bP,bC,cz,cC,bK,cl,aA,bN,aD,cy,bW,aP,aU,bS,bT,cA,ba,cw,bY,bM,aF,bJ,bI,aH,ck,bq,bF,bD,bZ,aY,nq,gk,yS,aat,aag,decide_true,decide_false,Int.reduceBEq,Int.reduceBNe,Int.reduceLT,Int.reduceLE,Int.reduceGT,Int.reduceGE,Int.reduceNeg,ab2,bne_self_eq_false,ge_iff_le,gt_iff_lt]
 have d11:(dZ m at'==11)=false:=by simpa using Ct
 cases lu:iV lZ with
 | false=>
  have:pq m at' lZ=(1,m):=by unfold pq;rw[if_neg Ct,if_pos lu]
  rw[this]
  refine⟨H,L,EW ?_,h,iw.refl _ _ _⟩
  unfold zI
  simp only[h0,d11,hn,lu,aN,bH,aL,aK,cj,aV,aJ,aG,aZ,aO,bh,cq,aS,cx,bV,bo,bR,aM,cg,br,aQ,bO,bu,cn,cu,bG,aW,bB,bk,aI,bA,bE,cB,aT,bf,bQ,cp,bd,bc,aR,bU,bP,bC,cz,cC,bK,cl,aA,bN,aD,cy,bW,aP,aU,bS,bT,cA,ba,cw,bY,bM,aF,bJ,bI,aH,ck,bq,bF,bD,bZ,aY,nq,gk,yS,aat,aag,decide_true,decide_false,Int.reduceBEq,Int.reduceBNe,Int.reduceLT,Int.reduceLE,Int.reduceGT,Int.reduceGE,Int.reduceNeg,ab2,bne_self_eq_false,ge_iff_le,gt_iff_lt]
 | true=>
 by_cases he:dZ m at'=0
 ·obtain⟨q1,q2,a,x,b,r1,r2,r3,r4,r5,r6,hx,hf⟩:=h.Fs he
  obtain⟨H1,L1,b1,b2,b3,b4⟩:=Ka h
  cases hB:lQ m with
  | false=>
   have:pq m at' lZ=(11,gy m):=by unfold pq;rw[if_neg Ct,if_neg (by simp[lu]),if_neg (by simp[he]),if_pos hB]
   rw[this]
   refine⟨H1,L1,EW ?_,b2,b3⟩
   unfold zI
   simp only[h0,he,q1,q2,hn,lu,b1,hB,abZ,agL,or_self,if_false,aN,bH,aL,aK,cj,aV,aJ,aG,aZ,aO,bh,cq,aS,cx,bV,bo,bR,aM,cg,br,aQ,bO,bu,cn,cu,bG,aW,bB,bk,aI,bA,bE,cB,aT,bf,bQ,cp,bd,bc,aR,bU,bP,bC,cz,cC,bK,cl,aA,bN,aD,cy,bW,aP,aU,bS,bT,cA,ba,cw,bY,bM,aF,bJ,bI,aH,ck,bq,bF,bD,bZ,aY,nq,gk,yS,aat,aag,decide_true,decide_false,Int.reduceBEq,Int.reduceBNe,Int.reduceLT,Int.reduceLE,Int.reduceGT,Int.reduceGE,Int.reduceNeg,ab2,bne_self_eq_false,ge_iff_le,gt_iff_lt]
  | true=>
   obtain⟨e1,e2,e3,e4,e5,e6⟩:=b4 hB
   rw[e1] at b2 b3
   obtain⟨rW,uC⟩:=b2.file x hx
   have hl:=rW.ld (o:=0) rfl
   have hlen:=uC.rw.gV
   rw[gO] at hlen
   obtain⟨H2,c1,c2,c3,c4⟩:=Sa (t:=(x.f.b.length:Int)) rW uC (b2.Mu hx)
   have ra:∀ y∈a,y.f.nm≠x.f.nm:=by rw[r2];exact r3
   have rb:∀ y∈b,y.f.nm≠x.f.nm:=by rw[r2];exact r4
   obtain⟨s1,s2⟩:=b2.Ic (f:=⟨x.f.nm,x.f.b,x.f.b.length⟩) r1 ra rb rfl c3 (fun j hj=>by rw[wc.1 hj];exact .head _) c2 c4 (fun j hj => .inl hj) (vZ _) (aar _) (h.ok.byte x.f hf) (by
    have:=b2.ED r1 ra rb ⟨x.f.nm,x.f.b,x.f.b.length⟩
    have:=b2.ok.sum
    simp only at *;omega)
   have nK:=s1.zT
   obtain⟨H3,d1,d2,d3,d4,d5,d6,d7⟩:=s1.abR (a:=a) (b:=b) (x:=⟨x.id,x.sl,x.born,⟨x.f.nm,x.f.b,x.f.b.length⟩⟩) rfl ra rb
   have zj:kc x.f.nm (ea x.f.nm ⟨x.f.nm,x.f.b,x.f.b.length⟩ (gy m).fs)=kc at' m.fs:=by
    rw[e3,h.fs,r1,FA rfl ra rb,HX r2 r3 r4]
    have:a.map (·.f)++(⟨x.f.nm,x.f.b,x.f.b.length⟩:Fl)::b.map (·.f)=(a++(⟨x.id,x.sl,x.born,⟨x.f.nm,x.f.b,x.f.b.length⟩⟩:FC)::b).map (·.f):=by rw[acJ,ab8]
    rw[this,HX (x:=⟨x.id,x.sl,x.born,⟨x.f.nm,x.f.b,x.f.b.length⟩⟩) rfl ra rb]
   simp only at d1 d2
   rw[zj] at d2
   have Iz:=d2.zT
   have Kp:pq m at' lZ=(0,{ gy m with fs:=va ⟨lZ,x.f.b,x.f.b.length⟩ (kc at' m.fs) }):=by
    unfold pq;rw[if_neg Ct,if_neg (by simp[lu]),if_neg (by simp[he]),if_neg (by simp[hB]),r6]
   have asp:dO (kc at' m.fs)+x.f.b.length=dO m.fs:=by
    rw[h.fs,r1,HX r2 r3 r4,acJ,acJ,ab8,wD,wD,ub];omega
   have amW:(kc at' m.fs).length<64:=by
    have h1:=h.ok.many
    rw[h.fs,r1] at h1 ⊢
    rw[HX r2 r3 r4]
    simp only[adg,abz,abn] at h1 ⊢
    omega
   have asv:=h.ok.sum
   rw[r2] at d1
   have g3:=(b3.trans s2).trans d3
   rcases d2.ER lZ with⟨t1,t2,t3⟩ | ⟨a',y,b',t1,t2,t3,t4,t5,t6⟩
   ·obtain⟨H4,f1,f2,f3⟩:=d2.UJ (id:=x.id) (sl:=x.sl) (f:=⟨lZ,x.f.b,x.f.b.length⟩) t3 d4 d5 d6 d7 (aar _) (h.ok.byte x.f hf) (by simp only;rw[e4];omega) lu amW
    have Oz:va ⟨lZ,x.f.b,x.f.b.length⟩ (kc at' m.fs)=kc at' m.fs++[⟨lZ,x.f.b,x.f.b.length⟩]:=by
     unfold va
     have:(kc at' m.fs).find? (fun g=>g.nm==lZ)=none:=t2
     simp only[this];rfl
    rw[Kp,Oz]
    refine⟨H4,_,EW ?_,f2,g3.1.trans (f3.mono fun j hj=>by rw[wc.1 hj];exact St.nV (L:=L)),fun j hj => ?_⟩
    ·unfold zI
     simp only[h0,he,q1,q2,hn,lu,b1,hB,r5,hl,hlen,c1,nK,d1,Iz,f1,abZ,agL,or_self,if_false,aN,bH,aL,aK,cj,aV,aJ,aG,aZ,aO,bh,cq,aS,cx,bV,bo,bR,aM,cg,br,aQ,bO,bu,cn,cu,bG,aW,bB,bk,aI,bA,bE,cB,aT,bf,bQ,cp,bd,bc,aR,bU,bP,bC,cz,cC,bK,cl,aA,bN,aD,cy,bW,aP,aU,bS,bT,cA,ba,cw,bY,bM,aF,bJ,bI,aH,ck,bq,bF,bD,bZ,aY,nq,gk,yS,aat,aag,decide_true,decide_false,Int.reduceBEq,Int.reduceBNe,Int.reduceLT,Int.reduceLE,Int.reduceGT,Int.reduceGE,Int.reduceNeg,ab2,bne_self_eq_false,ge_iff_le,gt_iff_lt]
    ·unfold dL at hj
     rw[afa] at hj
     rcases yL.1 hj with rfl | hj
     ·exact .inl St.rL
     rcases yL.1 hj with rfl | hj
     ·exact .inl St.nV
     rcases aal.1 hj with hj | hj
     ·exact .inl (St.ux hj)
     rcases aal.1 hj with hj | hj
     ·obtain⟨z,hz,hj⟩:=adI.1 hj
      exact g3.2 j (St.lG (L:={ L with cs:=a++b }) hz hj)
     ·simp only[af2,List.flatMap_nil,afD] at hj
      exact .inl (St.lG hx hj)
   ·have hsy:=d2.ED t1 (by rw[t2];exact t3) (by rw[t2];exact t4) ⟨lZ,x.f.b,x.f.b.length⟩
    obtain⟨H4,f1,f2,f3⟩:=d2.arx t1 (id:=x.id) (sl:=x.sl) (f:=⟨lZ,x.f.b,x.f.b.length⟩) t2.symm (by rw[t2];exact t3) (by rw[t2];exact t4) d4 d5 d6 d7 (aar _) (h.ok.byte x.f hf) (by simp only at hsy ⊢;rw[e4];omega)
    have Oz:va ⟨lZ,x.f.b,x.f.b.length⟩ (kc at' m.fs)=ea y.f.nm ⟨lZ,x.f.b,x.f.b.length⟩ (kc at' m.fs):=by
     unfold va
     have:(kc at' m.fs).find? (fun g=>g.nm==lZ)=some y.f:=t6
     simp only[this,t2];rfl
    rw[Kp,Oz]
    refine⟨H4,_,EW ?_,f2,g3.1.trans (f3.mono fun j hj=>by rw[wc.1 hj];exact St.nV (L:=L)),fun j hj => ?_⟩
    ·unfold zI
     simp only[h0,he,q1,q2,hn,lu,b1,hB,r5,hl,hlen,c1,nK,d1,Iz,f1,abZ,agL,or_self,if_false,aN,bH,aL,aK,cj,aV,aJ,aG,aZ,aO,bh,cq,aS,cx,bV,bo,bR,aM,cg,br,aQ,bO,bu,cn,cu,bG,aW,bB,bk,aI,bA,bE,cB,aT,bf,bQ,cp,bd,bc,aR,bU,bP,bC,cz,cC,bK,cl,aA,bN,aD,cy,bW,aP,aU,bS,bT,cA,ba,cw,bY,bM,aF,bJ,bI,aH,ck,bq,bF,bD,bZ,aY,nq,gk,yS,aat,aag,decide_true,decide_false,Int.reduceBEq,Int.reduceBNe,Int.reduceLT,Int.reduceLE,Int.reduceGT,Int.reduceGE,Int.reduceNeg,ab2,bne_self_eq_false,ge_iff_le,gt_iff_lt]
    ·unfold dL at hj
     rw[afa,af2] at hj
     have mz:∀ z,z∈a'\/z∈b'->z∈a++b:=fun z hz=>by
      have Rc:a++b=a'++y::b':=t1
      rw[Rc]
      rcases hz with q | q
      ·exact aaI _ q
      ·exact yX _ (.tail _ q)
     rcases yL.1 hj with rfl | hj
     ·exact .inl St.rL
     rcases yL.1 hj with rfl | hj
     ·exact .inl St.nV
     rcases aal.1 hj with hj | hj
     ·exact .inl (St.ux hj)
     rcases aal.1 hj with hj | hj
     ·obtain⟨z,hz,hj⟩:=adI.1 hj
      exact g3.2 j (St.lG (L:={ L with cs:=a++b }) (mz z (.inl hz)) hj)
     rcases aal.1 hj with hj | hj
     ·exact .inl (St.lG hx hj)
     ·obtain⟨z,hz,hj⟩:=adI.1 hj
      exact g3.2 j (St.lG (L:={ L with cs:=a++b }) (mz z (.inr hz)) hj)
 ·have:pq m at' lZ=(dZ m at',m):=by unfold pq;rw[if_neg Ct,if_neg (by simp[lu]),if_pos he]
  rw[this]
  refine⟨H,L,EW ?_,h,iw.refl _ _ _⟩
  unfold zI
  simp only[h0,d11,hn,lu,RT he,aN,bH,aL,aK,cj,aV,aJ,aG,aZ,aO,bh,cq,aS,cx,bV,bo,bR,aM,cg,br,aQ,bO,bu,cn,cu,bG,aW,bB,bk,aI,bA,bE,cB,aT,bf,bQ,cp,bd,bc,aR,bU,bP,bC,cz,cC,bK,cl,aA,bN,aD,cy,bW,aP,aU,bS,bT,cA,ba,cw,bY,bM,aF,bJ,bI,aH,ck,bq,bF,bD,bZ,aY,nq,gk,yS,aat,aag,decide_true,decide_false,Int.reduceBEq,Int.reduceBNe,Int.reduceLT,Int.reduceLE,Int.reduceGT,Int.reduceGE,Int.reduceNeg,ab2,bne_self_eq_false,ge_iff_le,gt_iff_lt]
end
theorem Ul (H:Hp)(room:Int):(room<1\/16777216<room->cK (.func (.func 24) [] []) [.int .i64 room] H=some (.tuple [.aC,.int .i64 1],H))/\
  ∀ r:Nat,room=r->1<=r->r<=16777216->∃ H' p L,cK (.func (.func 24) [] []) [.int .i64 room] H=some (.tuple [.ptr p 0,.int .i64 0],H')/\St H' p ⟨r,false,0,[],[]⟩ L/\Out [] H H'/\∀ j∈dL p L,H.next<=j:=by
 constructor
 ·intro h
  refine aa1 ?_
  unfold Ou
  by_cases h1:room<1
  ·simp only[decide_eq_true h1,aN,bH,aL,aK,cj,aV,aJ,aG,aZ,aO,bh,cq,aS,cx,bV,bo,bR,aM,cg,br,aQ,bO,bu,cn,cu,bG,aW,bB,bk,aI,bA,bE,cB,aT,bf,bQ,cp,bd,bc,aR,bU,bP,bC,cz,cC,bK,cl,aA,bN,aD,cy,bW,aP,aU,bS,bT,cA,ba,cw,bY,bM,aF,bJ,bI,aH,ck,bq,bF,bD,bZ,aY,nq,gk,yS,aat,aag,decide_true,decide_false,Int.reduceBEq,Int.reduceBNe,Int.reduceLT,Int.reduceLE,Int.reduceGT,Int.reduceGE,Int.reduceNeg,ab2,bne_self_eq_false,ge_iff_le,gt_iff_lt]
  ·simp only[decide_eq_false h1,decide_eq_true (show (16777216:Int)<room by omega),aN,bH,aL,aK,cj,aV,aJ,aG,aZ,aO,bh,cq,aS,cx,bV,bo,bR,aM,cg,br,aQ,bO,bu,cn,cu,bG,aW,bB,bk,aI,bA,bE,cB,aT,bf,bQ,cp,bd,bc,aR,bU,bP,bC,cz,cC,bK,cl,aA,bN,aD,cy,bW,aP,aU,bS,bT,cA,ba,cw,bY,bM,aF,bJ,bI,aH,ck,bq,bF,bD,bZ,aY,nq,gk,yS,aat,aag,decide_true,decide_false,Int.reduceBEq,Int.reduceBNe,Int.reduceLT,Int.reduceLE,Int.reduceGT,Int.reduceGE,Int.reduceNeg,ab2,bne_self_eq_false,ge_iff_le,gt_iff_lt]
 ·intro r hr h1 h2
  subst hr
  obtain⟨H1,a1,a2,a3,a4⟩:=Mj H
  have sH:fl [(.int .i64 0),.iF,(.bool false),(.int .i64 0),.ae] [(0,1,AV.int .i64 (r:Int)),(1,1,(.map H.next))]=some [.int .i64 (r:Int),.map H.next,.bool false,.int .i64 ((0:Nat):Int),.ae]:=rfl
  obtain⟨H2,b1,b2,b3,b4⟩:=jP H1 106 (.agg [.int .i64 (r:Int),.map H.next,.bool false,.int .i64 ((0:Nat):Int),.ae]) _ rfl (by simp)
  have vJ:=a2.out b3 fun q=>by cases q
  refine⟨H2,H1.next,⟨H.next,0,.ae,[]⟩,aa1 ?_,⟨⟨_,b2⟩,vJ,(fun x hx=>by cases hx),.nil,?_,rfl,rfl,⟨h2,adf _,(fun f hf=>by cases hf),(fun f hf=>by cases hf),by simp,List.nodup_nil,(fun f hf=>by cases hf),by simp⟩⟩,a3.trans b3,fun j hj => ?_⟩
  ·unfold Ou
   simp only[decide_eq_false (show ¬ (r:Int)<1 by omega),decide_eq_false (show ¬ (16777216:Int)<(r:Int) by omega),a1,sH,b1,aN,bH,aL,aK,cj,aV,aJ,aG,aZ,aO,bh,cq,aS,cx,bV,bo,bR,aM,cg,br,aQ,bO,bu,cn,cu,bG,aW,bB,bk,aI,bA,bE,cB,aT,bf,bQ,cp,bd,bc,aR,bU,bP,bC,cz,cC,bK,cl,aA,bN,aD,cy,bW,aP,aU,bS,bT,cA,ba,cw,bY,bM,aF,bJ,bI,aH,ck,bq,bF,bD,bZ,aY,nq,gk,yS,aat,aag,decide_true,decide_false,Int.reduceBEq,Int.reduceBNe,Int.reduceLT,Int.reduceLE,Int.reduceGT,Int.reduceGE,Int.reduceNeg,ab2,bne_self_eq_false,ge_iff_le,gt_iff_lt]
  ·simp only[dL,aa,List.flatMap_nil,afD,acB,wc,List.not_mem_nil,not_false_eq_true,List.nodup_nil,and_true]
   omega
  ·simp only[dL,aa,List.flatMap_nil,afD,yL,List.not_mem_nil,or_false] at hj
   omega
end Go.Proofs.YtehhgkgeldinkaaGreatDoor.iX
namespace Go.Proofs.YtehhgkgeldinkaaGreatDoor.jU
open Go Am Am.K jn dg
theorem Lz {a b:Nat}(hb:0<b):rE (.int .i64 (a:Int)) (.int .i64 (b:Int))=some (.int .i64 ((a % b:Nat):Int)):=by
 rw[aq4 _ _ _ (by omega)];rfl
theorem xA {a b:Nat}(h:a+b<=9223372036854775807):dj (.int .i64 (a:Int)) (.int .i64 (b:Int))=some (.int .i64 ((a+b:Nat):Int)):=by
 rw[aA,wrap_i64 (by omega) (by omega)];rfl
theorem Aw {a:Nat}(h:a<=9223372036854775807):IntKind.wrap .i64 (a:Int)=a:=wrap_i64 (by omega) (by omega)
def pr (s:Nat):Nat × Nat:=(s % 65536,s / 65536)
def sm (p:Nat × Nat):Nat:=p.2*65536+p.1
def ad (p:Nat × Nat)(v:Nat):Nat × Nat:=((p.1+v) % 65521,(p.2+(p.1+v) % 65521) % 65521)
def gd (s:Nat):Bool:=decide (s % 65536<65521)&&decide (s / 65536<65521)
def lL (s:Nat)(l:List Nat):Nat:=sm (l.foldl ad (pr s))
theorem IU:∀ (l:List Nat) (p:Nat × Nat),p.1<65521->p.2<65521->(l.foldl ad p).1<65521/\(l.foldl ad p).2<65521
 | [],p,h,k=>⟨h,k⟩
 | v::l,p,h,k=>IU l (ad p v) (ah1 _ (by decide)) (ah1 _ (by decide))
theorem Hz {s:Nat}(h:gd s=true):(pr s).1<65521/\(pr s).2<65521:=by
 unfold gd at h
 rw[zf] at h
 exact⟨of_decide_eq_true h.1,of_decide_eq_true h.2⟩
theorem abr {s:Nat}(h:gd s=true)(l:List Nat):lL s l<4294967296/\gd (lL s l)=true:=by
 obtain⟨a,b⟩:=IU l (pr s) (Hz h).1 (Hz h).2
 unfold lL sm gd
 refine⟨by omega,?_⟩
 simp
 omega
theorem aiC {s:Nat}(h:gd s=true)(a b:List Nat):lL (lL s a) b=lL s (a++b):=by
 obtain⟨x,y⟩:=IU a (pr s) (Hz h).1 (Hz h).2
 have e:pr (lL s a)=a.foldl ad (pr s):=by
  unfold lL sm pr
  refine Prod.ext ?_ ?_<;>simp only<;>unfold pr at x y<;>omega
 unfold lL
 rw[List.foldl_append]
 unfold lL at e
 rw[e]
theorem Yr {H:Hp}(s:Nat)(h:s<4294967296):cK (.func (.func 270) [] []) [.int .u32 s] H=some (.tuple [.int .i64 ((pr s).1:Nat),.int .i64 ((pr s).2:Nat)],H):=by
 refine ae5 ?_
 unfold WM
 have e1:tR (.int .u32 (s:Int)) (.int .u32 65535)=some (.int .u32 ((s % 65536:Nat):Int)):=S2 (m:=16) h (by decide) (qw rfl (adi (ah1 _ (by decide)) (by decide)))
 have e2:ue (.int .u32 (s:Int)) (.int .u64 16)=some (.int .u32 ((s / 65536:Nat):Int)):=TV (b:=16)
 have w1:=Aw (a:=s % 65536) (by omega)
 have w2:=Aw (a:=s / 65536) (by omega)
 simp only[e1,e2,w1,w2,pr,aj,ak,Int.reduceBEq,Int.reduceBNe,Int.reduceLT,Int.reduceLE,Int.reduceGT,Int.reduceGE,Int.reduceNeg]
theorem MR {H:Hp}(p:Nat × Nat)(h1:p.1<65521)(h2:p.2<65521):cK (.func (.func 271) [] []) [.int .i64 (p.1:Nat),.int .i64 (p.2:Nat)] H=some (.int .u32 ((sm p:Nat):Int),H):=by
 obtain⟨a,c⟩:=p
 simp only at h1 h2
 refine agl ?_
 unfold YU
 have r:∀ x:Nat,x<65521->rE (.int .i64 (x:Int)) (.int .i64 65521)=some (.int .i64 (x:Int)):=fun x hx=>by
  have:=Lz (a:=x) (b:=65521) (by decide)
  rw[aeE hx] at this
  exact this
 have d:∀ x:Nat,x<65521->dj (.int .i64 (x:Int)) (.int .i64 65521)=some (.int .i64 ((x+65521:Nat):Int)):=fun x hx=>xA (b:=65521) (by omega)
 have r2:∀ x:Nat,x<65521->rE (.int .i64 ((x+65521:Nat):Int)) (.int .i64 65521)=some (.int .i64 (x:Int)):=fun x hx=>by
  have:=Lz (a:=x+65521) (b:=65521) (by decide)
  rw[Nat.add_mod_right,aeE hx] at this
  exact this
 have w:∀ x:Nat,x<65521->IntKind.wrap .u32 (x:Int)=x:=fun x hx=>qw rfl (Nat.lt_trans hx (by decide))
 have e4:sN (.int .u32 (c:Int)) (.int .u64 16)=some (.int .u32 ((c*65536:Nat):Int)):=by
  have:=Jb (k := .u32) (j := .u64) (a:=c) (b:=16)
  rw[qw rfl (show c*2 ^ min 16 IntKind.u32.bits<2 ^ IntKind.u32.bits by show c*65536<4294967296;omega)] at this
  exact this
 have e9:qF (.int .u32 ((c*65536:Nat):Int)) (.int .u32 (a:Int))=some (.int .u32 ((c*65536+a:Nat):Int)):=by
  have ho:c*65536 ||| a=c*65536+a:=by
   rw[Nat.or_comm]
   exact Ri (i:=16) (Nat.lt_trans h1 (by decide))
  have:=Nx (k := .u32) (a:=c*65536) (b:=a) (by show c*65536<4294967296;omega) (by show a<4294967296;omega) (by rw[ho];exact qw rfl (by show c*65536+a<4294967296;omega))
  rw[ho] at this
  exact this
 simp only[r a h1,r c h2,d a h1,d c h2,r2 a h1,r2 c h2,w a h1,w c h2,e4,e9,sm,aj,ak,Int.reduceBEq,Int.reduceBNe,Int.reduceLT,Int.reduceLE,Int.reduceGT,Int.reduceGE,Int.reduceNeg]
theorem ajJ {H:Hp}(s:Nat)(h:s<4294967296):cK (.func (.func 269) [] []) [.int .u32 s] H=some (.bool (gd s),H):=by
 refine adD ?_
 unfold T8
 have e:=Yr (H:=H) s h
 have d1:decide (((s % 65536:Nat):Int)<65521)=decide (s % 65536<65521):=decide_eq_decide.2 (by omega)
 have d2:decide (((s / 65536:Nat):Int)<65521)=decide (s / 65536<65521):=decide_eq_decide.2 (by omega)
 unfold pr at e
 unfold gd
 simp only at e
 generalize decide (s % 65536<65521)=x at *
 generalize decide (s / 65536<65521)=y at *
 cases x<;>simp only[e,d1,d2,Bool.true_and,ai7,aj,ak,Int.reduceBEq,Int.reduceBNe,Int.reduceLT,Int.reduceLE,Int.reduceGT,Int.reduceGE,Int.reduceNeg]
theorem acb {k:K.Fn 2}{H:Hp}{x:AV}{l:List Nat}(hx:Rw H 1 x (bs l))(hb:∀ b∈l,b<256)(hl:l.length<=4294967296):∀ (r:List Nat) (i:Nat) (p:Nat × Nat),l.drop i=r->p.1<65521->p.2<65521->
  Gp JN GO cK k (.int .i64 (p.1:Nat)) (.int .i64 (p.2:Nat)) x (.int .i64 (l.length:Nat)) (.int .i64 (i:Nat)) H=k (.int .i64 ((r.foldl ad p).1:Nat)) (.int .i64 ((r.foldl ad p).2:Nat)) H
 | [],i,p,hr,h1,h2=>by
  rw[U3]
  have:l.length<=i:=by simpa using hr
  have d:decide (((i:Nat):Int)<((l.length:Nat):Int))=false:=decide_eq_false (by omega)
  simp only[OY,d,List.foldl_nil,aj,ak,Int.reduceBEq,Int.reduceBNe,Int.reduceLT,Int.reduceLE,Int.reduceGT,Int.reduceGE,Int.reduceNeg]
 | v::r,i,p,hr,h1,h2=>by
  have hi:i<l.length:=by
   rcases ahB i l.length with h | h
   ·exact h
   ·rw[afn h] at hr;cases hr
  have hv:l[i]? = some v:=by
   have:=congrArg (fun z=>z[0]?) hr
   simpa using this
  have eg:l.drop (i+1)=r:=by
   rw[<-aib,hr];rfl
  have cQ:(bs l)[i]? = some (.int .u8 (v:Int)):=by simp[bs,hv]
  have xz:=hb v (acx hv)
  obtain⟨q,q1,q2⟩:=hx.lA cQ .i64
  have d:decide (((i:Nat):Int)<((l.length:Nat):Int))=true:=decide_eq_true (by omega)
  have w1:=Aw (a:=v) (by omega)
  have a1:=xA (a:=p.1) (b:=v) (by omega)
  have m1:=Lz (a:=p.1+v) (b:=65521) (by decide)
  have hm:=ah1 (p.1+v) (show 0<65521 by decide)
  have a2:=xA (a:=p.2) (b:=(p.1+v) % 65521) (by omega)
  have m2:=Lz (a:=p.2+(p.1+v) % 65521) (b:=65521) (by decide)
  have a3:=xA (a:=i) (b:=1) (by omega)
  have ih:=acb (k:=k) hx hb hl r (i+1) (ad p v) eg (ah1 _ (by decide)) (ah1 _ (by decide))
  rw[U3]
  rw[show (((65521:Nat):Int))=65521 from rfl] at m1 m2
  rw[show (((1:Nat):Int))=1 from rfl] at a3
  simp only[aA] at a1 a2 a3
  simp only[OY,d,q1,q2,w1,a1,m1,a2,m2,a3,aj,ak,Int.reduceBEq,Int.reduceBNe,Int.reduceLT,Int.reduceLE,Int.reduceGT,Int.reduceGE,Int.reduceNeg]
  exact ih
theorem Sk {H:Hp}{x:AV}{l:List Nat}(hx:Rw H 1 x (bs l))(hb:∀ b∈l,b<256)(hl:l.length<=4294967296){s:Nat}(hs:s<4294967296)(hg:gd s=true) :
  cK (.func (.func 218) [] []) [.int .u32 s,x] H=some (.tuple [.int .u32 ((lL s l:Nat):Int),.bool true],H):=by
 refine aru ?_
 unfold UY
 have e1:=ajJ (H:=H) s hs
 rw[hg] at e1
 have e2:=Yr (H:=H) s hs
 have hn:=hx.gV
 rw[gO] at hn
 have hp:=Hz hg
 have hf:=IU l (pr s) hp.1 hp.2
 have e3:=MR (H:=H) (l.foldl ad (pr s)) hf.1 hf.2
 have lp:=fun (k:K.Fn 2)=>acb (k:=k) hx hb hl l 0 (pr s) rfl hp.1 hp.2
 rw[show (((0:Nat):Int))=0 from rfl] at lp
 simp only[e1,e2,hn,lp,e3,lL,aj,ak,Int.reduceBEq,Int.reduceBNe,Int.reduceLT,Int.reduceLE,Int.reduceGT,Int.reduceGE,Int.reduceNeg]
theorem AK {H:Hp}{x:AV}{l:List Nat}(hx:Rw H 1 x (bs l))(hb:∀ b∈l,b<256)(hl:l.length<=4294967296) :
  cK (.func (.func 219) [] []) [x] H=some (.int .u32 ((lL 1 l:Nat):Int),H):=by
 refine amd ?_
 unfold Zn
 have e1:=Sk hx hb hl (s:=1) (by decide) (by decide)
 rw[show (((1:Nat):Int))=1 from rfl] at e1
 simp only[e1,aj,ak,Int.reduceBEq,Int.reduceBNe,Int.reduceLT,Int.reduceLE,Int.reduceGT,Int.reduceGE,Int.reduceNeg]
theorem CX {H:Hp}(s:Nat)(h:s<18446744073709551616):cK (.func (.func 173) [] []) [.int .u64 s] H=some (.int .i64 ((s % 17592186044416:Nat):Int),H):=by
 refine ak9 ?_
 unfold ZW
 have e1:tR (.int .u64 (s:Int)) (.int .u64 17592186044415)=some (.int .u64 ((s % 17592186044416:Nat):Int)):=S2 (m:=44) h (by decide) (qw rfl (adi (ah1 _ (by decide)) (by decide)))
 have w1:=Aw (a:=s % 17592186044416) (by omega)
 simp only[e1,w1,aj,ak,Int.reduceBEq,Int.reduceBNe,Int.reduceLT,Int.reduceLE,Int.reduceGT,Int.reduceGE,Int.reduceNeg]
theorem aoN {H:Hp}(s:Nat)(h:s<18446744073709551616):cK (.func (.func 70) [] []) [.int .u64 s] H=some (.int .i64 ((s / 17592186044416:Nat):Int),H):=by
 refine aqI ?_
 unfold UI
 have e1:ue (.int .u64 (s:Int)) (.int .u64 44)=some (.int .u64 ((s / 17592186044416:Nat):Int)):=TV (b:=44)
 have w1:=Aw (a:=s / 17592186044416) (by omega)
 simp only[e1,w1,aj,ak,Int.reduceBEq,Int.reduceBNe,Int.reduceLT,Int.reduceLE,Int.reduceGT,Int.reduceGE,Int.reduceNeg]
theorem aqR (n:Nat)(h:n<18446744073709551616):lr .i64 (IntKind.wrap .i64 (n:Int))=n:=by
 unfold lr IntKind.wrap
 simp[IntKind.bits,IntKind.signed]
 omega
theorem aq2 (n:Nat)(h:n<18446744073709551616):IntKind.wrap .u64 (IntKind.wrap .i64 (n:Int))=n:=by
 unfold IntKind.wrap
 simp[IntKind.bits,IntKind.signed]
 omega
theorem apL {H:Hp}(e o:Nat)(he:e<=1048575)(ho:o<=17592186044415):cK (.func (.func 262) [] []) [.int .i64 e,.int .i64 o] H=some (.tuple [.int .u64 ((e*17592186044416+o:Nat):Int),.bool true],H):=by
 refine anc ?_
 unfold Uk
 have d1:decide (((e:Nat):Int)<0)=false:=decide_eq_false (by omega)
 have d2:decide (1048575<((e:Nat):Int))=false:=decide_eq_false (by omega)
 have d3:decide (((o:Nat):Int)<0)=false:=decide_eq_false (by omega)
 have d4:decide (17592186044415<((o:Nat):Int))=false:=decide_eq_false (by omega)
 have hh:e*17592186044416 ||| o=e*17592186044416+o:=by
  rw[Nat.or_comm]
  exact Ri (i:=44) (Nat.lt_of_le_of_lt ho (by decide))
 have e1:sN (.int .i64 (e:Int)) (.int .u64 44)=some (.int .i64 (IntKind.wrap .i64 ((e*17592186044416:Nat):Int))):=Jb (k := .i64) (j := .u64) (a:=e) (b:=44)
 have e2:qF (.int .i64 (IntKind.wrap .i64 ((e*17592186044416:Nat):Int))) (.int .i64 (o:Int))=some (.int .i64 (IntKind.wrap .i64 ((e*17592186044416+o:Nat):Int))):=by
  rw[<-hh]
  have q:=GJ (k := .i64) (n:=o) (by show o<18446744073709551616;omega)
  unfold qF ii
  simp only[if_true,aqR (e*17592186044416) (by omega),q]
 have w1:=aq2 (e*17592186044416+o) (by omega)
 simp only[d1,d2,d3,d4,e1,e2,w1,aj,ak,Int.reduceBEq,Int.reduceBNe,Int.reduceLT,Int.reduceLE,Int.reduceGT,Int.reduceGE,Int.reduceNeg]
def le:Nat->Nat->List Nat
 | 0,_=>[]
 | n+1,v=>v % 256::le n (v / 256)
def ud:List Nat->Nat
 | []=>0
 | v::r=>v+256*ud r
theorem GM:∀ n v,(le n v).length=n
 | 0,v=>rfl
 | n+1,v=>by simp[le,GM n]
theorem KO:∀ n v,∀ b∈le n v,b<256
 | 0,v,b,h=>by cases h
 | n+1,v,b,h=>by
  rcases yL.1 h with rfl | h
  ·exact ah1 _ (by decide)
  ·exact KO n _ b h
theorem fl1 (v:AV)(hv:jX v=some [v]):fl [.int .u8 0] [(0,1,v)]=some [v]:=by
 simp[fl,hv]
theorem WV:∀ n,rep n [.int .u8 0]=List.replicate n (AV.int .u8 0)
 | 0=>rfl
 | n+1=>by
  have ih:=WV n
  unfold rep at ih ⊢
  rw[agH,af4,ih,agH]
  rfl
theorem aqA (n:Nat)(H:Hp)(hn:((n:Nat):Int)<16777216):tC 1 [.int .u8 0] true (.int .i64 (n:Nat)) H=some (n,List.replicate n (AV.int .u8 0)):=by
 have hc:(0:Int)<=(n:Nat)/\((n:Nat):Int)<16777216:=⟨Int.natCast_nonneg n,hn⟩
 simp only[tC]
 rw[if_pos hc,aeq,WV]
theorem agF {es n:Nat}{z:List AV}{il:Bool}{x:AV}{H:Hp}{new:List AV}(el:Nat)(s:AV)(h:tC es z il x H=some (n,new)):fZ el es z il s x H=AS el es n new s H:=by
 unfold fZ
 rw[h]
theorem ap5 {H:Hp}{el n:Nat}{s:AV}{l:List AV}(h:Ow H el 1 s l)(hlen:l.length+n<=16777215) :
  ∃ s' H',fZ el 1 [.int .u8 0] true s (.int .i64 (n:Nat)) H=some (s',H')/\Ow H' el 1 s' (l++List.replicate n (.int .u8 0))/\Out (aa s) H H'/\(∀ j∈aa s',j∈aa s\/H.next<=j):=by
 have Dv:(List.replicate n (AV.int .u8 0)).length=n*1:=by rw[aeg,adQ]
 have lb:l.length+(List.replicate n (AV.int .u8 0)).length<=16777216:=by rw[aeg];omega
 have ho:∀ v∈List.replicate n (AV.int .u8 0),db v=true:=by
  intro v hv
  rw[List.eq_of_mem_replicate hv]
  rfl
 obtain⟨s',H',h1,h2⟩:=Es (n:=n) h Dv ho (by omega) lb
 exact⟨s',H',(agF el s (aqA n H (by omega))).trans h1,h2⟩
theorem abl {v n:Nat}(hv:v<18446744073709551616)(hn:n<=8){k:K.Fn 1}:∀ (r i:Nat) (s:AV) (l:List Nat) (H:Hp),i+r=n->Ow H 5 1 s (bs l)->(∀ j∈aa s,j<H.next)->l.length+r<=1000000->
  ∃ s' H',F3 JN GO cK k s (.int .u64 v) (.int .i64 n) (.int .i64 i) H=k s' H'/\Ow H' 5 1 s' (bs (l++le r (v / 256 ^ i)))/\Out (aa s) H H'/\(∀ j∈aa s',j∈aa s\/H.next<=j)
 | 0,i,s,l,H,hi,hs,ah,hl=>by
  refine⟨s,H,?_,?_,Out.refl _ _,fun j hj => .inl hj⟩
  ·rw[U1]
   have d:decide (((i:Nat):Int)<((n:Nat):Int))=false:=decide_eq_false (by omega)
   simp only[TI,d,aN,bH,aL,aK,cj,aV,aJ,aG,aZ,aO,bh,cq,aS,cx,bV,bo,bR,aM,cg,br,aQ,bO,bu,cn,cu,bG,aW,bB,bk,aI,bA,bE,cB,aT,bf,bQ,cp,bd,bc,aR,bU,bP,bC,cz,cC,bK,cl,aA,bN,aD,cy,bW,aP,aU,bS,bT,cA,ba,cw,bY,bM,aF,bJ,bI,aH,ck,bq,bF,bD,bZ,aY,nq,gk,yS,aat,aag,decide_true,decide_false,Int.reduceBEq,Int.reduceBNe,Int.reduceLT,Int.reduceLE,Int.reduceGT,Int.reduceGE,Int.reduceNeg,ab2,bne_self_eq_false,ge_iff_le,gt_iff_lt]
  ·rw[le,afD];exact hs
 | r+1,i,s,l,H,hi,hs,ah,hl=>by
  have d:decide (((i:Nat):Int)<((n:Nat):Int))=true:=decide_eq_true (by omega)
  have m1:qV (.int .i64 8) (.int .i64 (i:Nat))=some (.int .i64 ((8*i:Nat):Int)):=by
   rw[aD,wrap_i64 (by omega) (by omega)];rfl
  have m2:ue (.int .u64 (v:Nat)) (.int .i64 ((8*i:Nat):Int))=some (.int .u64 ((v / 256 ^ i:Nat):Int)):=by
   rw[TV,show min (8*i) IntKind.u64.bits=8*i from aiK (by show 8*i<=64;omega),Nat.pow_mul]
  have m3:IntKind.wrap .u8 ((v / 256 ^ i:Nat):Int)=((v / 256 ^ i % 256:Nat):Int):=acu rfl _
  have hf:=fl1 (.int .u8 ((v / 256 ^ i % 256:Nat):Int)) rfl
  obtain⟨H1,n1,n2,n3,n4⟩:=eJ H [.int .u8 ((v / 256 ^ i % 256:Nat):Int)] 5 0 (by simp)
  have tj:=hs.out n3 fun j hj q=>by cases q
  have hx:Rw H1 1 (.slice H.next 0 1 1 true 1) (bs [v / 256 ^ i % 256]) := .mk n2.ro rfl (aar _) rfl
  obtain⟨s',H',a1,a2,a3,a4⟩:=wU (z:=[.int .u8 0]) tj hx (zV _) (by omega) (by rw[gO,gO];simp;omega)
  have TB:∀ j∈aa s',j<H'.next:=a2.rw.lt
  rw[<-Et] at a2
  have e3:dj (.int .i64 (i:Nat)) (.int .i64 1)=some (.int .i64 ((i+1:Nat):Int)):=xA (b:=1) (by omega)
  obtain⟨s2,H2,b1,b2,b3,b4⟩:=abl hv hn (k:=k) r (i+1) s' (l++[v / 256 ^ i % 256]) H' (by omega) a2 TB (by simp;omega)
  refine⟨s2,H2,?_,?_,?_,?_⟩
  ·rw[U1]
   rw[aA] at e3
   simp only[TI,d,m1,m2,m3,hf,n1,a1,e3,aN,bH,aL,aK,cj,aV,aJ,aG,aZ,aO,bh,cq,aS,cx,bV,bo,bR,aM,cg,br,aQ,bO,bu,cn,cu,bG,aW,bB,bk,aI,bA,bE,cB,aT,bf,bQ,cp,bd,bc,aR,bU,bP,bC,cz,cC,bK,cl,aA,bN,aD,cy,bW,aP,aU,bS,bT,cA,ba,cw,bY,bM,aF,bJ,bI,aH,ck,bq,bF,bD,bZ,aY,nq,gk,yS,aat,aag,decide_true,decide_false,Int.reduceBEq,Int.reduceBNe,Int.reduceLT,Int.reduceLE,Int.reduceGT,Int.reduceGE,Int.reduceNeg,ab2,bne_self_eq_false,ge_iff_le,gt_iff_lt]
   exact b1
  ·rw[le]
   rw[adY] at b2
   rw[Nat.div_div_eq_div_mul,<-ai1]
   exact b2
  ·have h1:Out (aa s) H H':=(n3.mono fun j hj=>by cases hj).trans a3
   exact h1.then b3 fun j hj=>(a4 j hj).imp id fun q=>by omega
  ·intro j hj
   rcases b4 j hj with q | q
   ·rcases a4 j q with q | q
    ·exact .inl q
    ·exact .inr (by omega)
   ·have:=a3.1
    exact .inr (by omega)
theorem Rk {v n:Nat}(hv:v<18446744073709551616)(hn:n<=8){s:AV}{l:List Nat}{H:Hp}(hs:Ow H 5 1 s (bs l))(hl:l.length+n<=1000000) :
  ∃ s' H',cK (.func (.func 313) [] []) [s,.int .u64 v,.int .i64 n] H=some (s',H')/\Ow H' 5 1 s' (bs (l++le n v))/\Out (aa s) H H'/\(∀ j∈aa s',j∈aa s\/H.next<=j):=by
 obtain⟨s',H',h1,h2,h3,h4⟩:=abl hv hn (k:=fun x h=>some (x,h)) n 0 s l H (by omega) hs hs.rw.lt hl
 refine⟨s',H',ako ?_,by simpa using h2,h3,h4⟩
 unfold Vh
 rw[show (((0:Nat):Int))=0 from rfl] at h1
 simp only[aN,bH,aL,aK,cj,aV,aJ,aG,aZ,aO,bh,cq,aS,cx,bV,bo,bR,aM,cg,br,aQ,bO,bu,cn,cu,bG,aW,bB,bk,aI,bA,bE,cB,aT,bf,bQ,cp,bd,bc,aR,bU,bP,bC,cz,cC,bK,cl,aA,bN,aD,cy,bW,aP,aU,bS,bT,cA,ba,cw,bY,bM,aF,bJ,bI,aH,ck,bq,bF,bD,bZ,aY,nq,gk,yS,aat,aag,decide_true,decide_false,Int.reduceBEq,Int.reduceBNe,Int.reduceLT,Int.reduceLE,Int.reduceGT,Int.reduceGE,Int.reduceNeg,ab2,bne_self_eq_false,ge_iff_le,gt_iff_lt]
 exact h1
theorem XF {k:K.Fn 1}{H:Hp}{x:AV}{l:List Nat}(hx:Rw H 1 x (bs l))(hb:∀ b∈l,b<256)(hl:l.length<=8):∀ (r:List Nat) (i a:Nat),l.drop i=r->i<=l.length->a<256 ^ i->
  Gb JN GO cK k (.int .u64 (a:Nat)) x (.int .i64 (l.length:Nat)) (.int .i64 (i:Nat)) H=k (.int .u64 ((a+256 ^ i*ud r:Nat):Int)) H
 | [],i,a,hr,hi,ha=>by
  rw[Yh]
  have:l.length<=i:=by simpa using hr
  have d:decide (((i:Nat):Int)<((l.length:Nat):Int))=false:=decide_eq_false (by omega)
  simp only[Tk,d,ud,Nat.mul_zero,ae6,aN,bH,aL,aK,cj,aV,aJ,aG,aZ,aO,bh,cq,aS,cx,bV,bo,bR,aM,cg,br,aQ,bO,bu,cn,cu,bG,aW,bB,bk,aI,bA,bE,cB,aT,bf,bQ,cp,bd,bc,aR,bU,bP,bC,cz,cC,bK,cl,aA,bN,aD,cy,bW,aP,aU,bS,bT,cA,ba,cw,bY,bM,aF,bJ,bI,aH,ck,bq,bF,bD,bZ,aY,nq,gk,yS,aat,aag,decide_true,decide_false,Int.reduceBEq,Int.reduceBNe,Int.reduceLT,Int.reduceLE,Int.reduceGT,Int.reduceGE,Int.reduceNeg,ab2,bne_self_eq_false,ge_iff_le,gt_iff_lt]
 | v::r,i,a,hr,hi,ha=>by
  have hi:i<l.length:=by
   rcases ahB i l.length with h | h
   ·exact h
   ·rw[afn h] at hr;cases hr
  have hv:l[i]? = some v:=by
   have:=congrArg (fun z=>z[0]?) hr
   simpa using this
  have eg:l.drop (i+1)=r:=by
   rw[<-aib,hr];rfl
  have cQ:(bs l)[i]? = some (.int .u8 (v:Int)):=by simp[bs,hv]
  have xz:=hb v (acx hv)
  obtain⟨q,q1,q2⟩:=hx.lA cQ .i64
  have d:decide (((i:Nat):Int)<((l.length:Nat):Int))=true:=decide_eq_true (by omega)
  have w1:IntKind.wrap .u64 (v:Int)=v:=qw rfl (by show v<18446744073709551616;omega)
  have m1:qV (.int .i64 8) (.int .i64 (i:Nat))=some (.int .i64 ((8*i:Nat):Int)):=by
   rw[aD,wrap_i64 (by omega) (by omega)];rfl
  have hp:256 ^ (i+1)<=256 ^ 8:=Nat.pow_le_pow_right (by decide) (by omega)
  have Dn:0<256 ^ i:=Nat.pow_pos (by decide)
  have kF:256 ^ (i+1)=256 ^ i*256:=ai1 ..
  have hvm:v*256 ^ i+a<256 ^ (i+1):=by
   have:=ad4 (256 ^ i) (show v+1<=256 by omega)
   rw[aeS,ahp] at this
   rw[kF,ajD (256 ^ i) 256]
   omega
  have h8:(256:Nat) ^ 8=18446744073709551616:=by decide
  have m2:sN (.int .u64 (v:Nat)) (.int .i64 ((8*i:Nat):Int))=some (.int .u64 ((v*256 ^ i:Nat):Int)):=by
   rw[Jb,show min (8*i) IntKind.u64.bits=8*i from aiK (by show 8*i<=64;omega),Nat.pow_mul]
   rw[show (2:Nat) ^ 8=256 from rfl,qw rfl (show v*256 ^ i<18446744073709551616 by omega)]
  have ho:a ||| v*256 ^ i=v*256 ^ i+a:=by
   have h2:(256:Nat) ^ i=2 ^ (8*i):=by rw[Nat.pow_mul]
   rw[h2] at ha ⊢
   exact Ri ha
  have m3:qF (.int .u64 (a:Nat)) (.int .u64 ((v*256 ^ i:Nat):Int))=some (.int .u64 ((v*256 ^ i+a:Nat):Int)):=by
   have:=Nx (k := .u64) (a:=a) (b:=v*256 ^ i) (by show a<18446744073709551616;omega) (by show v*256 ^ i<18446744073709551616;omega) (by rw[ho];exact qw rfl (by show v*256 ^ i+a<18446744073709551616;omega))
   rw[ho] at this
   exact this
  have e3:dj (.int .i64 (i:Nat)) (.int .i64 1)=some (.int .i64 ((i+1:Nat):Int)):=xA (b:=1) (by omega)
  rw[aA] at e3
  rw[aD] at m1
  have ih:=XF (k:=k) hx hb hl r (i+1) (v*256 ^ i+a) eg (by omega) hvm
  rw[Yh]
  simp only[Tk,d,q1,q2,w1,m1,m2,m3,e3,aN,bH,aL,aK,cj,aV,aJ,aG,aZ,aO,bh,cq,aS,cx,bV,bo,bR,aM,cg,br,aQ,bO,bu,cn,cu,bG,aW,bB,bk,aI,bA,bE,cB,aT,bf,bQ,cp,bd,bc,aR,bU,bP,bC,cz,cC,bK,cl,aA,bN,aD,cy,bW,aP,aU,bS,bT,cA,ba,cw,bY,bM,aF,bJ,bI,aH,ck,bq,bF,bD,bZ,aY,nq,gk,yS,aat,aag,decide_true,decide_false,Int.reduceBEq,Int.reduceBNe,Int.reduceLT,Int.reduceLE,Int.reduceGT,Int.reduceGE,Int.reduceNeg,ab2,bne_self_eq_false,ge_iff_le,gt_iff_lt]
  rw[ih]
  congr 3
  rw[ud,kF,Nat.mul_add,ajD v,Nat.mul_assoc]
  omega
theorem Xj {H:Hp}{x:AV}{l:List Nat}(hx:Rw H 1 x (bs l))(hb:∀ b∈l,b<256)(hl:l.length<=8):cK (.func (.func 217) [] []) [x] H=some (.int .u64 ((ud l:Nat):Int),H):=by
 refine afv ?_
 unfold ab6
 have hn:=hx.gV
 rw[gO] at hn
 have lp:=fun (k:K.Fn 1)=>XF (k:=k) hx hb hl l 0 0 rfl (adf _) (by decide)
 rw[show (((0:Nat):Int))=0 from rfl] at lp
 simp only[Nat.pow_zero,ahp,yS] at lp
 simp only[hn,lp,aN,bH,aL,aK,cj,aV,aJ,aG,aZ,aO,bh,cq,aS,cx,bV,bo,bR,aM,cg,br,aQ,bO,bu,cn,cu,bG,aW,bB,bk,aI,bA,bE,cB,aT,bf,bQ,cp,bd,bc,aR,bU,bP,bC,cz,cC,bK,cl,aA,bN,aD,cy,bW,aP,aU,bS,bT,cA,ba,cw,bY,bM,aF,bJ,bI,aH,ck,bq,bF,bD,bZ,aY,nq,gk,yS,aat,aag,decide_true,decide_false,Int.reduceBEq,Int.reduceBNe,Int.reduceLT,Int.reduceLE,Int.reduceGT,Int.reduceGE,Int.reduceNeg,ab2,bne_self_eq_false,ge_iff_le,gt_iff_lt]
theorem Rb {H:Hp}(n:Nat)(hn:n<=16777215):∃ y H',cK (.func (.func 333) [] []) [.ae,.int .i64 n] H=some (y,H')/\Ow H' 5 1 y []/\Out [] H H'/\(∀ j∈aa y,H.next<=j):=by
 have c0:∀ H:Hp,eP P .cap #[48] [.ae] H=some (.int .i64 0,H):=fun H=>by kernel_rfl
 have d0:decide (((n:Nat):Int)<0)=false:=decide_eq_false (by omega)
 have w0:=Aw (a:=n) (by omega)
 by_cases h:n=0
 ·subst h
  refine⟨.ae,H,Yw ?_,.nil,Out.refl _ _,fun j hj=>by cases hj⟩
  unfold Qd
  have OD:IntKind.wrap .i64 0=0:=by decide
  rw[show (((0:Nat):Int))=0 from rfl] at *
  simp only[c0,d0,OD,Int.sub_self,Int.sub_zero,aN,bH,aL,aK,cj,aV,aJ,aG,aZ,aO,bh,cq,aS,cx,bV,bo,bR,aM,cg,br,aQ,bO,bu,cn,cu,bG,aW,bB,bk,aI,bA,bE,cB,aT,bf,bQ,cp,bd,bc,aR,bU,bP,bC,cz,cC,bK,cl,aA,bN,aD,cy,bW,aP,aU,bS,bT,cA,ba,cw,bY,bM,aF,bJ,bI,aH,ck,bq,bF,bD,bZ,aY,nq,gk,yS,aat,aag,decide_true,decide_false,Int.reduceBEq,Int.reduceBNe,Int.reduceLT,Int.reduceLE,Int.reduceGT,Int.reduceGE,Int.reduceNeg,ab2,bne_self_eq_false,ge_iff_le,gt_iff_lt]
 ·have d1:decide (0<((n:Nat):Int))=true:=decide_eq_true (by omega)
  obtain⟨x',s1,s2,s3⟩:=Mv (n:=0) (a:=0) (b:=0) (Ow.nil (H:=H) (el:=5) (es:=1)) rfl (by omega) (lo:=none) (hi:=some (.int .i64 ((0:Nat):Int))) (aar _) (aar _) (Bd.no 0) (Bd.yes _ _ _)
  have AR:Ow H 5 1 x' []:=by simpa using s2
  obtain⟨y,H',a1,a2,a3,a4⟩:=ap5 (n:=n) AR (by simp;omega)
  obtain⟨z,t1,t2,t3⟩:=Mv (n:=n) (a:=0) (b:=0) a2 (by simp) (by omega) (lo:=none) (hi:=some (.int .i64 ((0:Nat):Int))) (aar _) (adf _) (Bd.no 0) (Bd.yes _ _ _)
  have hx:∀ j∈aa x',False:=fun j hj=>by have:=s3 j hj;cases this
  refine⟨z,H',Yw ?_,by simpa using t2,⟨a3.1,fun j hj _=>a3.2 j hj fun q=>hx j q⟩,fun j hj=>(a4 j (t3 j hj)).elim (fun q=>(hx j q).elim) id⟩
  unfold Qd
  have OD:IntKind.wrap .i64 0=0:=by decide
  rw[show (((0:Nat):Int))=0 from rfl] at s1 t1
  simp only[c0,d0,d1,OD,w0,s1,a1,t1,Int.sub_self,Int.sub_zero,aN,bH,aL,aK,cj,aV,aJ,aG,aZ,aO,bh,cq,aS,cx,bV,bo,bR,aM,cg,br,aQ,bO,bu,cn,cu,bG,aW,bB,bk,aI,bA,bE,cB,aT,bf,bQ,cp,bd,bc,aR,bU,bP,bC,cz,cC,bK,cl,aA,bN,aD,cy,bW,aP,aU,bS,bT,cA,ba,cw,bY,bM,aF,bJ,bI,aH,ck,bq,bF,bD,bZ,aY,nq,gk,yS,aat,aag,decide_true,decide_false,Int.reduceBEq,Int.reduceBNe,Int.reduceLT,Int.reduceLE,Int.reduceGT,Int.reduceGE,Int.reduceNeg,ab2,bne_self_eq_false,ge_iff_le,gt_iff_lt]
theorem PL {H:Hp}{x:AV}{l:List Nat}(hx:Rw H 1 x (bs l))(hl:l.length<=140737488355328):∃ y H',cK (.func (.func 78) [] []) [x] H=some (y,H')/\Ow H' 5 1 y (bs l)/\Out [] H H'/\(∀ j∈aa y,H.next<=j):=Vn hx hl
structure xn (H:Hp)(i:Nat)(cs:List AV)(ls:List (List Nat))(el fl:Nat):Prop where
 ob:Cs H i cs el fl
 len:cs.length=ls.length
 row:∀ (j:Nat) (c:AV) (l:List Nat),cs[j]? = some c->ls[j]? = some l->Rw H 1 c (bs l)
theorem xn.out {H H':Hp}{i:Nat}{cs:List AV}{ls:List (List Nat)}{el fl:Nat}(h:xn H i cs ls el fl)(k:Out [] H H'):xn H' i cs ls el fl:=
 ⟨h.ob.out k (fun q=>by cases q),h.len,fun j c l h1 h2=>(h.row j c l h1 h2).out k fun j hj q=>by cases q⟩
theorem xn.at {H:Hp}{i:Nat}{cs:List AV}{ls:List (List Nat)}{el fl:Nat}(h:xn H i cs ls el fl){j:Nat}{l:List Nat}{r:List (List Nat)}(hr:ls.drop j=l::r):j<ls.length/\ls.drop (j+1)=r/\
  ∃ c,ia 1 (.slice i 0 ls.length ls.length true 1) (.int .i64 (j:Nat))=some (.ptr i j)/\ld (.ptr i j) H=some c/\Rw H 1 c (bs l):=by
 have hj:j<ls.length:=by
  rcases ahB j ls.length with q | q
  ·exact q
  ·rw[afn q] at hr;cases hr
 have hl:ls[j]? = some l:=by
  have:=congrArg (fun z=>z[0]?) hr
  simpa using this
 have eg:ls.drop (j+1)=r:=by
  rw[<-aib,hr];rfl
 have hjc:j<cs.length:=by rw[h.len];exact hj
 have hc:cs[j]? = some cs[j]:=aax hjc
 refine⟨hj,eg,cs[j],?_,h.ob.ld hc,h.row j _ l hc hl⟩
 have:=we (es:=1) (i:=i) (off:=0) (cap:=ls.length) (ex:=true) (k := .i64) hj
 rw[yS,adQ] at this
 exact this
theorem Za {k:K.Fn 2}{H:Hp}{i:Nat}{cs:List AV}{ls:List (List Nat)}{el fl:Nat}(h:xn H i cs ls el fl)(hn:ls.length<=1000):∀ (r:List (List Nat)) (j a:Nat),ls.drop j=r->a+r.flatten.length<=16777215->
  Gv JN GO cK k (.slice i 0 ls.length ls.length true 1) (.int .i64 (a:Nat)) (.slice i 0 ls.length ls.length true 1) (.int .i64 (ls.length:Nat)) (.int .i64 (j:Nat)) H=k (.slice i 0 ls.length ls.length true 1) (.int .i64 ((a+r.flatten.length:Nat):Int)) H
 | [],j,a,hr,ha=>by
  rw[aae]
  have:ls.length<=j:=by simpa using hr
  have d:decide (((j:Nat):Int)<((ls.length:Nat):Int))=false:=decide_eq_false (by omega)
  simp only[S8,d,List.flatten_nil,abY,ae6,aN,bH,aL,aK,cj,aV,aJ,aG,aZ,aO,bh,cq,aS,cx,bV,bo,bR,aM,cg,br,aQ,bO,bu,cn,cu,bG,aW,bB,bk,aI,bA,bE,cB,aT,bf,bQ,cp,bd,bc,aR,bU,bP,bC,cz,cC,bK,cl,aA,bN,aD,cy,bW,aP,aU,bS,bT,cA,ba,cw,bY,bM,aF,bJ,bI,aH,ck,bq,bF,bD,bZ,aY,nq,gk,yS,aat,aag,decide_true,decide_false,Int.reduceBEq,Int.reduceBNe,Int.reduceLT,Int.reduceLE,Int.reduceGT,Int.reduceGE,Int.reduceNeg,ab2,bne_self_eq_false,ge_iff_le,gt_iff_lt]
 | l::r,j,a,hr,ha=>by
  obtain⟨hj,eg,c,c1,c2,c3⟩:=h.at hr
  rw[af4,abz] at ha
  have hl:=c3.gV
  rw[gO] at hl
  have d:decide (((j:Nat):Int)<((ls.length:Nat):Int))=true:=decide_eq_true (by omega)
  have a1:dj (.int .i64 (a:Nat)) (.int .i64 (l.length:Nat))=some (.int .i64 ((a+l.length:Nat):Int)):=xA (by omega)
  have d1:decide (((a+l.length:Nat):Int)<0)=false:=decide_eq_false (by omega)
  have a2:dj (.int .i64 (j:Nat)) (.int .i64 1)=some (.int .i64 ((j+1:Nat):Int)):=xA (b:=1) (by omega)
  rw[aA] at a1 a2
  have ih:=Za (k:=k) h hn r (j+1) (a+l.length) eg (by omega)
  rw[aae]
  simp only[S8,d,c1,c2,hl,a1,d1,a2,aN,bH,aL,aK,cj,aV,aJ,aG,aZ,aO,bh,cq,aS,cx,bV,bo,bR,aM,cg,br,aQ,bO,bu,cn,cu,bG,aW,bB,bk,aI,bA,bE,cB,aT,bf,bQ,cp,bd,bc,aR,bU,bP,bC,cz,cC,bK,cl,aA,bN,aD,cy,bW,aP,aU,bS,bT,cA,ba,cw,bY,bM,aF,bJ,bI,aH,ck,bq,bF,bD,bZ,aY,nq,gk,yS,aat,aag,decide_true,decide_false,Int.reduceBEq,Int.reduceBNe,Int.reduceLT,Int.reduceLE,Int.reduceGT,Int.reduceGE,Int.reduceNeg,ab2,bne_self_eq_false,ge_iff_le,gt_iff_lt]
  rw[ih,af4,abz,afj]
theorem aak {k:K.Fn 1}{H0:Hp}{i:Nat}{cs:List AV}{ls:List (List Nat)}{el fl:Nat}(h:xn H0 i cs ls el fl)(hn:ls.length<=1000):∀ (r:List (List Nat)) (j:Nat) (s:AV) (l:List Nat) (H:Hp),ls.drop j=r->l.length+r.flatten.length<=16777215->
  Out [] H0 H->Ow H 5 1 s (bs l)->(∀ j∈aa s,H0.next<=j)->
  ∃ s' H',Gs JN GO cK k s (.slice i 0 ls.length ls.length true 1) (.int .i64 (ls.length:Nat)) (.int .i64 (j:Nat)) H=k s' H'/\Out [] H0 H'/\Ow H' 5 1 s' (bs (l++r.flatten))/\(∀ j∈aa s',H0.next<=j)
 | [],j,s,l,H,hr,ha,ho,hs,hf=>by
  refine⟨s,H,?_,ho,by simpa using hs,hf⟩
  rw[UO]
  have:ls.length<=j:=by simpa using hr
  have d:decide (((j:Nat):Int)<((ls.length:Nat):Int))=false:=decide_eq_false (by omega)
  simp only[OS,d,aN,bH,aL,aK,cj,aV,aJ,aG,aZ,aO,bh,cq,aS,cx,bV,bo,bR,aM,cg,br,aQ,bO,bu,cn,cu,bG,aW,bB,bk,aI,bA,bE,cB,aT,bf,bQ,cp,bd,bc,aR,bU,bP,bC,cz,cC,bK,cl,aA,bN,aD,cy,bW,aP,aU,bS,bT,cA,ba,cw,bY,bM,aF,bJ,bI,aH,ck,bq,bF,bD,bZ,aY,nq,gk,yS,aat,aag,decide_true,decide_false,Int.reduceBEq,Int.reduceBNe,Int.reduceLT,Int.reduceLE,Int.reduceGT,Int.reduceGE,Int.reduceNeg,ab2,bne_self_eq_false,ge_iff_le,gt_iff_lt]
 | x::r,j,s,l,H,hr,ha,ho,hs,hf=>by
  obtain⟨hj,eg,c,c1,c2,c3⟩:=(h.out ho).at hr
  rw[af4,abz] at ha
  have d:decide (((j:Nat):Int)<((ls.length:Nat):Int))=true:=decide_eq_true (by omega)
  have a2:dj (.int .i64 (j:Nat)) (.int .i64 1)=some (.int .i64 ((j+1:Nat):Int)):=xA (b:=1) (by omega)
  rw[aA] at a2
  obtain⟨s',H',b1,b2,b3,b4⟩:=wU (z:=[.int .u8 0]) hs c3 (zV _) (by omega) (by rw[gO,gO];omega)
  rw[<-Et] at b2
  have fh:Out [] H0 H':=ho.then b3 fun j hj => .inr (hf j hj)
  have Kx:∀ j∈aa s',H0.next<=j:=fun j hj=>(b4 j hj).elim (hf j) fun q=>abS ho.1 q
  obtain⟨s2,H2,e1,e2,e3,e4⟩:=aak (k:=k) h hn r (j+1) s' (l++x) H' eg (by rw[abz];omega) fh b2 Kx
  refine⟨s2,H2,?_,e2,?_,e4⟩
  ·rw[UO]
   simp only[OS,d,c1,c2,b1,a2,aN,bH,aL,aK,cj,aV,aJ,aG,aZ,aO,bh,cq,aS,cx,bV,bo,bR,aM,cg,br,aQ,bO,bu,cn,cu,bG,aW,bB,bk,aI,bA,bE,cB,aT,bf,bQ,cp,bd,bc,aR,bU,bP,bC,cz,cC,bK,cl,aA,bN,aD,cy,bW,aP,aU,bS,bT,cA,ba,cw,bY,bM,aF,bJ,bI,aH,ck,bq,bF,bD,bZ,aY,nq,gk,yS,aat,aag,decide_true,decide_false,Int.reduceBEq,Int.reduceBNe,Int.reduceLT,Int.reduceLE,Int.reduceGT,Int.reduceGE,Int.reduceNeg,ab2,bne_self_eq_false,ge_iff_le,gt_iff_lt]
   exact e1
  ·rw[af4,<-adY];exact e3
theorem aic {H:Hp}{i:Nat}{cs:List AV}{ls:List (List Nat)}{el fl:Nat}(h:xn H i cs ls el fl)(hn:ls.length<=1000)(hl:ls.flatten.length<=16777215) :
  ∃ y H',cK (.func (.func 314) [] []) [.slice i 0 ls.length ls.length true 1] H=some (y,H')/\Out [] H H'/\Ow H' 5 1 y (bs ls.flatten)/\(∀ j∈aa y,H.next<=j):=by
 obtain⟨g,H1,g1,g2,g3,g4⟩:=Rb (H:=H) ls.flatten.length hl
 have lp:=fun (k:K.Fn 2)=>Za (k:=k) h hn ls 0 0 rfl (by omega)
 obtain⟨y,H',e1,e2,e3,e4⟩:=aak (k:=fun x h=>some (x,h)) h hn ls 0 g [] H1 rfl (by simpa using hl) g3 g2 g4
 rw[show (((0:Nat):Int))=0 from rfl] at lp e1
 simp only[yS] at lp
 refine⟨y,H',ah0 ?_,e2,by simpa using e3,e4⟩
 unfold Wj
 simp only[lp,g1,aN,bH,aL,aK,cj,aV,aJ,aG,aZ,aO,bh,cq,aS,cx,bV,bo,bR,aM,cg,br,aQ,bO,bu,cn,cu,bG,aW,bB,bk,aI,bA,bE,cB,aT,bf,bQ,cp,bd,bc,aR,bU,bP,bC,cz,cC,bK,cl,aA,bN,aD,cy,bW,aP,aU,bS,bT,cA,ba,cw,bY,bM,aF,bJ,bI,aH,ck,bq,bF,bD,bZ,aY,nq,gk,yS,aat,aag,decide_true,decide_false,Int.reduceBEq,Int.reduceBNe,Int.reduceLT,Int.reduceLE,Int.reduceGT,Int.reduceGE,Int.reduceNeg,ab2,bne_self_eq_false,ge_iff_le,gt_iff_lt]
 exact e1
theorem OX (k:IntKind)(a:Int):same (.int k a) (.int k a)=true:=by cases k<;>simp[same,mO]
theorem My {H:Hp}{es:Nat}{x:AV}{l:List AV}(h:Rw H es x l):same x x=true:=by
 cases h<;>simp[same,mO]
theorem Md {H:Hp}{es:Nat}{x:AV}{l:List AV}(h:Rw H es x l):jX x=some [x]:=by
 cases h<;>rfl
theorem By {H:Hp}{es:Nat}{x:AV}{l:List AV}(h:Rw H es x l)(a:Int):jX (.agg [.int .u64 a,x])=some [.int .u64 a,x]:=by
 cases h<;>rfl
def ox (at':Nat)(b:List Nat):List Nat:=le 4 b.length++le 8 at'
def fr (at':Nat)(b:List Nat):List Nat:=ox at' b++le 4 (lL 1 (ox at' b++b))++b
theorem Mg (a:Nat)(b:List Nat):(ox a b).length=12:=by simp[ox,GM]
theorem QN (a:Nat)(b:List Nat):(fr a b).length=16+b.length:=by simp[fr,Mg,GM];omega
theorem acf (a:Nat)(b:List Nat):∀ x∈ox a b,x<256:=fun x hx=>(aal.1 hx).elim (KO _ _ x) (KO _ _ x)
theorem aoo {H:Hp}{x y:AV}{l b:List Nat}{at':Nat}(hx:Rw H 1 x (bs l))(hy:Rw H 1 y (bs b))(ha:at'<18446744073709551616)(hb:∀ v∈b,v<256)(hn:b.length<=1024)(hl:l.length<=1000000) :
  ∃ z H',cK (.func (.func 263) [] []) [x,.agg [.int .u64 at',y]] H=some (.tuple [z,.int .i64 0],H')/\Out [] H H'/\Ow H' 5 1 z (bs (l++fr at' b))/\(∀ j∈aa z,H.next<=j):=by
 have p9:=By hy (at':Int)
 obtain⟨H1,b1,b2,b3,b4⟩:=jP H 128 _ _ p9 (by simp)
 have vQ:=hy.gV
 rw[gO] at vQ
 have d1:decide (1024<((b.length:Nat):Int))=false:=decide_eq_false (by omega)
 have w1:IntKind.wrap .u64 ((b.length:Nat):Int)=b.length:=qw rfl (by show b.length<18446744073709551616;omega)
 have l1:ld (.ptr H.next 1) H1=some y:=b2.ld rfl
 obtain⟨s1,H2,n1,n2,n3,n4⟩:=Rk (v:=b.length) (n:=4) (by omega) (by decide) (Ow.nil (H:=H1) (el:=5) (es:=1)) (by simp) (l:=[])
 rw[afE] at n2
 have f1:∀ j∈aa s1,H1.next<=j:=fun j hj=>(n4 j hj).elim (fun q=>by cases q) id
 have o2:Out [] H1 H2:=n3
 have r2:=b2.out o2 (fun q=>by cases q)
 obtain⟨s2,H3,m1,m2,m3,m4⟩:=Rk (v:=at') (n:=8) ha (by decide) n2 (by rw[GM];decide)
 have o3:Out [] H1 H3:=o2.then m3 fun j hj => .inr (f1 j hj)
 have f2:∀ j∈aa s2,H1.next<=j:=fun j hj=>(m4 j hj).elim (f1 j) fun q=>abS o2.1 q
 have r3:=b2.out o3 (fun q=>by cases q)
 have l2:ld (.ptr H.next 0) H2=some (.int .u64 (at':Int)):=r2.ld rfl
 have PU:ld (.ptr H.next 0) H1=some (.int .u64 (at':Int)):=b2.ld rfl
 have l3:ld (.ptr H.next 1) H3=some y:=r3.ld rfl
 have oH3:Out [] H H3:=b3.trans o3
 have hy3:=hy.out oH3 fun j _ q=>by cases q
 have e1:=AK (l:=ox at' b) m2.rw (acf _ _) (by rw[Mg];decide)
 have g1:=abr (s:=1) (by decide) (ox at' b)
 have e2:=Sk hy3 hb (by omega) g1.1 g1.2
 rw[aiC (by decide)] at e2
 have g2:=abr (s:=1) (by decide) (ox at' b++b)
 have w2:IntKind.wrap .u64 ((lL 1 (ox at' b++b):Nat):Int)=((lL 1 (ox at' b++b):Nat):Int):=qw rfl (Nat.lt_trans g2.1 (by decide))
 obtain⟨s3,H4,p1,p2,p3,p4⟩:=Rk (v:=lL 1 (ox at' b++b)) (n:=4) (Nat.lt_trans g2.1 (by decide)) (by decide) m2 (by
  have:=Mg at' b
  unfold ox at this
  rw[this];decide)
 have o4:Out [] H1 H4:=o3.then p3 fun j hj => .inr (f2 j hj)
 have r4:=b2.out o4 (fun q=>by cases q)
 have l4:ld (.ptr H.next 1) H4=some y:=r4.ld rfl
 have JZ:Out [] H H4:=b3.trans o4
 have MD:=hx.out JZ fun j _ q=>by cases q
 have hy4:=hy.out JZ fun j _ q=>by cases q
 have fl3:fl [.ae,.ae,.ae] [(0,1,x),(1,1,s3),(2,1,y)]=some [x,s3,y]:=by
  have c1:=Md hx
  have c2:=Md p2.rw
  have c3:=Md hy
  simp[fl,c1,c2,c3]
 obtain⟨H5,q1,q2,q3,q4⟩:=eJ H4 [x,s3,y] 48 0 (by simp)
 have no:∀ (v:AV) (j:Nat),j∈aa v->j∉([]:List Nat):=fun v j _ q=>by cases q
 have jC:xn H5 H4.next [x,s3,y] [l,ox at' b++le 4 (lL 1 (ox at' b++b)),b] 48 0:=by
  refine⟨q2,rfl,fun j c m h1 h2 => ?_⟩
  match j,h1,h2 with
  | 0,h1,h2=>cases h1;cases h2;exact MD.out q3 (no _)
  | 1,h1,h2=>cases h1;cases h2;exact p2.rw.out q3 (no _)
  | 2,h1,h2=>cases h1;cases h2;exact hy4.out q3 (no _)
 obtain⟨z,H6,z1,z2,z3,z4⟩:=aic jC (by simp) (by simp[Mg,GM];omega)
 have l6:ld (.ptr H.next 1) H3=some y:=l3
 refine⟨z,H6,adp ?_,(JZ.trans q3).trans z2,?_,fun j hj=>abS (JZ.trans q3).1 (z4 j hj)⟩
 ·unfold Re
  rw[show (([l,ox at' b++le 4 (lL 1 (ox at' b++b)),b]:List (List Nat)).length)=3 from rfl] at z1
  have Ui:=n1
  have Wh:=m1
  have Zz:=p1
  rw[show (((4:Nat):Int))=4 from rfl] at Ui Zz
  rw[show (((8:Nat):Int))=8 from rfl] at Wh
  simp only[b1,l1,vQ,d1,w1,Ui,l2,PU,Wh,jo (OX .u64 (at':Int)),e1,l3,e2,jo (My hy),w2,Zz,l4,fl3,q1,z1,aN,bH,aL,aK,cj,aV,aJ,aG,aZ,aO,bh,cq,aS,cx,bV,bo,bR,aM,cg,br,aQ,bO,bu,cn,cu,bG,aW,bB,bk,aI,bA,bE,cB,aT,bf,bQ,cp,bd,bc,aR,bU,bP,bC,cz,cC,bK,cl,aA,bN,aD,cy,bW,aP,aU,bS,bT,cA,ba,cw,bY,bM,aF,bJ,bI,aH,ck,bq,bF,bD,bZ,aY,nq,gk,yS,aat,aag,decide_true,decide_false,Int.reduceBEq,Int.reduceBNe,Int.reduceLT,Int.reduceLE,Int.reduceGT,Int.reduceGE,Int.reduceNeg,ab2,bne_self_eq_false,ge_iff_le,gt_iff_lt]
 ·have:fr at' b=(ox at' b++le 4 (lL 1 (ox at' b++b)))++b:=rfl
  rw[this]
  simpa using z3
theorem jf {H:Hp}{i n:Nat}{l cs:List AV}{el fl:Nat}{v:AV}(h:Cs H i l el fl)(hf:fl<=1)(hv:jX v=some cs)(hl:cs.length=n)(hn:l.length=n)(ho:∀ v∈cs,db v=true) :
  ∃ H',st n (.ptr i 0) v H=some H'/\Cs H' i cs el fl/\Out [i] H H'/\H'.next=H.next:=by
 obtain⟨hi,c,hc,hg⟩:=h
 obtain⟨H',c',q1,q2,q3,q4,q5⟩:=BP cs H i 0 c 0 l.length el fl hc hf (aar _) (by omega) (fun k hk=>by
  have lJ:k<l.length:=by omega
  rw[yS,hg k l[k] (aax lJ)];rfl) ho
 refine⟨H',?_,⟨by omega,c',?_,fun k w hk => ?_⟩,⟨by omega,fun j hj hn=>q4 j (by simpa using hn)⟩,q2⟩
 ·unfold st
  simp only[hv]
  rw[show Nat.beq n cs.length=true by rw[hl];exact agU n]
  exact q1
 ·rw[q3,hl,hn]
 ·rw[q5 k,if_pos ⟨adf _,by have:=(abf.1 hk).1;omega⟩,ae9]
  exact hk
def gN (l:List Nat):Nat:=ud (l.take 4)
def gB (l:List Nat):List Nat:=(l.drop 16).take (gN l)
def gA (l:List Nat):Nat:=ud ((l.drop 4).take 8)
def gE (l:List Nat):Nat:=
 if l.length<4 then 3 else if 1024<gN l then 14 else if l.length<16+gN l then 3 else
 if lL 1 (l.take 12++gB l)≠ud ((l.drop 12).take 4) then 2 else 0
theorem Kv {H:Hp}{es:Nat}{x:AV}{l:List AV}(h:Rw H es x l):db x=true:=by
 cases h<;>rfl
def vS:List (Nat × List Nat)->List AV->List AV
 | r::rs,y::ys => .int .u64 (r.1:Nat)::y::vS rs ys
 | _,_=>[]
theorem Ym:∀ (a:List (Nat × List Nat)) (x:List AV) (r:Nat × List Nat) (y:AV),x.length=a.length->vS (a++[r]) (x++[y])=vS a x++[.int .u64 (r.1:Nat),y]
 | [],[],r,y,h=>rfl
 | q::a,z::x,r,y,h=>by
  have:=Ym a x r y (by simpa using h)
  show _::_::vS (a++[r]) (x++[y])=_
  rw[this];rfl
theorem He:∀ (a:List (Nat × List Nat)) (x:List AV),x.length=a.length->(vS a x).length=a.length*2
 | [],[],h=>rfl
 | q::a,z::x,h=>by
  have:=He a x (by simpa using h)
  simp only[vS,abn,this];omega
structure Rs (H:Hp)(x:AV)(rs:List (Nat × List Nat))(ys:List AV):Prop where
 own:Ow H 128 2 x (vS rs ys)
 len:ys.length=rs.length
 row:∀ (j:Nat) (y:AV) (r:Nat × List Nat),ys[j]? = some y->rs[j]? = some r->Rw H 1 y (bs r.2)
 sep:∀ y∈ys,∀ i∈aa y,i∉aa x
theorem Rs.out {H H':Hp}{x:AV}{rs:List (Nat × List Nat)}{ys:List AV}(h:Rs H x rs ys)(k:Out [] H H'):Rs H' x rs ys:=
 ⟨h.own.out k (fun j _ q=>by cases q),h.len,fun j y r h1 h2=>(h.row j y r h1 h2).out k (fun j _ q=>by cases q),h.sep⟩
def on (l:List Nat)(first ep:Int):Bool:=decide (gE l=0)&&decide (((gA l % 17592186044416:Nat):Int)=first)&&decide (ep<=((gA l / 17592186044416:Nat):Int))
theorem zr {α:Type}{l r:List α}{v:α}{i:Nat}(h:l.drop i=v::r):i<l.length/\l[i]? = some v/\l.drop (i+1)=r:=by
 have hi:i<l.length:=by
  rcases ahB i l.length with q | q
  ·exact q
  ·rw[afn q] at h;cases h
 refine⟨hi,?_,?_⟩
 ·have:=congrArg (fun z=>z[0]?) h
  simpa using this
 ·rw[<-aib,h];rfl
theorem VM {H:Hp}{es:Nat}{y:AV}{l:List AV}(h:Rw H es y l)(a:Int):fl [.int .u64 0,.ae] [(0,1,.int .u64 a),(1,1,y)]=some [.int .u64 a,y]:=by
 have c1:jX (.int .u64 a)=some [.int .u64 a]:=rfl
 have c2:=Md h
 simp[fl,c1,c2]
theorem WK {H:Hp}{es:Nat}{x:AV}{l:List AV}(h:Rw H es x l)(dC:0<es){j:Nat}(hj:j*es<l.length)(k:IntKind) :
  ∃ i o,ia es x (.int k j)=some (.ptr i o)/\∀ r v,l[j*es+r]? = some v->ld (.ptr i (o+r)) H=some v:=by
 cases h with
 | nil=>simp at hj
 | emp=>simp at hj
 | mk hr hn hc he=>
  refine⟨_,_,we (Nat.lt_of_mul_lt_mul_right (a:=es) (by omega)),fun r v hv => ?_⟩
  rw[afj]
  exact hr.ld hv
theorem MW:∀ (rs:List (Nat × List Nat)) (ys:List AV) (j:Nat) (r:Nat × List Nat) (y:AV),rs[j]? = some r->ys[j]? = some y->(vS rs ys)[j*2+0]? = some (.int .u64 (r.1:Nat))/\(vS rs ys)[j*2+1]? = some y
 | _::_,_::_,0,r,y,h,k=>by cases h;cases k;exact⟨rfl,rfl⟩
 | _::rs,_::ys,j+1,r,y,h,k=>by
  have:=MW rs ys j r y h k
  rw[show (j+1)*2+0=j*2+0+1+1 by omega,show (j+1)*2+1=j*2+1+1+1 by omega]
  exact this
theorem Rs.G6 {H:Hp}{x:AV}{rs:List (Nat × List Nat)}{ys:List AV}(h:Rs H x rs ys):cJ x=some (.int .i64 rs.length):=by
 obtain⟨n,h1,h2⟩:=h.own.rw.len
 rw[He _ _ h.len] at h2
 rw[h1]
 have:n=rs.length:=by omega
 rw[this]
theorem Rs.at {H:Hp}{x:AV}{rs:List (Nat × List Nat)}{ys:List AV}(h:Rs H x rs ys){j:Nat}{r:Nat × List Nat}(hj:rs[j]? = some r)(k:IntKind) :
  ∃ i o y,ia 2 x (.int k j)=some (.ptr i o)/\ld (.ptr i (o+0)) H=some (.int .u64 (r.1:Nat))/\ld (.ptr i (o+1)) H=some y/\Rw H 1 y (bs r.2):=by
 have ah:=(abf.1 hj).1
 obtain⟨y0,hy⟩:∃ y0,ys[j]? = some y0:=⟨_,aax (by rw[h.len];exact ah)⟩
 obtain⟨g0,g1⟩:=MW rs ys j r _ hj hy
 obtain⟨i,o,a1,a2⟩:=WK h.own.rw (by decide) (j:=j) (by rw[He _ _ h.len];omega) k
 exact⟨i,o,y0,a1,a2 0 _ g0,a2 1 _ g1,h.row j _ r hy hj⟩
def Mk (H:Hp)(x:AV)(ms:List (Int × Int × List Nat)):Prop:=∃ cs,Rw H 3 x cs/\cs.length=ms.length*3/\∀ j m,ms[j]? = some m->cs[j*3+0]? = some (.int .i64 m.1)/\cs[j*3+1]? = some (.int .i64 m.2.1)/\∃ y,cs[j*3+2]? = some y/\Rw H 1 y (bs m.2.2)
theorem Mk.out {H H':Hp}{x:AV}{ms:List (Int × Int × List Nat)}(h:Mk H x ms)(k:Out [] H H'):Mk H' x ms:=by
 obtain⟨cs,h1,h2,h3⟩:=h
 refine⟨cs,h1.out k (fun j _ q=>by cases q),h2,fun j m hm => ?_⟩
 obtain⟨a,b,y,c,d⟩:=h3 j m hm
 exact⟨a,b,y,c,d.out k fun j _ q=>by cases q⟩
theorem Mk.G6 {H:Hp}{x:AV}{ms:List (Int × Int × List Nat)}(h:Mk H x ms):cJ x=some (.int .i64 ms.length):=by
 obtain⟨cs,h1,h2,h3⟩:=h
 obtain⟨n,a,b⟩:=h1.len
 have:n=ms.length:=by omega
 rw[a,this]
theorem Mk.at {H:Hp}{x:AV}{ms:List (Int × Int × List Nat)}(h:Mk H x ms){j:Nat}{m:Int × Int × List Nat}(hj:ms[j]? = some m)(k:IntKind) :
  ∃ i o y,ia 3 x (.int k j)=some (.ptr i o)/\ld (.ptr i (o+0)) H=some (.int .i64 m.1)/\ld (.ptr i (o+1)) H=some (.int .i64 m.2.1)/\ld (.ptr i (o+2)) H=some y/\Rw H 1 y (bs m.2.2):=by
 obtain⟨cs,h1,h2,h3⟩:=h
 obtain⟨a,b,y,c,d⟩:=h3 j m hj
 have ah:=(abf.1 hj).1
 obtain⟨i,o,a1,a2⟩:=WK h1 (by decide) (j:=j) (by omega) k
 exact⟨i,o,y,a1,a2 0 _ a,a2 1 _ b,a2 2 _ c,d⟩
end Go.Proofs.YtehhgkgeldinkaaGreatDoor.jU
namespace Go.Proofs.YtehhgkgeldinkaaGreatDoor.nO
open Go Am Am.K jn Sg kM
theorem T9 {H:Am.Hp}(hT:ez H dN):zK H:=by
 obtain⟨el,h⟩:=hT
 have h1:=h 7 (SH.map (AV.int .u8)) (by simp[dN])
 have h2:=h 4 [.iface 352 (.ptr 10 0)] (by simp[dN])
 have h3:=h 5 [.iface 352 (.ptr 9 0)] (by simp[dN])
 refine⟨?_,⟨352,.ptr 10 0,?_⟩,⟨352,.ptr 9 0,?_⟩⟩
 ·unfold cellAt;rw[h1];kernel_rfl
 ·unfold cellAt;rw[h2];kernel_rfl
 ·unfold cellAt;rw[h3];kernel_rfl
theorem LL (an:Nat->An){H:Am.Hp}(hV:zK H)(a:Int):CK Tryz.prog (pF Tryz.prog) ext aw an (.func (.func 123) [] []) [.int .i64 a] H=some (.tuple [.str (dR a),.bool (iO a)],H):=by
 refine oN (p:=HA) (by kernel_rfl) ?_
 unfold HA
 simp only[if_pos hV]
theorem agc (an:Nat->An){H:Am.Hp}(hV:zK H)(s:List Nat)(hs:s.length<=281474976710656):CK Tryz.prog (pF Tryz.prog) ext aw an (.func (.func 116) [] []) [.str s] H=some (.tuple [.int .i64 (nz s).1,.bool (nz s).2],H):=by
 refine oN (p:=Gq) (by kernel_rfl) ?_
 unfold Gq
 simp only[if_pos (show zK H/\s.length<=281474976710656 from⟨hV,hs⟩)]
theorem O4 {a:Int}(h:0<=a)(k:a<=17592186044415):iO a=true:=by unfold iO;simp;omega
theorem Wf {a:Int}(h:iO a=true):dR a=(nm a.toNat).map (·.toNat):=by unfold dR;rw[h];rfl
theorem ah8 {a:Int}(h:iO a=true):(dR a).length=14:=by rw[Wf h];simp[nm,AX]
end Go.Proofs.YtehhgkgeldinkaaGreatDoor.nO
namespace Go.Proofs.YtehhgkgeldinkaaGreatDoor.jU
open Go Am Am.K jn dg Sg kM nO K5
theorem qL (l:List Int):(eh l).length=l.length:=by simp[eh]
theorem V8 (l:List Int):∀ v∈eh l,db v=true:=by
 intro v hv
 obtain⟨b,_,rfl⟩:=adj.1 hv
 rfl
theorem aei (a b:List Int):eh (a++b)=eh a++eh b:=by simp[eh]
theorem Mf {l:List Int}{j:Nat}{z:Int}(h:l[j]? = some z):(eh l)[j]? = some (.int .i64 z):=by simp[eh,h]
theorem aoJ {H:Hp}{x:AV}{zs:List Int}(hx:Ow H 2 1 x (eh zs))(hl:zs.length<=16777216) :
  ∃ H',cK (.func (.func 117) [] []) [x] H=some (.tuple [],H')/\Ow H' 2 1 x (eh (qI zs))/\Out (aa x) H H':=by
 generalize hz:eh zs=l at hx
 cases hx with
 | nil=>
  have:zs=[]:=by simpa[eh] using hz
  subst this
  refine⟨H,oN (p:=tY) (by kernel_rfl) ?_,?_,Out.refl _ _⟩
  ·rfl
  ·simp[qI,eh];exact .nil
 | @emp i off=>
  have:zs=[]:=by simpa[eh] using hz
  subst this
  refine⟨H,oN (p:=tY) (by kernel_rfl) ?_,?_,Out.refl _ _⟩
  ·unfold tY
   simp only[if_true]
  ·simp[qI,eh];exact .emp
 | @mk i off n cap ex _ c lo hi fl gS hg hf fG gp fe hn hc hs h1 he=>
  subst hz
  rw[qL,adQ] at hn
  by_cases h0:n=0
  ·subst h0
   have:zs=[]:=List.length_eq_zero_iff.1 hn
   subst this
   refine⟨H,oN (p:=tY) (by kernel_rfl) ?_,?_,Out.refl _ _⟩
   ·unfold tY
    simp only[if_true]
   ·exact .mk gS hg hf fG gp fe (by simp[qI,eh]) (by simp[qI,eh]) hs (by simp[qI,eh]) he
  ·have rD:=Ph zs
   have Gc:Ro H i off (eh zs):=⟨gS,c,lo,hi,2,fl,hg,fG,by rw[qL];omega,hc⟩
   have E0:=Gc.dQ
   rw[qL,hn] at E0
   have alM:(Am.dQ H i off n).bind Ag=some zs:=by rw[E0];exact W9 zs
   have kS:tY [.slice i off n cap ex 1] H=some (.tuple [],{ H with h:=H.h.fJ i (.cells (c.dh off (eh (qI zs))) lo hi 2 fl) }):=by
    unfold tY
    simp only
    rw[if_neg h0,if_pos ⟨trivial,by omega⟩,hg,ac0]
    unfold Qf
    simp only
    rw[if_pos ⟨fG,by omega,hf⟩,alM]
    rfl
   have eF:∀ j,(H.h.fJ i (AO.cells (c.dh off (eh (qI zs))) lo hi 2 fl)).get j=if j=i then some (AO.cells (c.dh off (eh (qI zs))) lo hi 2 fl) else H.h.get j:=fun j=>Tr.Ls _ _ _ _ (by rw[hg];rfl)
   refine⟨_,oN (p:=tY) (by kernel_rfl) kS,?_,⟨aar _,fun j hj vI => ?_⟩⟩
   ·refine .mk (c:=c.dh off (eh (qI zs))) gS ?_ hf fG gp fe (by rw[qL];omega) (fun k v hk => ?_) (fun k hk => ?_) (V8 _) he
    ·show (H.h.fJ i _).get i=_
     rw[eF,if_pos rfl]
    ·have lJ:=(abf.1 hk).1
     rw[Tr.xJ,if_pos ⟨by omega,by omega⟩,agd]
     exact hk
    ·rw[Tr.xJ]
     split
     ·rename_i gH
      rw[aax (by omega)]
      rfl
     ·exact hs k hk
   ·show (H.h.fJ i _).get j=_
    rw[eF,if_neg (fun q=>vI (by subst q;rw[mP he];exact .head _))]
theorem ahG {H:Hp}{el:Nat}{x:AV}{l:List AV}(h:Ow H el 1 x l){j:Nat}(hj:j<l.length){v:AV}(hv:db v=true)(hc:jX v=some [v]) :
  ∃ q H',(∀ k,ia 1 x (.int k j)=some q)/\st 1 q v H=some H'/\Ow H' el 1 x (l.set j v)/\Out (aa x) H H'/\H'.next=H.next:=by
 cases h with
 | nil=>simp at hj
 | emp=>simp at hj
 | @mk i off n cap ex _ c lo hi fl gS hg hf fG gp fe hn gi hs h1 he=>
  obtain⟨H',c',q1,q2,q3,q4,q5⟩:=BP [v] H i (off+j*1) c lo hi el fl hg hf (by omega) (by simp only[abn,abY];omega) (fun k hk=>by
   simp only[abn,abY] at hk
   have:=hs j (by omega)
   rw[show off+j*1+k=off+j by omega]
   exact this) (fun u hu=>by rw[wc] at hu;subst hu;exact hv)
  simp only[abn,abY] at q5
  refine⟨.ptr i (off+j*1),H',fun k=>we (by omega),?_,?_,⟨by omega,fun k hk vI=>q4 k fun e=>vI (by subst e;rw[mP he];exact .head _)⟩,q2⟩
  ·unfold st
   simp only[hc]
   exact q1
  ·refine .mk (by omega) q3 hf fG gp fe (by rw[ahm];exact hn) (fun k w hk => ?_) (fun k hk => ?_) (fun w hw => ?_) he
   ·rw[q5]
    rw[List.getElem?_set] at hk
    split at hk
    ·rename_i e
     subst e
     rw[if_pos ⟨by omega,by omega⟩,show off+j-(off+j*1)=0 by omega]
     exact hk
    ·rw[if_neg (by omega)]
     exact gi k w hk
   ·rw[q5]
    split
    ·rename_i e
     rw[show off+k-(off+j*1)=0 by omega]
     rfl
    ·exact hs k hk
   ·rcases List.mem_or_eq_of_mem_set hw with hw | rfl
    ·exact h1 w hw
    ·exact hv
theorem builtin_clear (Q:Program)(t:Array TypeId)(x:AV)(H:Hp):eP Q .clear t [x] H=(DL Q t x H).map fun H=>(cP,H):=rfl
theorem aks {H:Hp}{x:AV}{l:List AV}(h:Ow H 2 1 x l)(h0:0<l.length){k:Nat}(hk:k<=l.length) :
  ∃ y H',fT 1 x (some (.int .i64 (k:Nat))) none none=some y/\eP P .clear #[149] [y] H=some (cP,H')/\Ow H' 2 1 x (l.take k++List.replicate (l.length-k) (.int .i64 0))/\Out (aa x) H H':=by
 cases h with
 | nil=>simp at h0
 | emp=>simp at h0
 | @mk i off n cap ex _ c lo hi fl gS hg hf fG gp fe hn gi hs h1 he=>
  have hb:=uY (len:=n) (cap:=cap) (a:=k) (b:=n) (lo:=some (.int .i64 (k:Nat))) (hi:=none) (by omega) (aar _) fe (Bd.yes _ _ _) (Bd.no _)
  have pB:(List.replicate (n-k) (AV.int .i64 0)).length=n-k:=aeg
  obtain⟨H',c',q1,q2,q3,q4,q5⟩:=BP (List.replicate (n-k) (AV.int .i64 0)) H i (off+k*1) c lo hi 2 fl hg hf (by omega) (by rw[pB];omega) (fun j hj=>by
   rw[pB] at hj
   have:=hs (k+j) (by omega)
   rw[show off+k*1+j=off+(k+j) by omega]
   exact this) (fun u hu=>by rw[List.eq_of_mem_replicate hu];rfl)
  rw[pB] at q5
  have agQ:∀ m,rep m [AV.int .i64 0]=List.replicate m (AV.int .i64 0):=fun m=>by
   induction m with
   | zero=>rfl
   | succ m ih=>
    unfold rep at ih ⊢
    rw[agH,af4,ih,agH]
    rfl
  refine⟨.slice i (off+k*1) (n-k) (cap-k) (ex||false) 1,H',?_,?_,?_,⟨by omega,fun j hj vI=>q4 j fun e=>vI (by subst e;rw[mP he];exact .head _)⟩⟩
  ·unfold fT
   simp only[hb,ac0,if_true,ai9]
  ·rw[builtin_clear]
   have hz:zc P 2=some [.int .i64 0]:=by kernel_rfl
   have hu:P.underlying 149=some (.slice 2):=Tryz.underlying149
   have:DL P #[149] (.slice i (off+k*1) (n-k) (cap-k) (ex||false) 1) H=setCells H i (off+k*1) (rep (n-k) [.int .i64 0]):=by
    unfold DL
    simp only[ad0,nq,ac0,hu,hz]
   rw[this,agQ,q1]
   rfl
  ·refine .mk (by omega) q3 hf fG gp fe (by simp;omega) (fun j w hj => ?_) (fun j hj => ?_) (fun w hw => ?_) he
   ·rw[q5]
    by_cases Gi:j<k
    ·rw[abU (by rw[afi];omega),adM,if_pos Gi] at hj
     rw[if_neg (by omega)]
     exact gi j w hj
    ·rw[acs (by rw[afi];omega),afi,aiK hk] at hj
     have:=(abf.1 hj).1
     rw[aeg] at this
     rw[if_pos ⟨by omega,by omega⟩,show off+j-(off+k*1)=j-k by omega]
     rw[agO] at hj ⊢
     rw[if_pos (by omega)] at hj
     rw[if_pos (by omega)]
     exact hj
   ·rw[q5]
    split
    ·rw[agO,if_pos (by omega)]
     rfl
    ·exact hs j hj
   ·rcases aal.1 hw with hw | hw
    ·exact h1 w (List.mem_of_mem_take hw)
    ·rw[List.eq_of_mem_replicate hw];rfl
def gz:Int->List Int->List Int
 | _,[]=>[]
 | p,b::r=>if b=p then gz b r else b::gz b r
def yW:List Int->List Int
 | []=>[]
 | a::r=>a::gz a r
theorem XT:∀ (p:Int) (r:List Int),(gz p r).length<=r.length
 | _,[]=>aar _
 | p,b::r=>by
  have:=XT b r
  unfold gz
  split<;>simp only[abn]<;>omega
theorem Nw {j6:K.Fn 1}{iL:K.Fn 2}{n k0:Nat}{x y:AV}(hn:n<=16777216)(vQ:cJ y=some (.int .i64 ((n-k0:Nat):Int))) (hy:∀ j,k0+j<n->ia 1 y (.int .i64 (j:Nat))=ia 1 x (.int .i64 ((k0+j:Nat):Int))) :
  ∀ (r:List Int) (m kk:Nat) (p:Int) (l:List Int) (H:Hp),l.length=n->m<=n->k0<m->kk<m->l.drop (m-1)=p::r->Ow H 2 1 x (eh l)->
  ∃ l' H',(∀ k:K.Fn 2,FR JN GO cK j6 iL k x (.int .i64 (kk:Nat)) y (.int .i64 ((m-k0:Nat):Int)) H=k x (.int .i64 ((kk+(gz p r).length:Nat):Int)) H')/\Ow H' 2 1 x (eh l')/\l'.length=n/\l'.take (kk+(gz p r).length)=l.take kk++gz p r/\Out (aa x) H H'
 | [],m,kk,p,l,H,hl,hm,h0,CH,hd,hx=>by
  have h1:=congrArg List.length hd
  rw[aef] at h1
  simp only[abn,abY] at h1
  have d:decide (((m-k0:Nat):Int)<((n-k0:Nat):Int))=false:=decide_eq_false (by omega)
  refine⟨l,H,fun k => ?_,hx,hl,by simp[gz],Out.refl _ _⟩
  rw[QW]
  simp only[Jl,vQ,d,gz,abY,ae6,aN,bH,aL,aK,cj,aV,aJ,aG,aZ,aO,bh,cq,aS,cx,bV,bo,bR,aM,cg,br,aQ,bO,bu,cn,cu,bG,aW,bB,bk,aI,bA,bE,cB,aT,bf,bQ,cp,bd,bc,aR,bU,bP,bC,cz,cC,bK,cl,aA,bN,aD,cy,bW,aP,aU,bS,bT,cA,ba,cw,bY,bM,aF,bJ,bI,aH,ck,bq,bF,bD,bZ,aY,nq,gk,yS,aat,aag,decide_true,decide_false,Int.reduceBEq,Int.reduceBNe,Int.reduceLT,Int.reduceLE,Int.reduceGT,Int.reduceGE,Int.reduceNeg,ab2,bne_self_eq_false,ge_iff_le,gt_iff_lt]
 | b::r,m,kk,p,l,H,hl,hm,h0,CH,hd,hx=>by
  obtain⟨hp1,qU,tN⟩:=zr hd
  rw[show m-1+1=m by omega] at tN
  obtain⟨DM,iT,tW⟩:=zr tN
  have d:decide (((m-k0:Nat):Int)<((n-k0:Nat):Int))=true:=decide_eq_true (by omega)
  obtain⟨qb,u1,u2⟩:=hx.rw.lA (Mf iT) .i64
  obtain⟨qp,u3,u4⟩:=hx.rw.lA (Mf qU) .i64
  have v1:=hy (m-k0) (by omega)
  rw[show k0+(m-k0)=m by omega,u1] at v1
  have v2:=hy (m-k0-1) (by omega)
  rw[show k0+(m-k0-1)=m-1 by omega,u3] at v2
  have s1:IntKind.wrap .i64 (((m-k0:Nat):Int)-1)=((m-k0-1:Nat):Int):=by rw[wrap_i64 (by omega) (by omega)];omega
  have e1:IntKind.wrap .i64 (((m-k0:Nat):Int)+1)=((m+1-k0:Nat):Int):=by rw[wrap_i64 (by omega) (by omega)];omega
  by_cases pw:b=p
  ·subst pw
   obtain⟨l',H',i1,i2,i3,i4,i5⟩:=Nw (j6:=j6) (iL:=iL) hn vQ hy r (m+1) kk b l H hl (by omega) (by omega) (by omega) (by rw[aio];exact tN) hx
   have hg:gz b (b::r)=gz b r:=by rw[gz,if_pos rfl]
   rw[hg]
   refine⟨l',H',fun k => ?_,i2,i3,i4,i5⟩
   have d2:(b != b)=false:=by simp
   rw[QW]
   simp only[Jl,vQ,d,v1,u2,s1,v2,u4,d2,e1,i1,aN,bH,aL,aK,cj,aV,aJ,aG,aZ,aO,bh,cq,aS,cx,bV,bo,bR,aM,cg,br,aQ,bO,bu,cn,cu,bG,aW,bB,bk,aI,bA,bE,cB,aT,bf,bQ,cp,bd,bc,aR,bU,bP,bC,cz,cC,bK,cl,aA,bN,aD,cy,bW,aP,aU,bS,bT,cA,ba,cw,bY,bM,aF,bJ,bI,aH,ck,bq,bF,bD,bZ,aY,nq,gk,yS,aat,aag,decide_true,decide_false,Int.reduceBEq,Int.reduceBNe,Int.reduceLT,Int.reduceLE,Int.reduceGT,Int.reduceGE,Int.reduceNeg,ab2,bne_self_eq_false,ge_iff_le,gt_iff_lt]
  ·have d2:(b != p)=true:=by simp[pw]
   obtain⟨q,H1,w1,w2,w3,w4,w5⟩:=ahG hx (j:=kk) (by rw[qL];omega) (v := .int .i64 b) rfl rfl
   have fM:(eh l).set kk (.int .i64 b)=eh (l.set kk b):=by simp[eh,List.map_set]
   rw[fM] at w3
   obtain⟨l',H',i1,i2,i3,i4,i5⟩:=Nw (j6:=j6) (iL:=iL) hn vQ hy r (m+1) (kk+1) b (l.set kk b) H1 (by rw[ahm];exact hl) (by omega) (by omega) (by omega) (by rw[aio,List.drop_set_of_lt CH];exact tN) w3
   have hg:gz p (b::r)=b::gz b r:=by rw[gz,if_neg pw]
   have e2:IntKind.wrap .i64 (((kk:Nat):Int)+1)=((kk+1:Nat):Int):=by rw[wrap_i64 (by omega) (by omega)];rfl
   have ht:(l.set kk b).take (kk+1)=l.take kk++[b]:=by
    rw[List.take_set,List.take_add_one,aax (by omega)]
    have hlen:(l.take kk).length=kk:=by rw[afi];omega
    rw[ajA _ _ (by omega),hlen,aja]
    rfl
   rw[hg,abn]
   refine⟨l',H',fun k => ?_,i2,i3,?_,w4.then i5 fun j hj => .inl hj⟩
   ·rw[QW]
    simp only[Jl,vQ,d,v1,u2,s1,v2,u4,d2,w1,w2,e2,e1,i1,aN,bH,aL,aK,cj,aV,aJ,aG,aZ,aO,bh,cq,aS,cx,bV,bo,bR,aM,cg,br,aQ,bO,bu,cn,cu,bG,aW,bB,bk,aI,bA,bE,cB,aT,bf,bQ,cp,bd,bc,aR,bU,bP,bC,cz,cC,bK,cl,aA,bN,aD,cy,bW,aP,aU,bS,bT,cA,ba,cw,bY,bM,aF,bJ,bI,aH,ck,bq,bF,bD,bZ,aY,nq,gk,yS,aat,aag,decide_true,decide_false,Int.reduceBEq,Int.reduceBNe,Int.reduceLT,Int.reduceLE,Int.reduceGT,Int.reduceGE,Int.reduceNeg,ab2,bne_self_eq_false,ge_iff_le,gt_iff_lt]
    rw[show kk+1+(gz b r).length=kk+((gz b r).length+1) by omega]
   ·rw[show kk+((gz b r).length+1)=kk+1+(gz b r).length by omega,i4,ht,adY]
    rfl
theorem Wb {x:AV}{zs:List Int}{H:Hp}(hn:zs.length<=16777216)(hx:Ow H 2 1 x (eh zs)):∀ (r:List Int) (k:Nat) (p:Int),0<k->k<=zs.length->zs.drop (k-1)=p::r->yW zs=zs.take k++gz p r->
  ∃ y H',Da JN GO cK (fun v h=>some (v,h)) x (.int .i64 (k:Nat)) H=some (y,H')/\Ow H' 2 1 y (eh (yW zs))/\Out (aa x) H H'/\∀ j∈aa y,j∈aa x
 | [],k,p,h0,hk,hd,hc=>by
  have h1:=congrArg List.length hd
  rw[aef] at h1
  simp only[abn,abY] at h1
  have zN:k=zs.length:=by omega
  have dW:=hx.rw.gV
  rw[qL] at dW
  have d:decide (((k:Nat):Int)<((zs.length:Nat):Int))=false:=decide_eq_false (by omega)
  refine⟨x,H,?_,?_,Out.refl _ _,fun j hj=>hj⟩
  ·rw[Rt]
   simp only[K7,dW,d,aN,bH,aL,aK,cj,aV,aJ,aG,aZ,aO,bh,cq,aS,cx,bV,bo,bR,aM,cg,br,aQ,bO,bu,cn,cu,bG,aW,bB,bk,aI,bA,bE,cB,aT,bf,bQ,cp,bd,bc,aR,bU,bP,bC,cz,cC,bK,cl,aA,bN,aD,cy,bW,aP,aU,bS,bT,cA,ba,cw,bY,bM,aF,bJ,bI,aH,ck,bq,bF,bD,bZ,aY,nq,gk,yS,aat,aag,decide_true,decide_false,Int.reduceBEq,Int.reduceBNe,Int.reduceLT,Int.reduceLE,Int.reduceGT,Int.reduceGE,Int.reduceNeg,ab2,bne_self_eq_false,ge_iff_le,gt_iff_lt]
  ·rw[hc,gz,afD,aea (by omega)]
   exact hx
 | b::r,k,p,h0,hk,hd,hc=>by
  obtain⟨hp1,qU,tN⟩:=zr hd
  rw[show k-1+1=k by omega] at tN
  obtain⟨DM,iT,tW⟩:=zr tN
  have dW:=hx.rw.gV
  rw[qL] at dW
  have d:decide (((k:Nat):Int)<((zs.length:Nat):Int))=true:=decide_eq_true (by omega)
  obtain⟨qb,u1,u2⟩:=hx.rw.lA (Mf iT) .i64
  obtain⟨qp,u3,u4⟩:=hx.rw.lA (Mf qU) .i64
  have s1:IntKind.wrap .i64 (((k:Nat):Int)-1)=((k-1:Nat):Int):=by rw[wrap_i64 (by omega) (by omega)];omega
  have e1:IntKind.wrap .i64 (((k:Nat):Int)+1)=((k+1:Nat):Int):=by rw[wrap_i64 (by omega) (by omega)];rfl
  by_cases pw:b=p
  ·subst pw
   have d2:(b==b)=true:=by simp
   have hg:gz b (b::r)=gz b r:=by rw[gz,if_pos rfl]
   rw[hg] at hc
   have EJ:∃ y,fT 1 x (some (.int .i64 (k:Nat))) none none=some y/\cJ y=some (.int .i64 ((zs.length-k:Nat):Int))/\∀ j,k+j<zs.length->ia 1 y (.int .i64 (j:Nat))=ia 1 x (.int .i64 ((k+j:Nat):Int)):=by
    have gK:=hx
    generalize hz:eh zs=l at gK
    have oX:l.length=zs.length:=by rw[<-hz,qL]
    cases gK with
    | nil=>simp at oX;omega
    | emp=>simp at oX;omega
    | @mk i off n cap ex _ c lo hi fl gS hg hf fG gp fe vI gi hs h1 he=>
     have ur:n=zs.length:=by omega
     have hb:=uY (len:=n) (cap:=cap) (a:=k) (b:=n) (lo:=some (.int .i64 (k:Nat))) (hi:=none) (by omega) (aar _) fe (Bd.yes _ _ _) (Bd.no _)
     refine⟨.slice i (off+k*1) (n-k) (cap-k) (ex||false) 1,?_,?_,fun j hj => ?_⟩
     ·unfold fT
      simp only[hb,ac0,if_true,ai9]
     ·rw[aF,ur]
     ·rw[we (by omega),we (by omega)]
      congr 2
      omega
   obtain⟨y,y1,y2,y3⟩:=EJ
   obtain⟨l',H1,i1,i2,i3,i4,i5⟩:=Nw (j6:=fun v h=>some (v,h)) (iL:=fun gU iK zo=>B1 (dj iK (.int .i64 1)) fun vC=>Da JN GO cK (fun v h=>some (v,h)) gU vC zo) (x:=x) (y:=y) hn y2 y3 r (k+1) k b zs H rfl (by omega) (by omega) (by omega) (by rw[aio];exact tN) hx
   rw[<-hc] at i4
   have hgl:=XT b r
   have pB:r.length+(k+1)=zs.length:=by
    have:=congrArg List.length tW
    rw[aef] at this
    omega
   obtain⟨y5,H2,c1,c2,c3,c4⟩:=aks i2 (by rw[qL];omega) (k:=k+(gz b r).length) (by rw[qL];omega)
   have TX:(eh l').take (k+(gz b r).length)=eh (yW zs):=by rw[<-i4];simp[eh,List.map_take]
   rw[TX] at c3
   have oV:(eh (yW zs)).length=k+(gz b r).length:=by rw[qL,<-i4,afi];omega
   obtain⟨y6,t1,t2,t3⟩:=Mv (n:=zs.length) (a:=0) (b:=k+(gz b r).length) c3 (by rw[abz,oV,aeg,qL,i3];omega) (by decide) (lo:=none) (hi:=some (.int .i64 ((k+(gz b r).length:Nat):Int))) (adf _) (by omega) (Bd.no 0) (Bd.yes _ _ _)
   rw[afB,afO,ae9,adQ,<-oV,List.take_left' rfl] at t2
   have e11:((k+1-k:Nat):Int)=1:=by omega
   rw[e11] at i1
   refine⟨y6,H2,?_,t2,i5.then c4 fun j hj => .inl hj,t3⟩
   rw[Rt]
   simp only[K7,dW,d,u1,u2,s1,u3,u4,d2,y1,i1,c1,c2,t1,aN,bH,aL,aK,cj,aV,aJ,aG,aZ,aO,bh,cq,aS,cx,bV,bo,bR,aM,cg,br,aQ,bO,bu,cn,cu,bG,aW,bB,bk,aI,bA,bE,cB,aT,bf,bQ,cp,bd,bc,aR,bU,bP,bC,cz,cC,bK,cl,aA,bN,aD,cy,bW,aP,aU,bS,bT,cA,ba,cw,bY,bM,aF,bJ,bI,aH,ck,bq,bF,bD,bZ,aY,nq,gk,yS,aat,aag,decide_true,decide_false,Int.reduceBEq,Int.reduceBNe,Int.reduceLT,Int.reduceLE,Int.reduceGT,Int.reduceGE,Int.reduceNeg,ab2,bne_self_eq_false,ge_iff_le,gt_iff_lt]
  ·have d2:(b==p)=false:=by simp[pw]
   have hg:gz p (b::r)=b::gz b r:=by rw[gz,if_neg pw]
   obtain⟨y,H',i1,i2,i3,i4⟩:=Wb hn hx r (k+1) b (by omega) (by omega) (by rw[aio];exact tN) (by rw[hc,hg,List.take_add_one,iT];simp)
   refine⟨y,H',?_,i2,i3,i4⟩
   rw[Rt]
   simp only[K7,dW,d,u1,u2,s1,u3,u4,d2,e1,i1,aN,bH,aL,aK,cj,aV,aJ,aG,aZ,aO,bh,cq,aS,cx,bV,bo,bR,aM,cg,br,aQ,bO,bu,cn,cu,bG,aW,bB,bk,aI,bA,bE,cB,aT,bf,bQ,cp,bd,bc,aR,bU,bP,bC,cz,cC,bK,cl,aA,bN,aD,cy,bW,aP,aU,bS,bT,cA,ba,cw,bY,bM,aF,bJ,bI,aH,ck,bq,bF,bD,bZ,aY,nq,gk,yS,aat,aag,decide_true,decide_false,Int.reduceBEq,Int.reduceBNe,Int.reduceLT,Int.reduceLE,Int.reduceGT,Int.reduceGE,Int.reduceNeg,ab2,bne_self_eq_false,ge_iff_le,gt_iff_lt]
theorem adC {H:Hp}{x:AV}{zs:List Int}(hx:Ow H 2 1 x (eh zs))(hn:zs.length<=16777216) :
  ∃ y H',cK (.func (.func 118) [] []) [x] H=some (y,H')/\Ow H' 2 1 y (eh (yW zs))/\Out (aa x) H H'/\∀ j∈aa y,j∈aa x:=by
 have dW:=hx.rw.gV
 rw[qL] at dW
 by_cases h2:zs.length<2
 ·have d:decide (((zs.length:Nat):Int)<2)=true:=decide_eq_true (by omega)
  have hz:yW zs=zs:=by
   match zs,h2 with
   | [],_=>rfl
   | [a],_=>rfl
  refine⟨x,H,ZS ?_,by rw[hz];exact hx,Out.refl _ _,fun j hj=>hj⟩
  unfold Pg
  simp only[dW,d,aN,bH,aL,aK,cj,aV,aJ,aG,aZ,aO,bh,cq,aS,cx,bV,bo,bR,aM,cg,br,aQ,bO,bu,cn,cu,bG,aW,bB,bk,aI,bA,bE,cB,aT,bf,bQ,cp,bd,bc,aR,bU,bP,bC,cz,cC,bK,cl,aA,bN,aD,cy,bW,aP,aU,bS,bT,cA,ba,cw,bY,bM,aF,bJ,bI,aH,ck,bq,bF,bD,bZ,aY,nq,gk,yS,aat,aag,decide_true,decide_false,Int.reduceBEq,Int.reduceBNe,Int.reduceLT,Int.reduceLE,Int.reduceGT,Int.reduceGE,Int.reduceNeg,ab2,bne_self_eq_false,ge_iff_le,gt_iff_lt]
 ·have d:decide (((zs.length:Nat):Int)<2)=false:=decide_eq_false (by omega)
  obtain⟨a,r,rfl⟩:∃ a r,zs=a::r:=by
   cases zs with
   | nil=>simp at h2
   | cons a r=>exact⟨a,r,rfl⟩
  obtain⟨y,H',i1,i2,i3,i4⟩:=Wb hn hx r 1 a (by decide) (by omega) rfl rfl
  rw[show (((1:Nat):Int))=1 from rfl] at i1
  refine⟨y,H',ZS ?_,i2,i3,i4⟩
  unfold Pg
  simp only[dW,d,aN,bH,aL,aK,cj,aV,aJ,aG,aZ,aO,bh,cq,aS,cx,bV,bo,bR,aM,cg,br,aQ,bO,bu,cn,cu,bG,aW,bB,bk,aI,bA,bE,cB,aT,bf,bQ,cp,bd,bc,aR,bU,bP,bC,cz,cC,bK,cl,aA,bN,aD,cy,bW,aP,aU,bS,bT,cA,ba,cw,bY,bM,aF,bJ,bI,aH,ck,bq,bF,bD,bZ,aY,nq,gk,yS,aat,aag,decide_true,decide_false,Int.reduceBEq,Int.reduceBNe,Int.reduceLT,Int.reduceLE,Int.reduceGT,Int.reduceGE,Int.reduceNeg,ab2,bne_self_eq_false,ge_iff_le,gt_iff_lt]
  exact i1
theorem Ah:∀ g l,(g,l)∈dN->g<11:=by
 have h:(dN.all fun q=>Nat.blt q.1 11)=true:=by kernel_rfl
 intro g l hg
 have:=ac6.1 h (g,l) hg
 simpa using this
theorem ly {H H':Hp}(h:ez H dN)(hn:11<=H.next)(k:Out [] H H'):ez H' dN:=by
 obtain⟨el,h⟩:=h
 refine⟨el,fun g l hg => ?_⟩
 have:=Ah g l hg
 rw[k.2 g (by omega) (fun q=>by cases q)]
 exact h g l hg
def strs (l:List (List Nat)):List AV:=l.map AV.str
theorem mM (l:List (List Nat)):(strs l).length=l.length:=by simp[strs]
theorem aay (l:List (List Nat)):∀ v∈strs l,db v=true:=by
 intro v hv
 obtain⟨b,_,rfl⟩:=adj.1 hv
 rfl
theorem IN (a b:List (List Nat)):strs (a++b)=strs a++strs b:=by simp[strs]
theorem zM {l:List (List Nat)}{j:Nat}{z:List Nat}(h:l[j]? = some z):(strs l)[j]? = some (.str z):=by simp[strs,h]
def pE:List (List Nat)->List Int
 | []=>[]
 | s::r=>if (nz s).2=true then ((nz s).1:Int)::pE r else pE r
theorem MY {H0:Hp}{x:AV}{ns:List (List Nat)}(hx:Rw H0 1 x (strs ns))(hT:ez H0 dN)(hn:11<=H0.next)(hl:ns.length<=1000)(hs:∀ s∈ns,s.length<=281474976710656):∀ (r:List (List Nat)) (i:Nat) (s:AV) (A:List Int) (H:Hp),ns.drop i=r->i<=ns.length->Out [] H0 H->Ow H 2 1 s (eh A)->(∀ j∈aa s,H0.next<=j)->A.length<=i->
  ∃ s' H',(∀ k:K.Fn 1,GW JN GO cK k s x (.int .i64 (ns.length:Nat)) (.int .i64 (i:Nat)) H=k s' H')/\Out [] H0 H'/\Ow H' 2 1 s' (eh (A++pE r))/\(∀ j∈aa s',H0.next<=j)/\(A++pE r).length<=ns.length
 | [],i,s,A,H,hr,hi,ho,rD,jh,hA=>by
  have:ns.length<=i:=by simpa using hr
  have d:decide (((i:Nat):Int)<((ns.length:Nat):Int))=false:=decide_eq_false (by omega)
  refine⟨s,H,fun k => ?_,ho,by simpa[pE] using rD,jh,by simp[pE];omega⟩
  rw[N7]
  simp only[LA,d,aN,bH,aL,aK,cj,aV,aJ,aG,aZ,aO,bh,cq,aS,cx,bV,bo,bR,aM,cg,br,aQ,bO,bu,cn,cu,bG,aW,bB,bk,aI,bA,bE,cB,aT,bf,bQ,cp,bd,bc,aR,bU,bP,bC,cz,cC,bK,cl,aA,bN,aD,cy,bW,aP,aU,bS,bT,cA,ba,cw,bY,bM,aF,bJ,bI,aH,ck,bq,bF,bD,bZ,aY,nq,gk,yS,aat,aag,decide_true,decide_false,Int.reduceBEq,Int.reduceBNe,Int.reduceLT,Int.reduceLE,Int.reduceGT,Int.reduceGE,Int.reduceNeg,ab2,bne_self_eq_false,ge_iff_le,gt_iff_lt]
 | c::r,i,s,A,H,hr,hi,ho,rD,jh,hA=>by
  obtain⟨gS,hv,eg⟩:=zr hr
  have d:decide (((i:Nat):Int)<((ns.length:Nat):Int))=true:=decide_eq_true (by omega)
  obtain⟨q,u1,u2⟩:=(hx.out ho fun j _ q=>by cases q).lA (zM hv) .i64
  have hp:=agc an (T9 (ly hT hn ho)) c (hs c (acx hv))
  have e3:IntKind.wrap .i64 (((i:Nat):Int)+1)=((i+1:Nat):Int):=by rw[wrap_i64 (by omega) (by omega)];rfl
  by_cases lu:(nz c).2=true
  ·obtain⟨H1,n1,n2,n3,n4⟩:=eJ H [.int .i64 (((nz c).1:Nat):Int)] 2 0 (by simp)
   have jC:Rw H1 1 (.slice H.next 0 1 1 true 1) (eh [(((nz c).1:Nat):Int)]) := .mk n2.ro rfl (aar _) rfl
   have tj:=rD.out n3 fun j _ q=>by cases q
   obtain⟨s',H2,a1,a2,a3,a4⟩:=wU (z:=[.int .i64 0]) tj jC (V8 _) (by omega) (by rw[qL,qL];simp;omega)
   rw[<-aei] at a2
   have o2:Out [] H0 H2:=(ho.trans n3).then a3 fun j hj => .inr (jh j hj)
   have akC:∀ j∈aa s',H0.next<=j:=fun j hj=>(a4 j hj).elim (jh j) fun q=>abS (ho.trans n3).1 q
   obtain⟨s2,H3,b1,b2,b3,b4,b5⟩:=MY hx hT hn hl hs r (i+1) s' _ H2 eg (by omega) o2 a2 akC (by simp;omega)
   have TG:pE (c::r)=(((nz c).1:Nat):Int)::pE r:=by rw[pE,if_pos lu]
   rw[TG]
   rw[adY] at b3 b5
   refine⟨s2,H3,fun k => ?_,b2,b3,b4,b5⟩
   have hf:fl [.int .i64 0] [(0,1,AV.int .i64 (((nz c).1:Nat):Int))]=some [.int .i64 (((nz c).1:Nat):Int)]:=rfl
   rw[N7]
   rw[lu] at hp
   simp only[LA,d,u1,u2,hp,hf,n1,a1,e3,b1,aN,bH,aL,aK,cj,aV,aJ,aG,aZ,aO,bh,cq,aS,cx,bV,bo,bR,aM,cg,br,aQ,bO,bu,cn,cu,bG,aW,bB,bk,aI,bA,bE,cB,aT,bf,bQ,cp,bd,bc,aR,bU,bP,bC,cz,cC,bK,cl,aA,bN,aD,cy,bW,aP,aU,bS,bT,cA,ba,cw,bY,bM,aF,bJ,bI,aH,ck,bq,bF,bD,bZ,aY,nq,gk,yS,aat,aag,decide_true,decide_false,Int.reduceBEq,Int.reduceBNe,Int.reduceLT,Int.reduceLE,Int.reduceGT,Int.reduceGE,Int.reduceNeg,ab2,bne_self_eq_false,ge_iff_le,gt_iff_lt]
  ·have aoZ:(nz c).2=false:=by simpa using lu
   obtain⟨s2,H3,b1,b2,b3,b4,b5⟩:=MY hx hT hn hl hs r (i+1) s _ H eg (by omega) ho rD jh (by omega)
   have TG:pE (c::r)=pE r:=by rw[pE,if_neg lu]
   rw[TG]
   refine⟨s2,H3,fun k => ?_,b2,b3,b4,b5⟩
   rw[N7]
   rw[aoZ] at hp
   simp only[LA,d,u1,u2,hp,e3,b1,aN,bH,aL,aK,cj,aV,aJ,aG,aZ,aO,bh,cq,aS,cx,bV,bo,bR,aM,cg,br,aQ,bO,bu,cn,cu,bG,aW,bB,bk,aI,bA,bE,cB,aT,bf,bQ,cp,bd,bc,aR,bU,bP,bC,cz,cC,bK,cl,aA,bN,aD,cy,bW,aP,aU,bS,bT,cA,ba,cw,bY,bM,aF,bJ,bI,aH,ck,bq,bF,bD,bZ,aY,nq,gk,yS,aat,aag,decide_true,decide_false,Int.reduceBEq,Int.reduceBNe,Int.reduceLT,Int.reduceLE,Int.reduceGT,Int.reduceGE,Int.reduceNeg,ab2,bne_self_eq_false,ge_iff_le,gt_iff_lt]
def Eu (ns:List (List Nat)):List Int:=yW (qI (pE ns))
theorem am4 {H:Hp}{x:AV}{ns:List (List Nat)}(hx:Rw H 1 x (strs ns))(hT:ez H dN)(hn:11<=H.next)(hl:ns.length<=1000)(hs:∀ s∈ns,s.length<=281474976710656) :
  ∃ y H',cK (.func (.func 65) [] []) [x] H=some (y,H')/\Out [] H H'/\Ow H' 2 1 y (eh (Eu ns))/\∀ j∈aa y,H.next<=j:=by
 have dW:=hx.gV
 rw[mM] at dW
 obtain⟨s,H1,a1,a2,a3,a4,a5⟩:=MY hx hT hn hl hs ns 0 .ae [] H rfl (adf _) (Out.refl _ _) .nil (fun j hj=>by cases hj) (aar _)
 rw[afE] at a3 a5
 rw[show (((0:Nat):Int))=0 from rfl] at a1
 obtain⟨H2,b1,b2,b3⟩:=aoJ a3 (by omega)
 obtain⟨y,H3,c1,c2,c3,c4⟩:=adC b2 (by rw[Ph];omega)
 refine⟨y,H3,amM ?_,(a2.then b3 fun j hj => .inr (a4 j hj)).then c3 fun j hj => .inr (a4 j hj),c2,fun j hj=>a4 j (c4 j hj)⟩
 unfold Xg
 simp only[dW,a1,b1,c1,aN,bH,aL,aK,cj,aV,aJ,aG,aZ,aO,bh,cq,aS,cx,bV,bo,bR,aM,cg,br,aQ,bO,bu,cn,cu,bG,aW,bB,bk,aI,bA,bE,cB,aT,bf,bQ,cp,bd,bc,aR,bU,bP,bC,cz,cC,bK,cl,aA,bN,aD,cy,bW,aP,aU,bS,bT,cA,ba,cw,bY,bM,aF,bJ,bI,aH,ck,bq,bF,bD,bZ,aY,nq,gk,yS,aat,aag,decide_true,decide_false,Int.reduceBEq,Int.reduceBNe,Int.reduceLT,Int.reduceLE,Int.reduceGT,Int.reduceGE,Int.reduceNeg,ab2,bne_self_eq_false,ge_iff_le,gt_iff_lt]
theorem Xe:∀ (ns:List (List Nat)) (z:Int),z∈pE ns ↔ ∃ s∈ns,(nz s).2=true/\z=((nz s).1:Int)
 | [],z=>by simp[pE]
 | c::r,z=>by
  have ih:=Xe r z
  rw[pE]
  split
  ·rename_i h
   rw[yL,ih]
   constructor
   ·rintro (rfl | ⟨s,a,b⟩)
    ·exact⟨c,.head _,h,rfl⟩
    ·exact⟨s,.tail _ a,b⟩
   ·rintro⟨s,a,b,e⟩
    rcases yL.1 a with rfl | a
    ·exact .inl e
    ·exact .inr ⟨s,a,b,e⟩
  ·rename_i h
   rw[ih]
   constructor
   ·rintro⟨s,a,b⟩
    exact⟨s,.tail _ a,b⟩
   ·rintro⟨s,a,b,e⟩
    rcases yL.1 a with rfl | a
    ·exact absurd b h
    ·exact⟨s,a,b,e⟩
theorem Up:∀ (p:Int) (r:List Int) (x:Int),x∈p::gz p r↔x∈p::r
 | p,[],x=>by simp[gz]
 | p,b::r,x=>by
  have ih:=Up b r x
  rw[gz]
  split
  ·rename_i h
   subst h
   rw[ih]
   simp
  ·rw[yL,ih]
   simp
theorem am5 (l:List Int)(x:Int):x∈yW l↔x∈l:=by
 cases l with
 | nil=>rfl
 | cons a r=>exact Up a r x
theorem anB (ns:List (List Nat))(z:Int):z∈Eu ns ↔ ∃ s∈ns,(nz s).2=true/\z=((nz s).1:Int):=by
 unfold Eu
 rw[am5,<-Xe]
 exact (List.mergeSort_perm _ _).mem_iff
end Go.Proofs.YtehhgkgeldinkaaGreatDoor.jU
namespace Go.Proofs.YtehhgkgeldinkaaGreatDoor.dg
open Go Am Am.K jn Sg kM nO jU iX
theorem ZL:∀ (k n:Nat) (x:UInt8),x∈pad k n->∃ d:Fin 16,x=hd d
 | 0,n,x,h=>by cases h
 | k+1,n,x,h=>by
  rcases aal.1 h with h | h
  ·exact ZL k _ x h
  ·exact⟨⟨n % 16,ah1 _ (by decide)⟩,by simpa using h⟩
theorem aiH {a:Int}(h:iO a=true):∀ x∈dR a,vb.contains x=true:=by
 have key:∀ d:Fin 16,vb.contains (hd d).toNat=true:=by decide
 intro x hx
 rw[Wf h] at hx
 obtain⟨y,hy,rfl⟩:=adj.1 hx
 unfold nm at hy
 rcases yL.1 hy with rfl | hy
 ·decide
 rcases yL.1 hy with rfl | hy
 ·decide
 obtain⟨d,rfl⟩:=ZL _ _ _ hy
 exact key d
theorem YE {α:Type}{p:α->Bool}:∀ (l:List α),(∀ x∈l,p x=true)->l.dropWhile p=[]
 | [],_=>rfl
 | x::l,h=>by
  rw[List.dropWhile_cons,if_pos (h x (.head _))]
  exact YE l fun y hy=>h y (.tail _ hy)
theorem XM {a:Int}(h:iO a=true):iV (dR a)=true:=by
 have hl:=ah8 h
 have ht:Ax (dR a) vb=[]:=by
  rw[VN]
  have:(dR a).reverse.dropWhile (vb.contains ·)=[]:=YE _ fun x hx=>aiH h x (List.mem_reverse.1 hx)
  rw[this];rfl
 have cL:(dR a==[])=false:=by
  cases hq:dR a with
  | nil=>rw[hq] at hl;cases hl
  | cons x l=>rfl
 unfold iV
 rw[cL,hl,ht]
 rfl
end Go.Proofs.YtehhgkgeldinkaaGreatDoor.dg
namespace Go.Proofs.YtehhgkgeldinkaaGreatDoor.Am.K
open Go
theorem aaC:∀ (vs c r:List AV) (k:Nat),k+vs.length<=c.length->lW (c++r) k vs=lW c k vs++r
 | [],c,r,k,h=>rfl
 | v::vs,c,r,k,h=>by
  simp only[abn] at h
  show lW ((c++r).set k v) (k+1) vs=lW (c.set k v) (k+1) vs++r
  rw[List.set_append_left _ _ (by omega)]
  exact aaC vs _ _ _ (by rw[ahm];omega)
theorem aaG:∀ (vs a r:List AV) (k:Nat),lW (a++r) (a.length+k) vs=a++lW r k vs
 | [],a,r,k=>rfl
 | v::vs,a,r,k=>by
  show lW ((a++r).set (a.length+k) v) (a.length+k+1) vs=a++lW (r.set k v) (k+1) vs
  rw[ajA _ _ (by omega),agd,afj]
  exact aaG vs _ _ _
theorem Xn {es:Nat}{vs:List AV}{k:Nat}(hk:k+vs.length<=es):∀ {L:List (List AV)} {i:Nat} {c:List AV},(∀ c∈L,c.length=es)->L[i]? = some c->(L.set i (lW c k vs)).flatten=lW L.flatten (i*es+k) vs
 | [],i,c,_,h=>by simp at h
 | a::L,0,c,hl,h=>by
  simp only[nq,acS] at h
  subst h
  have:=hl a (.head _)
  rw[afB,yS]
  show lW a k vs++L.flatten=lW (a++L.flatten) k vs
  rw[aaC _ _ _ _ (by omega)]
 | a::L,i+1,c,hl,h=>by
  simp only[gk] at h
  have ha:=hl a (.head _)
  show a++(L.set i (lW c k vs)).flatten=lW (a++L.flatten) ((i+1)*es+k) vs
  rw[Xn hk (fun d hd=>hl d (.tail _ hd)) h,aeS,ahp,show i*es+es+k=a.length+(i*es+k) by omega,aaG]
theorem OL.ak2 {H:Hp}{el es:Nat}{x:AV}{L:List (List AV)}(h:OL H el es x L){i k b o:Nat}{c vs:List AV}(hi:L[i]? = some c)(MG:∀ kd,ia es x (.int kd i)=some (.ptr b o))(hv:∀ v∈vs,db v=true)(hk:k+vs.length<=es)(dC:0<es) :
  ∃ H',setCells H b (o+k) vs=some H'/\OL H' el es x (L.set i (lW c k vs))/\Out (aa x) H H'/\H'.next=H.next:=by
 obtain⟨ho,hl⟩:=h
 have mC:=(abf.1 hi).1
 have sH:=EE hl
 have tv:=Xn hk hl hi
 have hc:=hl c (acx hi)
 have AH:i*es+es<=L.flatten.length:=by
  rw[sH]
  have:=ad4 es (show i+1<=L.length by omega)
  rw[aeS,ahp] at this
  exact this
 have DA:∀ d∈L.set i (lW c k vs),d.length=es:=fun d hd=>by
  rcases List.mem_or_eq_of_mem_set hd with hd | rfl
  ·exact hl d hd
  ·rw[Th];exact hc
 generalize hF:L.flatten=F at *
 cases ho with
 | nil=>simp at AH;omega
 | emp=>simp at AH;omega
 | @mk i0 off n cap ex _ ct lo vq fl gS hg hf fG gp fe hn gi hs h1 he=>
  have gH:i<n:=by
   rw[sH] at hn
   exact ahD dC hn▸mC
  have e:=MG .i64
  rw[we gH] at e
  injection e with e
  injection e with eb eo
  subst eb
  subst eo
  have WT:n*es<=cap*es:=ad4 _ fe
  obtain⟨H',c',q1,q2,q3,q4,q5⟩:=BP vs H i0 (off+i*es+k) ct lo vq el fl hg hf (by omega) (by omega) (fun m hm=>by
   have:=hs (i*es+k+m) (by omega)
   rw[show off+i*es+k+m=off+(i*es+k+m) by omega]
   exact this) hv
  refine⟨H',q1,⟨?_,DA⟩,⟨by omega,fun j hj vI=>q4 j fun e=>vI (by subst e;rw[mP he];exact .head _)⟩,q2⟩
  rw[tv]
  refine .mk (by omega) q3 hf fG gp fe (by rw[Th];exact hn) (fun m w hm => ?_) (fun m hm => ?_) (fun w hw => ?_) he
  ·rw[q5]
   rw[OM _ _ _ _ (by omega)] at hm
   split at hm
   ·rw[if_pos (by omega),show off+m-(off+i*es+k)=m-(i*es+k) by omega];exact hm
   ·rw[if_neg (by omega)];exact gi m w hm
  ·rw[q5]
   split
   ·rename_i hb
    rw[aax (by omega)];rfl
   ·exact hs m hm
  ·obtain⟨m,hm⟩:=List.getElem?_of_mem hw
   rw[OM _ _ _ _ (by omega)] at hm
   split at hm
   ·exact hv w (acx hm)
   ·exact h1 w (acx hm)
theorem OL.qZ {H:Hp}{el es:Nat}{x:AV}{L:List (List AV)}(h:OL H el es x L){i k b o:Nat}{c:List AV}{v:AV}(hi:L[i]? = some c)(MG:∀ kd,ia es x (.int kd i)=some (.ptr b o))(hv:db v=true)(hk:k<es) :
  ∃ H',st 1 (.ptr b (o+k)) v H=some H'/\OL H' el es x (L.set i (c.set k v))/\Out (aa x) H H'/\H'.next=H.next:=by
 obtain⟨H',h1,h2⟩:=h.ak2 (k:=k) (vs:=[v]) hi MG (fun u hu=>by rw[wc] at hu;subst hu;exact hv) (by simp only[abn,abY];omega) (by omega)
 refine⟨H',?_,h2⟩
 unfold st
 simp only[Vp hv]
 exact h1
end Go.Proofs.YtehhgkgeldinkaaGreatDoor.Am.K
namespace Go.Proofs.YtehhgkgeldinkaaGreatDoor.jU
open Go Am Am.K jn dg
theorem Rs.lg {H H':Hp}{x:AV}{rs:List (Nat × List Nat)}{ys:List AV}{S:List Nat}(h:Rs H x rs ys)(k:Out S H H')(hx:∀ j∈aa x,j∉S)(hy:∀ y∈ys,∀ j∈aa y,j∉S):Rs H' x rs ys:=
 ⟨h.own.out k hx,h.len,fun j y r h1 h2=>(h.row j y r h1 h2).out k (hy y (acx h1)),h.sep⟩
theorem Rs.uh {H:Hp}{x:AV}{rs:List (Nat × List Nat)}{ys:List AV}(h:Rs H x rs ys):∀ y∈ys,∀ i∈aa y,i<H.next:=by
 intro y hy i hi
 obtain⟨j,hj⟩:=List.mem_iff_getElem?.1 hy
 have qO:=(abf.1 hj).1
 exact (h.row j y _ hj (aax (by rw[<-h.len];exact qO))).lt i hi
theorem Rs.push {H:Hp}{s y:AV}{rs:List (Nat × List Nat)}{ys:List AV}{a:Nat}{b:List Nat}(h:Rs H s rs ys)(hy:Rw H 1 y (bs b))(hd:∀ i∈aa y,i∉aa s)(hl:rs.length<=100000) :
  ∃ H1 s' H2,cI H [.int .u64 (a:Nat),y] 128 0=some (H.next,H1)/\fZ 128 2 [.int .u64 0,.ae] false s (.slice H.next 0 1 1 true 2) H1=some (s',H2)/\
   Rs H2 s' (rs++[(a,b)]) (ys++[y])/\Out (aa s) H H2/\(∀ j∈aa s',j∈aa s\/H.next<=j):=by
 obtain⟨H4,m1,m2,m3,m4⟩:=eJ H [.int .u64 ((a:Nat):Int),y] 128 0 (by simp)
 have jC:Rw H4 2 (.slice H.next 0 1 1 true 2) [.int .u64 ((a:Nat):Int),y] := .mk m2.ro rfl (aar _) rfl
 have hs4:=h.out m3
 have rD:=h.own.rw.lt
 obtain⟨s',H5,a1,a2,a3,a4⟩:=wU (z:=[.int .u64 0,.ae]) hs4.own jC (by
  intro v hv
  rcases yL.1 hv with rfl | hv
  ·rfl
  ·rcases yL.1 hv with rfl | hv
   ·exact Kv hy
   ·cases hv) (by omega) (by rw[He _ _ h.len];simp only[abn,abY];omega)
 have yo:Rw H4 1 y (bs b):=hy.out m3 fun j _ q=>by cases q
 have vQ:=hy.lt
 have R2:∀ j∈aa s',j∈aa s\/H.next<=j:=fun j hj=>(a4 j hj).imp id fun q=>abS m3.1 q
 refine⟨H4,s',H5,m1,a1,⟨by rw[Ym _ _ _ _ h.len];exact a2,by simp[h.len],?_,?_⟩,(m3.mono fun j hj=>by cases hj).trans a3,R2⟩
 ·intro j z r h3 h4
  by_cases hj:j<ys.length
  ·rw[abU hj] at h3
   rw[abU (by rw[<-h.len];exact hj)] at h4
   exact (hs4.row j z r h3 h4).out a3 (h.sep z (acx h3))
  ·rw[acs (by omega)] at h3
   rw[acs (by rw[<-h.len];omega),<-h.len] at h4
   obtain⟨e1,rfl⟩:j-ys.length=0/\z=y:=by
    cases hq:j-ys.length with
    | zero=>rw[hq] at h3;simp at h3;exact⟨rfl,h3.symm⟩
    | succ q=>rw[hq] at h3;simp at h3
   rw[e1] at h4
   simp at h4
   subst h4
   exact yo.out a3 hd
 ·intro z hz i hi q
  rcases aal.1 hz with hz | hz
  ·rcases R2 i q with q | q
   ·exact h.sep z hz i hi q
   ·have:=h.uh z hz i hi;omega
  ·rw[wc] at hz
   subst hz
   rcases R2 i q with q | q
   ·exact hd i hi q
   ·have:=vQ i hi;omega
end Go.Proofs.YtehhgkgeldinkaaGreatDoor.jU
namespace Go.Proofs.YtehhgkgeldinkaaGreatDoor.dg
open Go Am Am.K jn Sg kM nO jU iX
section
def pc (q:Int × Int):List AV:=[.int .i64 q.1,.int .i64 q.2]
def JM (lp:Nat)(xp xr:AV)(p:Nat)(L:Lay):List Nat:=lp::(aa xp++(aa xr++dL p L))
structure LM where
 ei:Int
 m:SM
 parts:List (Int × Int)
 cM:List (Nat × List Nat)
 first:Int
 sure:Int
structure LP where
 L:Lay
 xp:AV
 xr:AV
 ys:List AV
abbrev lf (lp p:Nat)(l:LP):List Nat:=JM lp l.xp l.xr p l.L
structure Lg (H:Hp)(lp p:Nat)(m:LM)(l:LP):Prop where
 head:C0 H lp [.ptr p 0,.int .i64 m.ei,l.xp,l.xr,.int .i64 m.first,.int .i64 m.sure]
 st:St H p m.m l.L
 parts:OL H 153 2 l.xp (m.parts.map pc)
 cM:Rs H l.xr m.cM l.ys
 nd:(lf lp p l).Nodup
 row:∀ y∈l.ys,∀ i∈aa y,i∉lf lp p l
def eT (lp p:Nat)(H:Hp)(l:LP)(H':Hp)(l':LP):Prop:=Out (lf lp p l) H H'/\∀ j∈lf lp p l',j∈lf lp p l\/H.next<=j
theorem eT.refl (lp p:Nat)(H:Hp)(l:LP):eT lp p H l H l:=⟨Out.refl _ _,fun _ h => .inl h⟩
theorem eT.trans {lp p:Nat}{H H' rv:Hp}{l l' X7:LP}(h:eT lp p H l H' l')(k:eT lp p H' l' rv X7):eT lp p H l rv X7:=
 ⟨h.1.then k.1 h.2,fun j hj=>(k.2 j hj).elim (fun q=>h.2 j q) (fun q => .inr (abS h.1.1 q))⟩
section
variable {H:Hp}{lp p:Nat}{m:LM}{l:LP}
theorem s7:lp∈lf lp p l := .head _
theorem tr {j:Nat}(h:j∈aa l.xp):j∈lf lp p l := .tail _ (aaI _ h)
theorem zv {j:Nat}(h:j∈aa l.xr):j∈lf lp p l := .tail _ (yX _ (aaI _ h))
theorem vv {j:Nat}(h:j∈dL p l.L):j∈lf lp p l := .tail _ (yX _ (yX _ h))
theorem GS {j:Nat}(h:j∈lf lp p l):j=lp\/j∈aa l.xp\/j∈aa l.xr\/j∈dL p l.L:=by
 rcases yL.1 h with h | h
 ·exact .inl h
 rcases aal.1 h with h | h
 ·exact .inr (.inl h)
 rcases aal.1 h with h | h
 ·exact .inr (.inr (.inl h))
 ·exact .inr (.inr (.inr h))
theorem Lg.lt (h:Lg H lp p m l):∀ j∈lf lp p l,j<H.next:=by
 intro j hj
 rcases GS hj with rfl | hj | hj | hj
 ·exact h.head.lt
 ·exact h.parts.1.rw.lt j hj
 ·exact h.cM.own.rw.lt j hj
 ·exact h.st.lt j hj
theorem Lg.out {H':Hp}{S:List Nat}(h:Lg H lp p m l)(k:Out S H H')(hs:∀ j∈lf lp p l,j∉S)(hy:∀ y∈l.ys,∀ i∈aa y,i∉S):Lg H' lp p m l:=
 ⟨h.head.out k (hs _ s7),h.st.out k fun j hj=>hs _ (vv hj),h.parts.out k fun j hj=>hs _ (tr hj),h.cM.lg k (fun j hj=>hs _ (zv hj)) hy,h.nd,h.row⟩
theorem Lg.eR {H':Hp}(h:Lg H lp p m l)(k:Out [] H H'):Lg H' lp p m l:=h.out k (fun _ _ q=>by cases q) (fun _ _ _ _ q=>by cases q)
theorem Lg.apart (h:Lg H lp p m l):(lp∉aa l.xp/\lp∉aa l.xr/\lp∉dL p l.L)/\(∀ j∈aa l.xp,j∉aa l.xr/\j∉dL p l.L)/\(∀ j∈aa l.xr,j∉dL p l.L):=by
 have hn:=h.nd
 unfold lf JM at hn
 rw[acB,acK,acK] at hn
 obtain⟨n1,n2,⟨n3,n4,n5⟩,n6⟩:=hn
 refine⟨⟨fun q=>n1 (aaI _ q),fun q=>n1 (yX _ (aaI _ q)),fun q=>n1 (yX _ (yX _ q))⟩,fun j hj=>⟨fun q=>n6 j hj j (aaI _ q) rfl,fun q=>n6 j hj j (yX _ q) rfl⟩,fun j hj q=>n5 j hj j q rfl⟩
theorem LI {xp xr:AV}{L:Lay}(hL:(dL p L).Nodup)(a1:lp∉aa xp)(a2:lp∉aa xr)(a3:lp∉dL p L)(b1:∀ j∈aa xp,j∉aa xr)(b2:∀ j∈aa xp,j∉dL p L)(b3:∀ j∈aa xr,j∉dL p L):(JM lp xp xr p L).Nodup:=by
 unfold JM
 rw[acB,acK,acK]
 refine⟨fun q => ?_,vZ _,⟨vZ _,hL,fun a ha b hb e=>b3 a ha (e▸hb)⟩,fun a ha b hb e => ?_⟩
 ·rcases aal.1 q with q | q
  ·exact a1 q
  rcases aal.1 q with q | q
  ·exact a2 q
  ·exact a3 q
 ·subst e
  rcases aal.1 hb with q | q
  ·exact b1 a ha q
  ·exact b2 a ha q
theorem Lg.Ei {H':Hp}{m':SM}{L':Lay}(h:Lg H lp p m l)(hs:St H' p m' L')(hg:iw p H l.L H' L'):Lg H' lp p { m with m:=m' } { l with L:=L' }/\eT lp p H l H' { l with L:=L' }:=by
 obtain⟨⟨a1,a2,a3⟩,b,b3⟩:=h.apart
 have ah:=h.lt
 have new:∀ j,j<H.next->j∉dL p l.L->j∉dL p L':=fun j hj hn q=>(hg.2 j q).elim hn fun q=>by omega
 have hf:∀ j∈lf lp p { l with L:=L' },j∈lf lp p l\/H.next<=j:=by
  intro j hj
  rcases GS hj with rfl | hj | hj | hj
  ·exact .inl s7
  ·exact .inl (tr hj)
  ·exact .inl (zv hj)
  ·exact (hg.2 j hj).imp vv id
 refine⟨⟨h.head.out hg.1 a3,hs,h.parts.out hg.1 fun j hj=>(b j hj).2,h.cM.lg hg.1 b3 fun y hy i hi q=>h.row y hy i hi (vv q),?_,fun y hy i hi q => ?_⟩,hg.1.mono fun j hj=>vv hj,hf⟩
 ·exact LI hs.nd a1 a2 (new _ (ah _ s7) a3) (fun j hj=>(b j hj).1) (fun j hj=>new j (ah _ (tr hj)) (b j hj).2) fun j hj=>new j (ah _ (zv hj)) (b3 j hj)
 ·rcases hf i q with q | q
  ·exact h.row y hy i hi q
  ·have:=h.cM.uh y hy i hi;omega
theorem Lg.ajK {H1:Hp}{xp:AV}{ps:List (Int × Int)}(h:Lg H lp p m l)(ho:OL H1 153 2 xp (ps.map pc))(hg:Out (aa l.xp) H H1)(hr:∀ j∈aa xp,j∈aa l.xp\/H.next<=j) :
  ∃ H2,K.st 1 (.ptr lp 2) xp H1=some H2/\Lg H2 lp p { m with parts:=ps } { l with xp:=xp }/\eT lp p H l H2 { l with xp:=xp }:=by
 obtain⟨⟨a1,a2,a3⟩,b,b3⟩:=h.apart
 have ah:=h.lt
 obtain⟨H2,s1,s2,s3,s4⟩:=(h.head.out hg a1).st (o:=2) (v:=xp) (by simp) ho.1.rw.one
 have n2:∀ j,j≠lp->j∉[lp]:=fun j hj q=>hj (wc.1 q)
 have new:∀ j,j<H.next->j∉aa l.xp->j∉aa xp:=fun j hj hn q=>(hr j q).elim hn fun q=>by omega
 have hf:∀ j∈lf lp p { l with xp:=xp },j∈lf lp p l\/H.next<=j:=by
  intro j hj
  rcases GS hj with rfl | hj | hj | hj
  ·exact .inl s7
  ·exact (hr j hj).imp tr id
  ·exact .inl (zv hj)
  ·exact .inl (vv hj)
 have yu:lp∉aa xp:=new _ (ah _ s7) a1
 refine⟨H2,s1,⟨s2,(h.st.out hg fun j hj q=>(b j q).2 hj).out s3 fun j hj=>n2 j fun q=>a3 (q▸hj),ho.out s3 fun j hj=>n2 j fun q=>yu (q▸hj),(h.cM.lg hg (fun j hj q=>(b j q).1 hj) fun y hy i hi q=>h.row y hy i hi (tr q)).lg s3 (fun j hj=>n2 j fun q=>a2 (q▸hj)) (fun y hy i hi=>n2 i fun q=>h.row y hy i hi (q▸s7)),?_,fun y hy i hi q => ?_⟩,(hg.mono fun j hj=>tr hj).trans (s3.mono fun j hj=>by rw[wc.1 hj];exact s7),hf⟩
 ·exact LI h.st.nd yu a2 a3 (fun j hj=>(hr j hj).elim (fun q=>(b j q).1) fun q e=>by have:=ah j (zv e);omega) (fun j hj=>(hr j hj).elim (fun q=>(b j q).2) fun q e=>by have:=ah j (vv e);omega) b3
 ·rcases hf i q with q | q
  ·exact h.row y hy i hi q
  ·have:=h.cM.uh y hy i hi;omega
theorem Lg.anm {H1:Hp}{ps:List (Int × Int)}(h:Lg H lp p m l)(ho:OL H1 153 2 l.xp (ps.map pc))(hg:Out (aa l.xp) H H1):Lg H1 lp p { m with parts:=ps } l/\eT lp p H l H1 l:=by
 obtain⟨⟨a1,a2,a3⟩,b,b3⟩:=h.apart
 exact⟨⟨h.head.out hg a1,h.st.out hg fun j hj q=>(b j q).2 hj,ho,h.cM.lg hg (fun j hj q=>(b j q).1 hj) fun y hy i hi q=>h.row y hy i hi (tr q),h.nd,h.row⟩,hg.mono fun j hj=>tr hj,fun j hj => .inl hj⟩
theorem Lg.aeA {H1:Hp}{xr:AV}{rs:List (Nat × List Nat)}{ys:List AV}(h:Lg H lp p m l)(ho:Rs H1 xr rs ys)(hg:Out (aa l.xr) H H1)(hr:∀ j∈aa xr,j∈aa l.xr\/H.next<=j)(hy:∀ y∈ys,∀ i∈aa y,i∉lf lp p l/\i<H.next) :
  ∃ H2,K.st 1 (.ptr lp 3) xr H1=some H2/\Lg H2 lp p { m with cM:=rs } { l with xr:=xr,ys:=ys }/\eT lp p H l H2 { l with xr:=xr,ys:=ys }:=by
 obtain⟨⟨a1,a2,a3⟩,b,b3⟩:=h.apart
 have ah:=h.lt
 obtain⟨H2,s1,s2,s3,s4⟩:=(h.head.out hg a2).st (o:=3) (v:=xr) (by simp) ho.own.rw.one
 have n2:∀ j,j≠lp->j∉[lp]:=fun j hj q=>hj (wc.1 q)
 have new:∀ j,j<H.next->j∉aa l.xr->j∉aa xr:=fun j hj hn q=>(hr j q).elim hn fun q=>by omega
 have hf:∀ j∈lf lp p { l with xr:=xr,ys:=ys },j∈lf lp p l\/H.next<=j:=by
  intro j hj
  rcases GS hj with rfl | hj | hj | hj
  ·exact .inl s7
  ·exact .inl (tr hj)
  ·exact (hr j hj).imp zv id
  ·exact .inl (vv hj)
 have yu:lp∉aa xr:=new _ (ah _ s7) a2
 refine⟨H2,s1,⟨s2,(h.st.out hg fun j hj q=>b3 j q hj).out s3 fun j hj=>n2 j fun q=>a3 (q▸hj),(h.parts.out hg fun j hj=>(b j hj).1).out s3 fun j hj=>n2 j fun q=>a1 (q▸hj),ho.lg s3 (fun j hj=>n2 j fun q=>yu (q▸hj)) (fun y De i hi=>n2 i fun q=>(hy y De i hi).1 (q▸s7)),?_,fun y De i hi q => ?_⟩,(hg.mono fun j hj=>zv hj).trans (s3.mono fun j hj=>by rw[wc.1 hj];exact s7),hf⟩
 ·exact LI h.st.nd a1 yu a3 (fun j hj q=>(hr j q).elim (fun q=>(b j hj).1 q) fun q=>by have:=ah j (tr hj);omega) (fun j hj=>(b j hj).2) (fun j hj=>(hr j hj).elim (fun q=>b3 j q) fun q e=>by have:=ah j (vv e);omega)
 ·obtain⟨e1,e2⟩:=hy y De i hi
  rcases hf i q with q | q
  ·exact e1 q
  ·omega
end
end
theorem OL.I7 {H:Hp}{el es mD:Nat}{z:List AV}{s:AV}{L:List (List AV)}{vs:List AV}(h:OL H el es s L)(hv:∀ v∈vs,db v=true)(hn:vs.length=es)(dC:0<es)(hk:es<=1000)(hlen:(L.length+1)*es<=16777216) :
  ∃ H1 s' H2,cI H vs mD 0=some (H.next,H1)/\fZ el es z false s (.slice H.next 0 1 1 true es) H1=some (s',H2)/\OL H2 el es s' (L++[vs])/\Out [] H H1/\Out (aa s) H H2/\(∀ j∈aa s',j∈aa s\/H.next<=j):=by
 obtain⟨H1,m1,m2,m3,m4⟩:=eJ H vs mD 0 (by omega)
 have jC:Rw H1 es (.slice H.next 0 1 1 true es) vs := .mk m2.ro (by omega) (aar _) rfl
 obtain⟨s',H2,a1,a2,a3,a4⟩:=wU (z:=z) (h.1.out m3 fun j _ q=>by cases q) jC hv dC (by
  rw[EE h.2,hn]
  rw[aeS,ahp] at hlen
  exact hlen)
 refine⟨H1,s',H2,m1,a1,⟨by rw[List.flatten_append];simpa using a2,fun c hc => ?_⟩,m3,(m3.mono fun j hj=>by cases hj).trans a3,fun j hj=>(a4 j hj).imp id fun q=>abS m3.1 q⟩
 rcases aal.1 hc with hc | hc
 ·exact h.2 c hc
 ·rw[wc] at hc;subst hc;exact hn
theorem AQ {H:Hp}{b o n:Nat}{c:List AV}(h:dQ H b o n=some c):af n (.ptr b o) H=some (.agg c):=by
 unfold af
 simp only[h]
 rfl
theorem EN {H:Hp}{b o:Nat}{v:AV}(h:cellAt H b o=some v):ld (.ptr b o) H=some v:=h
end Go.Proofs.YtehhgkgeldinkaaGreatDoor.dg
namespace Go.Proofs.YtehhgkgeldinkaaGreatDoor.jU
open Go Am Am.K jn dg
theorem Rs.af {H:Hp}{x:AV}{rs:List (Nat × List Nat)}{ys:List AV}(h:Rs H x rs ys){j:Nat}{r:Nat × List Nat}(hj:rs[j]? = some r) :
  ∃ i o y,(∀ k,ia 2 x (.int k j)=some (.ptr i o))/\K.af 2 (.ptr i o) H=some (.agg [.int .u64 (r.1:Nat),y])/\ld (.ptr i (o+0)) H=some (.int .u64 (r.1:Nat))/\ld (.ptr i (o+1)) H=some y/\Rw H 1 y (bs r.2)/\y∈ys:=by
 have ah:=(abf.1 hj).1
 obtain⟨y0,hy⟩:∃ y0,ys[j]? = some y0:=⟨_,aax (by rw[h.len];exact ah)⟩
 obtain⟨g0,g1⟩:=MW rs ys j r _ hj hy
 obtain⟨b,o,h1,h2,h3,h4,h5⟩:=h.own.rw.ia (He _ _ h.len) (by decide) ah
 have hc:((vS rs ys).drop (j*2)).take 2=[.int .u64 (r.1:Nat),y0]:=by
  apply List.ext_getElem?
  intro k
  match k with
  | 0=>rw[adM,if_pos (by decide),adG];exact g0
  | 1=>rw[adM,if_pos (by decide),adG];exact g1
  | k+2=>rw[adM,if_neg (by omega)];simp
 rw[hc] at h5
 refine⟨b,o,y0,h1,AQ h5,?_,?_,h.row j _ r hy hj,acx hy⟩
 ·exact EN (h4 0 _ g0 (by decide))
 ·exact EN (h4 1 _ g1 (by decide))
end Go.Proofs.YtehhgkgeldinkaaGreatDoor.jU
namespace Go.Proofs.YtehhgkgeldinkaaGreatDoor.dg
open Go Am Am.K jn Sg kM nO jU iX
section
section
variable {H:Hp}{lp p:Nat}{m:LM}{l:LP}
def gW (m:LM):Int:=m.first+m.cM.length
def tK (m:LM):Int:=match m.cM.getLast? with | none=>0 | some r=>((r.1 / 17592186044416:Nat):Int)
structure Small (m:LM):Prop where
 first:0<=m.first/\m.first<=17592186040000
 cM:m.cM.length<=1000
 at':∀ r∈m.cM,r.1<18446744073709551616
 parts:m.parts.length<=1000
 part:∀ q∈m.parts,0<=q.2/\q.2<=1000000000
theorem yq (h:Lg H lp p m l)(hs:Small m):cK (.func (.func 69) [] []) [.ptr lp 0] H=some (.int .i64 (gW m),H):=by
 refine aqd ?_
 unfold Z9 gW
 have l4:=h.head.ld (o:=4) rfl
 have l3:=h.head.ld (o:=3) rfl
 have hl:=h.cM.G6
 have h1:=hs.first
 have h2:=hs.cM
 have w:IntKind.wrap .i64 (m.first+(m.cM.length:Nat))=m.first+(m.cM.length:Nat):=wrap_i64 (by omega) (by omega)
 simp only[l4,l3,hl,w,aN,bH,aL,aK,cj,aV,aJ,aG,aZ,aO,bh,cq,aS,cx,bV,bo,bR,aM,cg,br,aQ,bO,bu,cn,cu,bG,aW,bB,bk,aI,bA,bE,cB,aT,bf,bQ,cp,bd,bc,aR,bU,bP,bC,cz,cC,bK,cl,aA,bN,aD,cy,bW,aP,aU,bS,bT,cA,ba,cw,bY,bM,aF,bJ,bI,aH,ck,bq,bF,bD,bZ,aY,nq,gk,yS,aat,aag,decide_true,decide_false,Int.reduceBEq,Int.reduceBNe,Int.reduceLT,Int.reduceLE,Int.reduceGT,Int.reduceGE,Int.reduceNeg,ab2,bne_self_eq_false,ge_iff_le,gt_iff_lt]
theorem X0 (h:Lg H lp p m l)(hs:Small m):cK (.func (.func 43) [] []) [.ptr lp 0] H=some (.int .i64 (tK m),H):=by
 refine acL ?_
 unfold YX
 have l3:=h.head.ld (o:=3) rfl
 have hl:=h.cM.G6
 have h2:=hs.cM
 rcases List.eq_nil_or_concat m.cM with he | ⟨rs,r,he⟩
 ·have hm:tK m=0:=by unfold tK;rw[he];rfl
  rw[he] at hl
  rw[hm]
  simp only[l3,hl,abY,Int.natCast_zero,show (((0:Nat):Int))=0 from rfl,aN,bH,aL,aK,cj,aV,aJ,aG,aZ,aO,bh,cq,aS,cx,bV,bo,bR,aM,cg,br,aQ,bO,bu,cn,cu,bG,aW,bB,bk,aI,bA,bE,cB,aT,bf,bQ,cp,bd,bc,aR,bU,bP,bC,cz,cC,bK,cl,aA,bN,aD,cy,bW,aP,aU,bS,bT,cA,ba,cw,bY,bM,aF,bJ,bI,aH,ck,bq,bF,bD,bZ,aY,nq,gk,yS,aat,aag,decide_true,decide_false,Int.reduceBEq,Int.reduceBNe,Int.reduceLT,Int.reduceLE,Int.reduceGT,Int.reduceGE,Int.reduceNeg,ab2,bne_self_eq_false,ge_iff_le,gt_iff_lt]
 ·rw[List.concat_eq_append] at he
  have hm:tK m=((r.1 / 17592186044416:Nat):Int):=by unfold tK;rw[he];simp
  have hn:m.cM.length=rs.length+1:=by rw[he];simp
  have hj:m.cM[rs.length]? = some r:=by rw[he];simp
  obtain⟨i,o,y,a1,a2,a3,a4,a5,a6⟩:=h.cM.af hj
  have d:((((m.cM.length:Nat):Int))==0)=false:=by rw[beq_eq_false_iff_ne];omega
  have w:IntKind.wrap .i64 ((m.cM.length:Nat)-1)=((rs.length:Nat):Int):=by rw[wrap_i64 (by omega) (by omega)];omega
  have e:=aoN (H:=H) r.1 (hs.at' r (acx hj))
  have B5:=a1 .i64
  rw[hm]
  rw[ae6] at a3
  simp only[l3,hl,d,w,B5,a3,e,ae6,aN,bH,aL,aK,cj,aV,aJ,aG,aZ,aO,bh,cq,aS,cx,bV,bo,bR,aM,cg,br,aQ,bO,bu,cn,cu,bG,aW,bB,bk,aI,bA,bE,cB,aT,bf,bQ,cp,bd,bc,aR,bU,bP,bC,cz,cC,bK,cl,aA,bN,aD,cy,bW,aP,aU,bS,bT,cA,ba,cw,bY,bM,aF,bJ,bI,aH,ck,bq,bF,bD,bZ,aY,nq,gk,yS,aat,aag,decide_true,decide_false,Int.reduceBEq,Int.reduceBNe,Int.reduceLT,Int.reduceLE,Int.reduceGT,Int.reduceGE,Int.reduceNeg,ab2,bne_self_eq_false,ge_iff_le,gt_iff_lt]
theorem Ji {H:Hp}(hT:ez H dN)(hn:11<=H.next){f:Int}(s:Int)(hf:iO f=true) :
  ∃ H',cK (.func (.func 68) [] []) [.agg [.int .i64 f,.int .i64 s]] H=some (.str (dR f),H')/\Out [] H H':=by
 obtain⟨H1,b1,b2,b3,b4⟩:=jP H 153 (.agg [.int .i64 f,.int .i64 s]) [.int .i64 f,.int .i64 s] rfl (by simp)
 have l0:ld (.ptr H.next 0) H1=some (.int .i64 f):=b2.ld rfl
 have uJ:=LL an (T9 (ly hT hn b3)) f
 refine⟨H1,ak1 ?_,b3⟩
 unfold YN
 simp only[b1,l0,uJ,aN,bH,aL,aK,cj,aV,aJ,aG,aZ,aO,bh,cq,aS,cx,bV,bo,bR,aM,cg,br,aQ,bO,bu,cn,cu,bG,aW,bB,bk,aI,bA,bE,cB,aT,bf,bQ,cp,bd,bc,aR,bU,bP,bC,cz,cC,bK,cl,aA,bN,aD,cy,bW,aP,aU,bS,bT,cA,ba,cw,bY,bM,aF,bJ,bI,aH,ck,bq,bF,bD,bZ,aY,nq,gk,yS,aat,aag,decide_true,decide_false,Int.reduceBEq,Int.reduceBNe,Int.reduceLT,Int.reduceLE,Int.reduceGT,Int.reduceGE,Int.reduceNeg,ab2,bne_self_eq_false,ge_iff_le,gt_iff_lt]
end
end
def dS (m:LM):Int × Int:=(m.parts.getLast?).getD (0,0)
noncomputable def rj (m:LM)(a:Nat)(b:List Nat):LM:=
 if m.parts=[]\/m.ei<=(dS m).2 then { m with m:=(iA m.m (dR (gW m)) (fr a b)).2,parts:=m.parts++[(gW m,0+((16+b.length:Nat):Int))],cM:=m.cM++[(a,b)] }
 else { m with m:=(iA m.m (dR (dS m).1) (fr a b)).2,parts:=m.parts.set (m.parts.length-1) ((dS m).1,(dS m).2+((16+b.length:Nat):Int)),cM:=m.cM++[(a,b)] }
theorem RW (q:Int × Int):∀ v∈pc q,db v=true:=by
 intro v hv
 unfold pc at hv
 rcases yL.1 hv with rfl | hv
 ·rfl
 ·rcases yL.1 hv with rfl | hv
  ·rfl
  ·cases hv
theorem ads {a:Nat}{b:List Nat}(hb:∀ v∈b,v<256):∀ v∈fr a b,v<256:=by
 intro v h
 rcases aal.1 h with h | h
 ·rcases aal.1 h with h | h
  ·exact acf _ _ v h
  ·exact KO _ _ v h
 ·exact hb v h
section
variable {H:Hp}{lp p:Nat}{m:LM}{l:LP}
theorem Z3 (h:Lg H lp p m l){i t Cg a:Nat}{x':AV}{b:List Nat}(box:Cs H i [.int .u64 (a:Nat),x'] t Cg)(hi:i∉lf lp p l)(hx:Rw H 1 x' (bs b))(rX:∀ j∈aa x',j∉lf lp p l)(hr:m.cM.length<=1000)
  {k:Nat} {f s:Int} (hq:m.parts[k]? = some (f,s)) (hs:0<=s/\s<=1000000000) {n:Nat} (hn:n<=1000000) :
  ∃ bb o H1 H2 s' H3 H4,ia 2 l.xp (.int .i64 (k:Nat))=some (.ptr bb o)/\ld (.ptr bb (o+1)) H=some (.int .i64 s)/\dj (.int .i64 s) (.int .i64 (n:Nat))=some (.int .i64 (s+n))/\st 1 (.ptr bb (o+1)) (.int .i64 (s+n)) H=some H1/\
   ld (.ptr lp 2) H=some l.xp/\ld (.ptr lp 3) H1=some l.xr/\af 2 (.ptr i 0) H1=some (.agg [.int .u64 (a:Nat),x'])/\fl [.int .u64 0,.ae] [(0,2,.agg [.int .u64 (a:Nat),x'])]=some [.int .u64 (a:Nat),x']/\
   cI H1 [.int .u64 (a:Nat),x'] 128 0=some (H1.next,H2)/\fZ 128 2 [.int .u64 0,.ae] false l.xr (.slice H1.next 0 1 1 true 2) H2=some (s',H3)/\st 1 (.ptr lp 3) s' H3=some H4/\ld (.ptr lp 3) H2=some l.xr/\same l.xr l.xr=true/\
   Lg H4 lp p { m with parts:=m.parts.set k (f,s+n),cM:=m.cM++[(a,b)] } { l with xr:=s',ys:=l.ys++[x'] }/\eT lp p H l H4 { l with xr:=s',ys:=l.ys++[x'] }:=by
 have Zy:(m.parts.map pc)[k]? = some (pc (f,s)):=by rw[adh,hq];rfl
 obtain⟨bb,o,r1,r2,r3,r4,r5⟩:=h.parts.rl.at (by decide) Zy
 have tj:ld (.ptr bb (o+1)) H=some (.int .i64 s):=EN (r5 1 _ rfl)
 obtain⟨H1,s1,s2,s3,s4⟩:=h.parts.qZ (k:=1) Zy r1 (v := .int .i64 (s+n)) rfl (by decide)
 have e:(m.parts.map pc).set k ((pc (f,s)).set 1 (.int .i64 (s+n)))=(m.parts.set k (f,s+n)).map pc:=by rw[List.map_set];rfl
 rw[e] at s2
 obtain⟨g1,g2⟩:=h.anm s2 s3
 have xo:∀ j∈aa x',j∉aa l.xp:=fun j hj q=>rX j hj (tr q)
 have qd:=hx.out s3 xo
 have aiT:=box.out s3 fun q=>hi (tr q)
 obtain⟨H2,s',H3,m1,m2,m3,m4,m5⟩:=g1.cM.push (a:=a) qd (fun j hj q=>rX j hj (zv q)) (by show m.cM.length<=100000;omega)
 have m0:Out [] H1 H2:=by
  obtain⟨Hq,z1,z2,z3,z4⟩:=eJ H1 [.int .u64 ((a:Nat):Int),x'] 128 0 (by simp)
  rw[m1] at z1
  cases z1
  exact z3
 obtain⟨H4,k1,k2,k3⟩:=g1.aeA m3 m4 m5 (fun y hy j hj=>by
  rcases aal.1 hy with hy | hy
  ·exact⟨h.row y hy j hj,g1.cM.uh y hy j hj⟩
  ·rw[wc] at hy
   subst hy
   exact⟨rX j hj,qd.lt j hj⟩)
 have w:IntKind.wrap .i64 (s+(n:Int))=s+n:=wrap_i64 (by omega) (by omega)
 refine⟨bb,o,H1,H2,s',H3,H4,r1 .i64,tj,by rw[aA,w],s1,h.head.ld (o:=2) rfl,g1.head.ld (o:=3) rfl,aiT.af (n:=2) (o:=0) (by simp),?_,m1,m2,k1,(g1.eR m0).head.ld (o:=3) rfl,My h.cM.own.rw,k2,g2.trans k3⟩
 have cr:=By hx ((a:Nat):Int)
 simp[fl,cr]
end
end Go.Proofs.YtehhgkgeldinkaaGreatDoor.dg
