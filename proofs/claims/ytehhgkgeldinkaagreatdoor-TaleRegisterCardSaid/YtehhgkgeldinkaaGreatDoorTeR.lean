/- Laws that the proof uses. -/
import Derived.Test.YtehhgkgeldinkaaGreatDoorWxE
import Derived.Handed
import Derived.Test.YtehhgkgeldinkaaGreatDoorProg
set_option linter.unusedVariables false
set_option linter.unusedSimpArgs false
set_option maxRecDepth 10000
set_option maxHeartbeats 4000000
namespace Go.Proofs.YtehhgkgeldinkaaGreatDoor.dg
open Go Am Am.K jn Sg kM nO jU iX AG
structure PV where
 pp:Nat
 bg:Nat
 a:Nat
 x:AV
 L:List SS
 n:Bool->NV
def GF (v:PV):List AV:=[.ptr (v.n false).p 0,.ptr (v.n true).p 0,.ptr (v.n false).np 0,.ptr (v.n true).np 0,.ptr v.a 0,.ptr v.bg 0,.int .i64 0,.int .i64 0,.int .i64 0,.int .i64 0,.int .i64 0,.str [],.ae]
def vR (v:PV):List Nat:=v.pp::((v.a::aa v.x)++(iG (v.n false)++iG (v.n true)))
def kK (v:PV)(j:Nat):Prop:=j∈vR v\/∃ b,∃ y∈(v.n b).l.ys,j∈aa y
structure Pr (H:Hp)(v:PV):Prop where
 head:C0 H v.pp (GF v)
 ab:Ab H v.a v.x v.L
 nd:∀ b,Nd H (v.n b)
 pn:∀ b,v.pp∉iG (v.n b)/\∀ y∈(v.n b).l.ys,v.pp∉aa y
 pa:v.pp∉v.a::aa v.x
 an:∀ b,∀ j∈v.a::aa v.x,j∉iG (v.n b)/\∀ y∈(v.n b).l.ys,j∉aa y
 nn:∀ b,∀ j∈iG (v.n b),j∉iG (v.n (!b))/\∀ y∈(v.n (!b)).l.ys,j∉aa y
 ge:∀ j∈vR v,11<=j
theorem zW (v:PV)(b:Bool):∀ j∈iG (v.n b),j∈vR v:=fun j hj => .tail _ (yX _ (by cases b;exact aaI _ hj;exact yX _ hj))
theorem Ck (v:PV):∀ j∈v.a::aa v.x,j∈vR v:=fun j hj => .tail _ (aaI _ hj)
theorem Gf {v:PV}{j:Nat}(h:j∈vR v):j=v.pp\/j∈v.a::aa v.x\/∃ b,j∈iG (v.n b):=by
 rcases yL.1 h with h | h
 ·exact .inl h
 rcases aal.1 h with h | h
 ·exact .inr (.inl h)
 rcases aal.1 h with h | h
 ·exact .inr (.inr ⟨false,h⟩)
 ·exact .inr (.inr ⟨true,h⟩)
theorem Pr.out {H H':Hp}{v:PV}{S:List Nat}(h:Pr H v)(k:Out S H H')(hs:∀ j,kK v j->j∉S):Pr H' v:=
 ⟨h.head.out k (hs _ (.inl (.head _))),h.ab.out k (hs _ (.inl (Ck v _ (.head _)))) (fun j hj=>hs j (.inl (Ck v j (.tail _ hj)))),fun b=>(h.nd b).out k (fun j hj=>hs j (.inl (zW v b j hj))) (fun y hy i hi=>hs i (.inr ⟨b,y,hy,hi⟩)),h.pn,h.pa,h.an,h.nn,h.ge⟩
theorem Pr.eR {H H':Hp}{v:PV}(h:Pr H v)(k:Out [] H H'):Pr H' v:=h.out k fun _ _ q=>by cases q
theorem Pr.lt {H:Hp}{v:PV}(h:Pr H v):∀ j,kK v j->j<H.next:=fun j hj=>by
 rcases hj with hj | ⟨b,y,hy,hj⟩
 ·rcases Gf hj with rfl | hj | ⟨b,hj⟩
  ·exact h.head.lt
  ·rcases yL.1 hj with rfl | hj
   ·exact h.ab.head.lt
   ·exact h.ab.row.1.rw.lt j hj
  ·exact (h.nd b).lt j hj
 ·exact (h.nd b).log.cM.uh y hy j hj
theorem ao5 {H H':Hp}{v:PV}(hT:ez H dN)(hn:11<=H.next)(hP:Pr H v)(g:Out (vR v) H H'):ez H' dN/\11<=H'.next:=by
 refine⟨?_,abS hn g.1⟩
 obtain⟨el,hh⟩:=hT
 refine⟨el,fun q l' hg => ?_⟩
 have hb:=Ah q l' hg
 rw[g.2 q (by omega) fun z=>by have:=hP.ge q z;omega]
 exact hh q l' hg
def bw (b:Bool):Int:=bif b then 1 else 0
structure Pl (v:PV)(k:Nat)(w:Int):Prop where
 reg:∃ L',v.L=L'++[⟨(k:Nat),w,false,0⟩]/\L'.length=k
 nv:∀ b,∃ es,Nv (v.n b).m es 0/\(∀ e∈es,e<=k)/\es.length<=k
 ou:∀ b,(v.n b).ou<=k
 w:∀ b,(v.n b).w=bw b
theorem Pl.off {v:PV}{k:Nat}{w:Int}(h:Pl v k w)(b:Bool):(v.n b).m.m.off=false:=by
 obtain⟨es,h1,_⟩:=h.nv b
 exact h1.ok.off
theorem ajN (b:Bool):bw b=0\/bw b=1:=by cases b;exact .inl rfl;exact .inr rfl
theorem anJ {H:Hp}(hT:ez H dN)(hn:11<=H.next):∃ v H',cK (.func (.func 13) [] []) [.int .i64 65536] H=some (.tuple [.ptr v.pp 0,.int .i64 0],H')/\Pr H' v/\Pl v 0 (-1)/\Out [] H H'/\∀ j,kK v j->H.next<=j:=by
 obtain⟨a,x,H1,r1,r2,r3,r4,r5⟩:=akq H
 obtain⟨H2,g1,g2,g3⟩:=ahx H1
 have f1:fl [.aC,.aC,.aC,.aC,.aC,.aC,(.int .i64 0),(.int .i64 0),(.int .i64 0),(.int .i64 0),(.int .i64 0),(.str []),.ae] [(4,1,.ptr a 0),(5,1,.ptr H1.next 0)]=some [.aC,.aC,.aC,.aC,.ptr a 0,.ptr H1.next 0,(.int .i64 0),(.int .i64 0),(.int .i64 0),(.int .i64 0),(.int .i64 0),(.str []),.ae]:=rfl
 obtain⟨H3,b1,b2,b3,b4⟩:=jP H2 78 (.agg [.aC,.aC,.aC,.aC,.ptr a 0,.ptr H1.next 0,(.int .i64 0),(.int .i64 0),(.int .i64 0),(.int .i64 0),(.int .i64 0),(.str []),.ae]) [.aC,.aC,.aC,.aC,.ptr a 0,.ptr H1.next 0,(.int .i64 0),(.int .i64 0),(.int .i64 0),(.int .i64 0),(.int .i64 0),(.str []),.ae] rfl (by simp)
 have Dp:=g3.trans b3
 have RC:=r3.trans Dp
 have ab3:=r2.out Dp (by simp) (fun j _ q=>by cases q)
 obtain⟨H4,p0,L0,s1,s2,s3,s4⟩:=(Ul H3 65536).2 65536 rfl (by omega) (by omega)
 have c4:C0 H4 H2.next _:=C0.out ⟨_,b2⟩ s3 (by simp)
 obtain⟨H5,t1,t2,t3,t4⟩:=c4.st (o:=0) (v := .ptr p0 0) (by simp) rfl
 have st5:=s2.out t3 fun j hj q=>by rw[wc] at q;have:=s4 j hj;omega
 have O8:Out [H2.next] H3 H5:=(s3.mono fun j hj=>by cases hj).trans t3
 have YF:Out [] H H5:=RC.then O8 fun j hj=>by rw[wc] at hj;have:=(r3.trans g3).1;exact .inr (by omega)
 obtain⟨n0,H6,u1,u2,u3,u4,u5,u6,u7,u8,u9,u10⟩:=WI st5 (ly hT hn YF) (abS hn YF.1) (w:=0) (.inl rfl)
 subst u3
 obtain⟨H7,v1,v2,v3,v4⟩:=(t2.out u9 (by simp)).st (o:=2) (v := .ptr n0.np 0) (by simp) rfl
 have DC:∀ j∈iG n0,H3.next<=j:=fun j hj=>(u10 j hj).elim (fun q=>abS O8.1 q) (s4 j)
 have Eg:∀ y∈n0.l.ys,False:=fun y hy=>by rw[u8] at hy;cases hy
 have Ws:=u2.out v3 (fun j hj q=>by rw[wc] at q;have:=DC j hj;omega) (fun y hy=>(Eg y hy).elim)
 have SG:Out [H2.next] H3 H7:=(O8.trans (u9.mono fun j hj=>by cases hj)).trans v3
 have o07:Out [] H H7:=RC.then SG fun j hj=>by rw[wc] at hj;have:=(r3.trans g3).1;exact .inr (by omega)
 obtain⟨H8,p1,L1,w1,w2,w3,w4⟩:=(Ul H7 65536).2 65536 rfl (by omega) (by omega)
 obtain⟨H9,x1,x2,x3,x4⟩:=(v2.out w3 (by simp)).st (o:=1) (v := .ptr p1 0) (by simp) rfl
 have q37:=SG.1
 have st9:=w2.out x3 fun j hj q=>by rw[wc] at q;have:=w4 j hj;omega
 have Po:Out [H2.next] H7 H9:=(w3.mono fun j hj=>by cases hj).trans x3
 have o09:Out [] H H9:=o07.then Po fun j hj=>by rw[wc] at hj;have:=(r3.trans g3).1;exact .inr (by omega)
 obtain⟨n1,lE,y1,y2,y3,y4,y5,y6,y7,y8,y9,Dq⟩:=WI st9 (ly hT hn o09) (abS hn o09.1) (w:=1) (.inr rfl)
 subst y3
 obtain⟨nP,z1,z2,z3,z4⟩:=(x2.out y9 (by simp)).st (o:=3) (v := .ptr n1.np 0) (by simp) rfl
 have Cc:∀ j∈iG n1,H7.next<=j:=fun j hj=>(Dq j hj).elim (fun q=>abS Po.1 q) (w4 j)
 have yf:∀ y∈n1.l.ys,False:=fun y hy=>by rw[y8] at hy;cases hy
 have arX:=y2.out z3 (fun j hj q=>by rw[wc] at q;have:=Cc j hj;omega) (fun y hy=>(yf y hy).elim)
 have Yi:Out [H2.next] H7 nP:=(Po.trans (y9.mono fun j hj=>by cases hj)).trans z3
 have nd0:=Ws.out Yi (fun j hj q=>by rw[wc] at q;have:=DC j hj;omega) (fun y hy=>(Eg y hy).elim)
 have acm:=Ws.lt
 have Uq:Out [H2.next] H3 nP:=SG.trans Yi
 have ao9:Out [] H nP:=RC.then Uq fun j hj=>by rw[wc] at hj;have:=(r3.trans g3).1;exact .inr (by omega)
 have alt:=r2.head.lt
 have xj:=r2.row.1.rw.lt
 have a12:=g3.1
 have agZ:=ab3.out Uq (by rw[wc];omega) (fun j hj=>by rw[wc];have:=xj j hj;omega)
 have IM:∀ j∈a::aa x,H.next<=j/\j<H2.next:=fun j hj=>by
  rcases yL.1 hj with rfl | hj
  ·exact⟨r4,by omega⟩
  ·exact⟨r5 j hj,by have:=xj j hj;omega⟩
 have i00:pK 2 1 (.ptr H2.next 0) (.int .i64 0)=some (.ptr H2.next 0):=LY _ (by decide)
 have i20:pK 2 1 (.ptr H2.next 2) (.int .i64 0)=some (.ptr H2.next 2):=LY _ (by decide)
 have i01:pK 2 1 (.ptr H2.next 0) (.int .i64 1)=some (.ptr H2.next 1):=JS _ (by decide)
 have i21:pK 2 1 (.ptr H2.next 2) (.int .i64 1)=some (.ptr H2.next 3):=JS _ (by decide)
 have j0:dj (.int .i64 0) (.int .i64 1)=some (.int .i64 1):=rfl
 have j1:dj (.int .i64 1) (.int .i64 1)=some (.int .i64 2):=rfl
 have h0:=(r3.trans g3).1
 refine⟨⟨H2.next,H1.next,a,x,[⟨0,-1,false,0⟩],fun b=>bif b then n1 else n0⟩,nP,arJ ?_,⟨z2,agZ,fun b => ?_,fun b => ?_,fun q => ?_,fun b j hj => ?_,fun b j hj => ?_,fun j hj => ?_⟩,⟨⟨[],rfl,rfl⟩,fun b => ?_,fun b => ?_,fun b => ?_⟩,ao9,fun j hj => ?_⟩
 ·unfold MT
  simp only[r1,g1,f1,b1,aj,ak,simprocAttr]
  rw[Mz]
  simp only[Hj,s1,i00,t1,u1,i20,v1,j0,aj,ak,simprocAttr]
  rw[Mz]
  simp only[Hj,w1,i01,x1,y1,i21,z1,j1,aj,ak,simprocAttr]
  rw[Mz]
  simp only[Hj,aj,ak,simprocAttr]
 ·cases b
  ·exact nd0
  ·exact arX
 ·cases b
  ·exact⟨fun q=>by have:H3.next<=H2.next:=DC _ q;omega,fun y hy=>(Eg y hy).elim⟩
  ·exact⟨fun q=>by have:H7.next<=H2.next:=Cc _ q;omega,fun y hy=>(yf y hy).elim⟩
 ·have:=(IM _ q).2;exact absurd this (Nat.lt_irrefl _)
 ·have:=(IM j hj).2
  cases b
  ·exact⟨fun q=>by have:=DC _ q;omega,fun y hy=>(Eg y hy).elim⟩
  ·exact⟨fun q=>by have:=Cc _ q;omega,fun y hy=>(yf y hy).elim⟩
 ·cases b
  ·exact⟨fun q=>by have:=Cc _ q;have:=acm j hj;omega,fun y hy=>(yf y hy).elim⟩
  ·exact⟨fun q=>by have:=acm _ q;have:=Cc j hj;omega,fun y hy=>(Eg y hy).elim⟩
 ·rcases Gf hj with rfl | hj | ⟨b,hj⟩
  ·show 11<=H2.next;omega
  ·have:=(IM j hj).1;omega
  ·cases b
   ·have:=DC j hj;omega
   ·have:=Cc j hj;omega
 ·refine⟨[],?_,fun e he=>(by cases he),aar _⟩
  cases b
  ·show Nv n0.m [] 0;rw[u4];exact YV
  ·show Nv n1.m [] 0;rw[y4];exact YV
 ·cases b
  ·show n0.ou<=0;omega
  ·show n1.ou<=0;omega
 ·cases b
  ·exact u5
  ·exact y5
 ·rcases hj with hj | ⟨b,y,hy,hj⟩
  ·rcases Gf hj with rfl | hj | ⟨b,hj⟩
   ·exact h0
   ·exact (IM j hj).1
   ·cases b
    ·have:=DC j hj;omega
    ·have:=Cc j hj;omega
  ·cases b
   ·exact (Eg y hy).elim
   ·exact (yf y hy).elim
def vj (b:Bool):List AV:=[.int .i64 8,.int .i64 (bw b),.int .i64 0,.int .i64 0,.int .i64 0,.int .i64 0,.int .i64 0,.int .i64 0,.int .i64 0,.str [],.str [],.str [],.ae]
def Q1 (v:PV)(b:Bool)(n':NV)(x':AV)(s':SS):PV:={ v with x:=x',L:=v.L++[s'],n:=fun c=>if c=b then n' else v.n c }
theorem akP {H:Hp}{v:PV}{k:Nat}{w0:Int}(hP:Pr H v)(hl:Pl v k w0)(hk:k<60)(b:Bool)(hT:ez H dN)(hn:11<=H.next) :
  ∃ v' H',cK (.func (.func 53) [] []) [.ptr v.pp 0,.agg (vj b)] H=some (.int .i64 0,H')/\Pr H' v'/\Pl v' (k+1) (bw b)/\v'.pp=v.pp/\Out (vR v) H H'/\∀ j,kK v' j->kK v j\/H.next<=j:=by
 obtain⟨H1,b1,b2,b3,b4⟩:=jP H 39 (.agg (vj b)) (vj b) rfl (by simp[vj])
 have pU:=hP.eR b3
 have l1:ld (.ptr H.next 1) H1=some (.int .i64 (bw b)):=b2.ld rfl
 have l0:ld (.ptr H.next 0) H1=some (.int .i64 8):=b2.ld rfl
 have i2:pK 2 1 (.ptr v.pp 2) (.int .i64 (bw b))=some (.ptr v.pp (bif b then 3 else 2)):=by cases b;exact LY _ (by decide);exact JS _ (by decide)
 have i0:pK 2 1 (.ptr v.pp 0) (.int .i64 (bw b))=some (.ptr v.pp (bif b then 1 else 0)):=by cases b;exact LY _ (by decide);exact JS _ (by decide)
 have m2:ld (.ptr v.pp (bif b then 3 else 2)) H1=some (.ptr (v.n b).np 0):=by cases b<;>exact pU.head.ld rfl
 have m0:ld (.ptr v.pp (bif b then 1 else 0)) H1=some (.ptr (v.n b).p 0):=by cases b<;>exact pU.head.ld rfl
 have m4:ld (.ptr v.pp 4) H1=some (.ptr v.a 0):=pU.head.ld rfl
 obtain⟨L',eL,DA⟩:=hl.reg
 obtain⟨es,e1,e2,e3⟩:=hl.nv b
 have hA:=pU.ab
 rw[eL] at hA
 have Qg:=hl.w b
 obtain⟨n',x',H2,g1,g2,g3,g4,g5,g6,g7,g8,g9,g10,g11,g12,g13⟩:=ajo (pU.nd b) e1 (by rw[Qg];exact ajN b) hA (by omega) rfl rfl hk e2 (by omega) (hl.ou b) (fun j hj=>hP.an b j hj) (ly hT hn b3) (abS hn b3.1) (fun j hj=>hP.ge j (zW v b j hj)) (fun j hj=>hP.ge j (Ck v j hj))
 rw[Qg] at g8
 have Qi:∀ i,H1.next<=i->H.next<=i:=fun i hi=>by omega
 have hPn:=pU.nd (!b)
 have ah:=pU.lt
 have nb:∀ c:Bool,c≠b->c = !b:=fun c hc=>by cases c<;>cases b<;>first | rfl | exact absurd rfl hc
 have off:∀ j,j∈iG (v.n b)++(v.a::aa v.x)->j∈iG (v.n b)\/j∈v.a::aa v.x:=fun j hj=>aal.1 hj
 have aeD:Nd H2 (v.n (!b)):=hPn.out g9 (fun j hj q=>(off j q).elim (fun z=>(hP.nn b j z).1 hj) fun z=>(hP.an (!b) j z).1 hj) fun y hy i hi q=>(off i q).elim (fun z=>(hP.nn b i z).2 y hy hi) fun z=>(hP.an (!b) i z).2 y hy hi
 have yN:v.pp∉iG (v.n b)++(v.a::aa v.x):=fun q=>(off _ q).elim (hP.pn b).1 hP.pa
 have hh:=pU.head.out g9 yN
 have ppl:=pU.head.lt
 have epc:GF (Q1 v b n' x' ⟨((k+1:Nat):Int),bw b,false,0⟩)=GF v:=by
  cases b
  ·show[AV.ptr n'.p 0,.ptr (v.n true).p 0,.ptr n'.np 0,_,_,_,_,_,_,_,_,_,_]=_
   rw[g4,g5];rfl
  ·show[AV.ptr (v.n false).p 0,.ptr n'.p 0,_,.ptr n'.np 0,_,_,_,_,_,_,_,_,_]=_
   rw[g4,g5];rfl
 have u0:∀ c,(Q1 v b n' x' ⟨((k+1:Nat):Int),bw b,false,0⟩).n c=if c=b then n' else v.n c:=fun _=>rfl
 have Fc:∀ j∈v.a::aa x',j∈v.a::aa v.x\/H1.next<=j:=fun j hj=>(yL.1 hj).elim (fun q => .inl (q ▸ .head _)) fun q=>(g12 j q).imp (fun z => .tail _ z) id
 have asW:∀ j∈v.a::aa v.x,j<H1.next:=fun j hj=>ah j (.inl (Ck v j hj))
 have LH:∀ c,∀ j∈iG (v.n c),j<H1.next:=fun c j hj=>ah j (.inl (zW v c j hj))
 have uh:∀ c,∀ y∈(v.n c).l.ys,∀ i∈aa y,i<H1.next:=fun c y hy i hi=>ah i (.inr ⟨c,y,hy,hi⟩)
 refine⟨Q1 v b n' x' ⟨((k+1:Nat):Int),bw b,false,0⟩,H2,aqi ?_,⟨by rw[epc];exact hh,by show Ab H2 v.a x' (v.L++_);rw[eL];exact g8,fun c => ?_,fun c => ?_,fun q => ?_,fun c j hj => ?_,fun c j hj => ?_,fun j hj => ?_⟩,⟨⟨v.L,rfl,by rw[eL];simp[DA]⟩,fun c => ?_,fun c => ?_,fun c => ?_⟩,rfl,(b3.mono fun j hj=>by cases hj).trans (g9.mono fun j hj=>(off j hj).elim (zW v b j) (Ck v j)),fun j hj => ?_⟩
 ·unfold Ps
  simp only[b1,l1,i2,m2,i0,m0,l0,m4,g1,aj,ak,simprocAttr]
 ·rw[u0 c]
  by_cases hc:c=b
  ·rw[if_pos hc];exact g2
  ·rw[if_neg hc,nb c hc];exact aeD
 ·rw[u0 c]
  by_cases hc:c=b
  ·rw[if_pos hc]
   refine⟨fun q=>(g10 _ q).elim (hP.pn b).1 fun z=>by have:H1.next<=v.pp:=z;omega,fun y hy q=>(g11 y hy _ q).elim (fun⟨z,hz,q'⟩=>(hP.pn b).2 z hz q') fun z=>by have:H1.next<=v.pp:=z;omega⟩
  ·rw[if_neg hc];exact hP.pn c
 ·exact (Fc _ q).elim hP.pa fun z=>by have:H1.next<=v.pp:=z;omega
 ·rw[u0 c]
  by_cases hc:c=b
  ·rw[if_pos hc];exact g13 j hj
  ·rw[if_neg hc]
   refine⟨fun q => ?_,fun y hy q => ?_⟩
   ·rcases Fc j hj with z | z
    ·exact (hP.an c j z).1 q
    ·have:=LH c j q;omega
   ·rcases Fc j hj with z | z
    ·exact (hP.an c j z).2 y hy q
    ·have:=uh c y hy j q;omega
 ·rw[u0 c] at hj
  rw[u0 (!c)]
  by_cases hc:c=b
  ·rw[if_pos hc] at hj
   have jz:¬ (!c)=b:=by subst hc;cases c<;>decide
   rw[if_neg jz,hc]
   refine⟨fun q => ?_,fun y hy q => ?_⟩
   ·exact (g10 j hj).elim (fun z=>(hP.nn b j z).1 q) fun z=>by have:=LH _ j q;omega
   ·exact (g10 j hj).elim (fun z=>(hP.nn b j z).2 y hy q) fun z=>by have:=uh _ y hy j q;omega
  ·rw[if_neg hc] at hj
   have jz:(!c)=b:=by rw[nb c hc];cases b<;>rfl
   have h3:=hP.nn c j hj
   rw[jz] at h3
   rw[if_pos jz]
   refine⟨fun q => ?_,fun y hy q => ?_⟩
   ·exact (g10 j q).elim h3.1 fun z=>by have:=LH c j hj;omega
   ·exact (g11 y hy j q).elim (fun⟨z,hz,q'⟩=>h3.2 z hz q') fun z=>by have:=LH c j hj;omega
 ·rcases Gf hj with rfl | hj | ⟨c,hj⟩
  ·exact hP.ge _ (.head _)
  ·exact (Fc j hj).elim (fun z=>hP.ge j (Ck v j z)) fun z=>by omega
  ·rw[u0 c] at hj
   by_cases hc:c=b
   ·rw[if_pos hc] at hj
    exact (g10 j hj).elim (fun z=>hP.ge j (zW v b j z)) fun z=>by omega
   ·rw[if_neg hc] at hj
    exact hP.ge j (zW v c j hj)
 ·rw[u0 c]
  by_cases hc:c=b
  ·rw[if_pos hc]
   refine⟨es++[k+1],g3,fun e he => ?_,by simp;omega⟩
   rcases aal.1 he with he | he
   ·have:=e2 e he;omega
   ·rw[wc] at he;omega
  ·rw[if_neg hc]
   obtain⟨aq,q1,q2,q3⟩:=hl.nv c
   exact⟨aq,q1,fun e he=>by have:=q2 e he;omega,by omega⟩
 ·rw[u0 c]
  by_cases hc:c=b
  ·rw[if_pos hc];omega
  ·rw[if_neg hc];have:=hl.ou c;omega
 ·rw[u0 c]
  by_cases hc:c=b
  ·rw[if_pos hc,g6,Qg,hc]
  ·rw[if_neg hc];exact hl.w c
 ·rcases hj with hj | ⟨c,y,hy,hj⟩
  ·rcases Gf hj with rfl | hj | ⟨c,hj⟩
   ·exact .inl (.inl (.head _))
   ·exact (Fc j hj).elim (fun z => .inl (.inl (Ck v j z))) fun z => .inr (Qi j z)
   ·rw[u0 c] at hj
    by_cases hc:c=b
    ·rw[if_pos hc] at hj
     exact (g10 j hj).elim (fun z => .inl (.inl (zW v b j z))) fun z => .inr (Qi j z)
    ·rw[if_neg hc] at hj
     exact .inl (.inl (zW v c j hj))
  ·rw[u0 c] at hy
   by_cases hc:c=b
   ·rw[if_pos hc] at hy
    exact (g11 y hy j hj).elim (fun⟨z,hz,q⟩ => .inl (.inr ⟨b,z,hz,q⟩)) fun z => .inr (Qi j z)
   ·rw[if_neg hc] at hy
    exact .inl (.inr ⟨c,y,hy,hj⟩)
theorem ix2 (p q:Nat):xH P 73 (.agg [.ptr p 0,.ptr q 0]) (.int .i64 0)=some (.ptr p 0)/\xH P 73 (.agg [.ptr p 0,.ptr q 0]) (.int .i64 1)=some (.ptr q 0):=⟨by kernel_rfl,by kernel_rfl⟩
theorem afN {H:Hp}{v:PV}{k:Nat}{w0:Int}(hP:Pr H v)(hl:Pl v k w0)(hk:k<60)(b:Bool)(hT:ez H dN)(hn:11<=H.next) :
  ∃ v' H',cK (.func (.func 31) [] []) [.ptr v.pp 0,.agg (vj b)] H=some (.int .i64 0,H')/\Pr H' v'/\Pl v' (k+1) (bw b)/\v'.pp=v.pp/\Out (vR v) H H'/\∀ j,kK v' j->kK v j\/H.next<=j:=by
 obtain⟨H1,b1,b2,b3,b4⟩:=jP H 39 (.agg (vj b)) (vj b) rfl (by simp[vj])
 have pU:=hP.eR b3
 have l1:ld (.ptr H.next 1) H1=some (.int .i64 (bw b)):=b2.ld rfl
 have l0:ld (.ptr H.next 0) H1=some (.int .i64 8):=b2.ld rfl
 have x1:af 13 (.ptr H.next 0) H1=some (.agg (vj b)):=b2.af (n:=13) (o:=0) (by simp[vj])
 obtain⟨v',H2,d1,d2,d3,d4,d5,d6⟩:=akP pU hl hk b (ly hT hn b3) (abS hn b3.1)
 rw[<-d4] at d1
 obtain⟨el,hh⟩:=d2.head
 have x2:af 2 (.ptr v'.pp 2) H2=some (.agg [.ptr (v'.n false).np 0,.ptr (v'.n true).np 0]):=hh.af (n:=2) (o:=2) (by simp[GF])
 obtain⟨y1,y2⟩:=ix2 (v'.n false).np (v'.n true).np
 obtain⟨H3,a1,a2⟩:=WH (d2.nd false) (d3.off false)
 obtain⟨H4,a3,a4⟩:=WH ((d2.nd true).eR a2) (d3.off true)
 have j0:dj (.int .i64 0) (.int .i64 1)=some (.int .i64 1):=rfl
 have j1:dj (.int .i64 1) (.int .i64 1)=some (.int .i64 2):=rfl
 refine⟨v',H4,afr ?_,(d2.eR a2).eR a4,d3,d4,(b3.mono fun j hj=>by cases hj).trans (d5.trans ((a2.trans a4).mono fun j hj=>by cases hj)),fun j hj=>(d6 j hj).imp id fun q=>abS b3.1 q⟩
 rw[<-d4]
 unfold Sn
 have hb:∀ z:R,(z=some (.int .i64 0,H4))->z=some (.int .i64 0,H4):=fun _ h=>h
 cases b
 ·have AJ:ld (.ptr H.next 1) H1=some (.int .i64 0):=l1
  simp only[b1,AJ,l0,x1,d1,x2,aj,ak,simprocAttr]
  rw[Dh]
  simp only[zB,y1,a1,aj,ak,simprocAttr]
  rw[Lf]
  simp only[EZ,j0,aj,ak,simprocAttr]
  rw[Dh]
  simp only[zB,y2,a3,aj,ak,simprocAttr]
  rw[Lf]
  simp only[EZ,j1,aj,ak,simprocAttr]
  rw[Dh]
  simp only[zB,aj,ak,simprocAttr]
 ·have AJ:ld (.ptr H.next 1) H1=some (.int .i64 1):=l1
  simp only[b1,AJ,l0,x1,d1,x2,aj,ak,simprocAttr]
  rw[Dh]
  simp only[zB,y1,a1,aj,ak,simprocAttr]
  rw[Lf]
  simp only[EZ,j0,aj,ak,simprocAttr]
  rw[Dh]
  simp only[zB,y2,a3,aj,ak,simprocAttr]
  rw[Lf]
  simp only[EZ,j1,aj,ak,simprocAttr]
  rw[Dh]
  simp only[zB,aj,ak,simprocAttr]
theorem arW {H:Hp}{v:PV}(hP:Pr H v):∃ H',cK (.func (.func 33) [] []) [.ptr v.pp 0] H=some (.agg [.int .i64 0,.int .i64 0,.int .i64 0,.int .i64 0,.int .i64 0,.str []],H')/\Out [] H H':=by
 obtain⟨H1,n1,n2,n3,n4⟩:=eJ H [.int .i64 0,.int .i64 0,.int .i64 0,.int .i64 0,.int .i64 0,.str []] 75 0 (by simp)
 obtain⟨el,hh⟩:=(hP.eR n3).head
 have x1:af 6 (.ptr v.pp 6) H1=some (.agg [.int .i64 0,.int .i64 0,.int .i64 0,.int .i64 0,.int .i64 0,.str []]):=hh.af (n:=6) (o:=6) (by simp[GF])
 obtain⟨H2,t1,t2,t3,t4⟩:=jf (n:=6) (v := .agg [.int .i64 0,.int .i64 0,.int .i64 0,.int .i64 0,.int .i64 0,.str []]) n2 (by decide) rfl rfl rfl (ac6.1 rfl)
 have x2:af 6 (.ptr H.next 0) H2=some (.agg [.int .i64 0,.int .i64 0,.int .i64 0,.int .i64 0,.int .i64 0,.str []]):=t2.af (n:=6) (o:=0) (by simp)
 refine⟨H2,amH ?_,n3.then t3 fun j hj=>by rw[wc] at hj;exact .inr (by omega)⟩
 unfold Vm
 simp only[n1,x1,t1,x2,aj,ak,simprocAttr]
theorem aga {H:Hp}{v:PV}{k:Nat}{w:Int}(hP:Pr H v)(hl:Pl v k w)(hk:k<=60):∃ H',cK (.func (.func 51) [] []) [.ptr v.pp 0] H=some (.agg (sc ⟨(k:Nat),w,false,0⟩),H')/\Out [] H H':=by
 obtain⟨L',eL,DA⟩:=hl.reg
 obtain⟨H1,n1,n2,n3,n4⟩:=eJ H [.int .i64 0,.int .i64 0,.bool false,.int .i64 0] 97 0 (by simp)
 have pU:=hP.eR n3
 have m4:ld (.ptr v.pp 4) H1=some (.ptr v.a 0):=pU.head.ld rfl
 have hA:=pU.ab
 rw[eL] at hA
 obtain⟨H2,g1,g2⟩:=PH hA (by omega)
 obtain⟨H3,t1,t2,t3,t4⟩:=jf (n:=4) (n2.out g2 (by simp)) (by omega) (xL ⟨(k:Nat),w,false,0⟩) rfl rfl (zQ _)
 have x2:af 4 (.ptr H.next 0) H3=some (.agg (sc ⟨(k:Nat),w,false,0⟩)):=t2.af (n:=4) (o:=0) (by simp[sc])
 refine⟨H3,ae7 ?_,(n3.trans g2).then t3 fun j hj=>by rw[wc] at hj;exact .inr (by omega)⟩
 unfold abt
 simp only[n1,m4,g1,t1,x2,aj,ak,simprocAttr]
theorem Pv:∀ x∈tf.L0,x∈dN:=fun x hx=>by
 rw[tf.L0,wc] at hx
 subst hx
 unfold dN
 repeat (first|exact List.Mem.head _|apply List.Mem.tail)
section
variable {H:Hp}
theorem agj (hT:ez H dN)(hn:11<=H.next){w:Int}(hw:w = -1\/w=0\/w=1):cK (.func (.func 46) [] []) [.int .i64 w] H=some (.str (cZ w),H):=by
 refine oN (p:=tf.On) (by kernel_rfl) ?_
 rcases hw with rfl | rfl | rfl<;>exact PE rfl (hT.sub Pv) hn
theorem aaD (hT:ez H dN)(hn:11<=H.next){n:Nat}(h:n<=60):cK (.func (.func 52) [] []) [.int .i64 (n:Nat),.int .i64 10] H=some (.str (cZ (n:Nat)),H):=by
 refine oN (p:=tf.Qp) (by kernel_rfl) (PE ?_ (hT.sub Pv) hn)
 show (if n<=60 then _ else _)=_
 rw[if_pos h];rfl
theorem aee (hT:ez H dN)(hn:11<=H.next){n:Nat}(h:n<=60):cK (.func (.func 8) [] []) [.int .i64 (n:Nat)] H=some (.str (cZ (n:Nat)),H):=by
 refine oN (p:=tf.MX) (by kernel_rfl) (PE ?_ (hT.sub Pv) hn)
 show (if n<=60 then _ else _)=_
 rw[if_pos h];rfl
end
def ky (w:Int):List Bool->Int
 | []=>w
 | b::r=>ky (bw b) r
theorem Z2 {w:Int}(hw:w = -1\/w=0\/w=1):∀ r:List Bool,ky w r = -1\/ky w r=0\/ky w r=1
 | []=>hw
 | b::r=>Z2 (by cases b;exact .inr (.inl rfl);exact .inr (.inr rfl)) r
def mY:Option Bool->cT
 | some b=>[108,101,97,100,32,bif b then 49 else 48]
 | none=>mH
def pL:Option Bool->List AV
 | some b=>lc (bw b)
 | none=>nN
theorem abH (o:Option Bool):∀ v∈pL o,db v=true:=by cases o;exact To;exact Mn _
theorem aeF (o:Option Bool):jX (.agg (pL o))=some (pL o):=rfl
theorem I8 (o:Option Bool):(pL o).length=14:=by cases o<;>rfl
theorem am0 (o:Option Bool)(H:Hp):∃ y H1 H2,∃ n:Nat,cK (.func (.func 11) [] []) [.str (mY o)] H=some (y,H1)/\cJ y=some (.int .i64 ((n+1:Nat):Int))/\cK (.func (.func 12) [] []) [y] H1=some (.tuple [.agg (pL o),.bool true],H2)/\Out [] H H2:=by
 cases o with
 | none=>
  obtain⟨y,H1,a1,a2,a3,a4⟩:=UP (s:=mH) (by decide) H
  have vJ:Rw H1 1 y (strs [mH]):=a2
  obtain⟨H2,b1,b2⟩:=anp vJ
  exact⟨y,H1,H2,0,a1,vJ.gV,b1,a3.trans b2⟩
 | some b=>
  obtain⟨y,H1,a1,a2,a3,a4⟩:=UP (s:=mY (some b)) (by cases b<;>decide) H
  cases b
  ·have vJ:Rw H1 1 y (strs [rP,[48]]):=a2
   obtain⟨H2,b1,b2⟩:=aaP (.inl rfl) vJ
   exact⟨y,H1,H2,1,a1,vJ.gV,b1,a3.trans b2⟩
  ·have vJ:Rw H1 1 y (strs [rP,[49]]):=a2
   obtain⟨H2,b1,b2⟩:=aaP (.inr rfl) vJ
   exact⟨y,H1,H2,1,a1,vJ.gV,b1,a3.trans b2⟩
theorem ad7 {H:Hp}{v:PV}{k:Nat}{w0:Int}{hd:AV}(hP:Pr H v)(hl:Pl v k w0)(hk:k<60)(b:Bool)(hT:ez H dN)(hn:11<=H.next) :
  ∃ v' H',cK (.func (.func 15) [] []) [.ptr v.pp 0,.agg (lc (bw b)),hd] H=some (.str [111,107],H')/\Pr H' v'/\Pl v' (k+1) (bw b)/\v'.pp=v.pp/\Out (vR v) H H'/\∀ j,kK v' j->kK v j\/H.next<=j:=by
 obtain⟨H1,b1,b2,b3,b4⟩:=jP H 41 (.agg (lc (bw b))) (lc (bw b)) rfl (by simp[lc])
 have pU:=hP.eR b3
 have yz:ld (.ptr H.next 13) H1=some (.str []):=b2.ld rfl
 have x1:af 13 (.ptr H.next 0) H1=some (.agg (vj b)):=b2.af (n:=13) (o:=0) (by simp[lc])
 obtain⟨v',H2,d1,d2,d3,d4,d5,d6⟩:=afN pU hl hk b (ly hT hn b3) (abS hn b3.1)
 obtain⟨H3,a1,a2⟩:=arW d2
 rw[d4] at a1
 have hid:H.next∉vR v:=fun q=>by have:=hP.lt _ (.inl q);omega
 have xq:=(b2.out d5 hid).out a2 (by simp)
 obtain⟨H4,n1,n2,n3,n4⟩:=eJ H3 [.int .i64 0,.int .i64 0,.int .i64 0,.int .i64 0,.int .i64 0,.str []] 75 0 (by simp)
 obtain⟨H5,t1,t2,t3,t4⟩:=jf (n:=6) (v := .agg [.int .i64 0,.int .i64 0,.int .i64 0,.int .i64 0,.int .i64 0,.str []]) n2 (by decide) rfl rfl rfl (ac6.1 rfl)
 have ah:=xq.1
 have l0:ld (.ptr H.next 0) H5=some (.int .i64 8):=((xq.out n3 (by simp)).out t3 (gX (by omega))).ld rfl
 have YG:Out [] H2 H5:=(a2.trans n3).then t3 fun j hj=>by rw[wc] at hj;have:=a2.1;exact .inr (by omega)
 have s1:(([]:List Nat)==[116,111,108,100])=false:=rfl
 have s2:(([]:List Nat)==[104,105,115,116,111,114,121])=false:=rfl
 have s3:(([]:List Nat)==[114,101,103,105,115,116,101,114])=false:=rfl
 refine⟨v',H5,Xz ?_,d2.eR YG,d3,d4,(b3.mono fun j hj=>by cases hj).trans (d5.trans (YG.mono fun j hj=>by cases hj)),fun j hj=>(d6 j hj).imp id fun q=>abS b3.1 q⟩
 unfold Mr
 simp only[b1,yz,s1,s2,s3,x1,d1,a1,n1,t1,l0,aj,ak,simprocAttr]
def rH (k:Nat)(w:Int):cT:=wq [32] [cZ (k:Nat),cZ w,[48],cZ ((0:Nat):Int)]
theorem ae3 {H:Hp}{v:PV}{k:Nat}{w:Int}(hP:Pr H v)(hl:Pl v k w)(hk:k<=60)(hw:w = -1\/w=0\/w=1)(hT:ez H dN)(hn:11<=H.next) :
  ∃ H',cK (.func (.func 30) [] []) [.ptr v.pp 0] H=some (.str (rH k w),H')/\Out [] H H':=by
 obtain⟨H1,a1,a2⟩:=aga hP hl hk
 obtain⟨H2,n1,n2,n3,n4⟩:=eJ H1 [.int .i64 0,.int .i64 0,.bool false,.int .i64 0] 97 0 (by simp)
 obtain⟨H3,t1,t2,t3,t4⟩:=jf (n:=4) n2 (by omega) (xL ⟨(k:Nat),w,false,0⟩) rfl rfl (zQ _)
 have o3:Out [] H H3:=(a2.trans n3).then t3 fun j hj=>by rw[wc] at hj;have:=a2.1;exact .inr (by omega)
 have l0:ld (.ptr H1.next 0) H3=some (.int .i64 (k:Nat)):=t2.ld rfl
 have l1:ld (.ptr H1.next 1) H3=some (.int .i64 w):=t2.ld rfl
 have l2:ld (.ptr H1.next 2) H3=some (.bool false):=t2.ld rfl
 have l3:ld (.ptr H1.next 3) H3=some (.int .i64 0):=t2.ld rfl
 have B8:=ly hT hn o3
 have xF:11<=H3.next:=abS hn o3.1
 have e1:=aaD B8 xF (n:=k) (by omega)
 have e2:=agj B8 xF hw
 have e3:=aaD B8 xF (n:=0) (by omega)
 rw[show (((0:Nat):Int))=0 from rfl] at e3
 have f1:fl [(.str []),(.str []),(.str []),(.str [])] [(0,1,.str (cZ (k:Nat))),(1,1,.str (cZ w)),(2,1,.str [48]),(3,1,.str (cZ 0))]=some (strs [cZ (k:Nat),cZ w,[48],cZ 0]):=rfl
 have D3:∀ v∈strs [cZ (k:Nat),cZ w,[48],cZ 0],db v=true:=aay _
 obtain⟨H4,p1,p2,p3,p4⟩:=eJ H3 (strs [cZ (k:Nat),cZ w,[48],cZ 0]) 9 0 (by simp[strs])
 have jC:Rw H4 1 (.slice H3.next 0 4 4 true 1) (strs [cZ (k:Nat),cZ w,[48],cZ 0]):=(p2.ow (el:=9) (es:=1) (n:=4) (by decide) rfl D3 true).rw
 have Dd:∀ n:Nat,n<100->(cZ (n:Nat)).length<=2/\∀ b∈cZ (n:Nat),b<256:=fun n h=>by
  by_cases h1:n<10
  ·rw[xE h1];exact⟨by simp,fun b hb=>by rw[wc] at hb;omega⟩
  ·rw[E6 h1 h];exact⟨by simp,fun b hb=>by simp only[yL,aeB,or_false] at hb;omega⟩
 have hw9:(cZ w).length<=2/\∀ b∈cZ w,b<256:=by
  rcases hw with rfl | rfl | rfl
  ·exact⟨by decide +kernel,by decide +kernel⟩
  ·exact Dd 0 (by decide)
  ·exact Dd 1 (by decide)
 have gC:∀ s∈[cZ (k:Nat),cZ w,[48],cZ 0],s.length<=2/\∀ b∈s,b<256:=fun s hs=>by
  simp only[yL,aeB,or_false] at hs
  rcases hs with rfl | rfl | rfl | rfl
  ·exact Dd k (by omega)
  ·exact hw9
  ·exact⟨by decide,by decide⟩
  ·exact Dd 0 (by decide)
 obtain⟨H5,j1,j2⟩:=ais (sep:=[32]) rfl jC (by simp) (fun s hs=>by have:=(gC s hs).1;omega) (by
  have h1:=(Dd k (by omega)).1
  have h3:=(Dd 0 (by decide)).1
  simp only[nr,ab8,List.map_nil,ah6,List.sum_nil,abn,abY]
  have:(cZ 0).length<=2:=h3
  omega) (fun s hs b hb=>(yL.1 hs).elim (fun e=>by subst e;rw[wc] at hb;omega) fun e=>(gC s e).2 b hb)
 have eq:fl [(.str []),(.str []),(.str []),(.str [])] [(0,1,.str (cZ (k:Nat))),(1,1,.str (cZ w)),(2,1,.str [48]),(3,1,.str (cZ 0))]=some (strs [cZ (k:Nat),cZ w,[48],cZ 0]):=rfl
 refine⟨H5,agS ?_,(o3.trans p3).trans j2⟩
 unfold Qu
 simp only[a1,n1,t1,l0,l1,l2,l3,e1,e2,e3,f1,p1,j1,F8,aj,ak,simprocAttr]
 rfl
theorem aeO {H:Hp}{v:PV}{k:Nat}{w:Int}{hd:AV}(hP:Pr H v)(hl:Pl v k w)(hk:k<=60)(hw:w = -1\/w=0\/w=1)(hT:ez H dN)(hn:11<=H.next) :
  ∃ H',cK (.func (.func 15) [] []) [.ptr v.pp 0,.agg nN,hd] H=some (.str (rH k w),H')/\Out [] H H':=by
 obtain⟨H1,b1,b2,b3,b4⟩:=jP H 41 (.agg nN) nN rfl (by simp[nN])
 have yz:ld (.ptr H.next 13) H1=some (.str mH):=b2.ld rfl
 have s1:(mH==[116,111,108,100])=false:=rfl
 have s2:(mH==[104,105,115,116,111,114,121])=false:=rfl
 have s3:(mH==[114,101,103,105,115,116,101,114])=true:=rfl
 obtain⟨H2,r1,r2⟩:=ae3 (hP.eR b3) hl hk hw (ly hT hn b3) (abS hn b3.1)
 refine⟨H2,Xz ?_,b3.trans r2⟩
 unfold Mr
 simp only[b1,yz,s1,s2,s3,r1,aj,ak,simprocAttr]
theorem Ud {H0:Hp}{l:List (Option Bool)}{x:AV}(hl:l.length<=100)(hx:Rw H0 1 x (strs (l.map mY))):∀ (r i:Nat) (z:AV) (H:Hp),l.length=i+r->Out [] H0 H->OL H 41 14 z ((l.take i).map pL)->(∀ j∈aa z,H0.next<=j)->
  ∃ z' H',(∀ k:K.Fn 1,CN JN GO cK k z x (.int .i64 (l.length:Nat)) (.int .i64 (i:Nat)) H=k z' H')/\OL H' 41 14 z' (l.map pL)/\Out [] H0 H'/\∀ j∈aa z',H0.next<=j
 | 0,i,z,H,hm,ho,hz,hd=>by
  have d:decide (((i:Nat):Int)<((l.length:Nat):Int))=false:=decide_eq_false (by omega)
  refine⟨z,H,fun k => ?_,by rw[aea (by omega)] at hz;exact hz,ho,hd⟩
  rw[Xd]
  simp only[JY,d,aj,ak,simprocAttr]
 | r+1,i,z,H,hm,ho,hz,hd=>by
  have d:decide (((i:Nat):Int)<((l.length:Nat):Int))=true:=decide_eq_true (by omega)
  have mC:i<l.length:=by omega
  obtain⟨o,he⟩:∃ o,l[i]? = some o:=⟨_,aax mC⟩
  have qu:=hx.eR ho
  obtain⟨q,q1,q2⟩:=qu.lA (zM (show (l.map mY)[i]? = some (mY o) by rw[adh,he];rfl)) .i64
  obtain⟨y,H1,H2,n,w1,w2,w3,w4⟩:=am0 o H
  have d2:(((n+1:Nat):Int)==0)=false:=by rw[beq_eq_false_iff_ne];omega
  obtain⟨H3,n1,n2,n3,n4⟩:=eJ H2 zL 41 0 (by simp)
  obtain⟨H4,t1,t2,t3,t4⟩:=jf (n:=14) n2 (by omega) (aeF o) (I8 o) rfl (abH o)
  have x4:af 14 (.ptr H2.next 0) H4=some (.agg (pL o)):=by
   have:=t2.af (n:=14) (o:=0) (by rw[I8];decide)
   rw[afO,aea (by rw[I8];decide)] at this
   exact this
  have f1:fl zL [(0,14,.agg (pL o))]=some (pL o):=by cases o<;>rfl
  have o4:Out [] H H4:=(w4.trans n3).then t3 fun j hj=>by rw[wc] at hj;have:=w4.1;exact .inr (by omega)
  obtain⟨H5,z',H6,m1,m2,m3,m4,m5,m6⟩:=OL.I7 (mD:=41) (z:=zL) (vs:=pL o) (hz.out o4 fun j _ q=>by cases q) (abH o) (I8 o) (by decide) (by decide) (by simp;omega)
  have hz6:OL H6 41 14 z' ((l.take (i+1)).map pL):=by
   rw[List.take_add_one,he]
   simpa using m3
  have Wt:=ho.trans o4
  obtain⟨z9,H9,k1,k2,k3,k4⟩:=Ud hl hx r (i+1) z' H6 (by omega) (Wt.then m5 fun j hj => .inr (hd j hj)) hz6 fun j hj=>(m6 j hj).elim (hd j) fun q=>abS Wt.1 q
  have w:IntKind.wrap .i64 (((i:Nat):Int)+1)=((i+1:Nat):Int):=by rw[wrap_i64 (by omega) (by omega)];omega
  refine⟨z9,H9,fun k => ?_,k2,k3,k4⟩
  rw[Xd]
  simp only[JY,d,q1,q2,w1,w2,d2,w3,n1,t1,x4,f1,m1,m2,w,aj,ak,simprocAttr]
  exact k1 k
def Bz (H:Hp)(p:Nat)(sl:AV)(l:cT):Prop:=Bu H p sl l\/(sl = .ae/\l=[]/\Cs H p [.aC,.ae] 50 0)
theorem Bz.out {H H':Hp}{p:Nat}{sl:AV}{l:cT}{S:List Nat}(h:Bz H p sl l)(k:Out S H H')(hs:∀ j∈p::aa sl,j∉S):Bz H' p sl l:=by
 rcases h with h | ⟨h1,h2,h3⟩
 ·exact .inl ⟨h.c.out k (hs _ (.head _)),h.o.out k fun j hj=>hs j (.tail _ hj),h.ne⟩
 ·exact .inr ⟨h1,h2,h3.out k (hs _ (.head _))⟩
theorem Bz.lt {H:Hp}{p:Nat}{sl:AV}{l:cT}(h:Bz H p sl l):∀ j∈p::aa sl,j<H.next:=fun j hj=>by
 rcases h with h | ⟨h1,h2,h3⟩
 ·rcases yL.1 hj with rfl | hj
  ·exact h.c.1
  ·exact h.o.rw.lt j hj
 ·subst h1
  rcases yL.1 hj with rfl | hj
  ·exact h3.1
  ·cases hj
theorem VQ {H1:Hp}{p:Nat}{sl:AV}{l s:cT}(h:Bu H1 p sl l)(hl:l.length+s.length<=16777216):∃ gr H',(∀ H,cK (.func (.func 26) [] []) [.ptr p 0] H=some (.tuple [],H1)->cK (.func (.func 14) [] []) [.ptr p 0,.str s] H=some (.tuple [.int .i64 s.length,.nilIface],H'))/\Bu H' p gr (l++s)/\Out (p::aa sl) H1 H'/\∀ j∈aa gr,j∈aa sl\/H1.next<=j:=by
 obtain⟨gr,H2,a1,a2,a3,a4⟩:=Es (n:=s.length) (new:=bs s) h.o (by rw[gO,adQ]) (zV s) (by decide) (by rw[gO,gO];exact hl)
 have Eh:fZ 5 1 [(.int .u8 0)] false sl (.str s) H1=some (gr,H2):=by
  unfold fZ
  have:tC 1 [(.int .u8 0)] false (.str s) H1=some (s.length,bs s):=by unfold tC;simp[bs]
  rw[this];exact a1
 have p8:=h.c.out a3 h.ne
 obtain⟨H3,w1,w2,w3,w4⟩:=qZ p8 (by decide) (o:=1) (by simp) (v:=gr) a2.Br
 have cL:p∉aa gr:=fun q=>(a4 p q).elim h.ne fun q=>by have:=h.c.1;omega
 have l1:=h.c.ld (o:=1) (v:=sl) rfl
 refine⟨gr,H3,fun H hc=>V3 ?_,⟨w2,by rw[Et];exact a2.out w3 (fun j hj=>by rw[wc];intro e;subst e;exact cL hj),cL⟩,?_,a4⟩
 ·unfold Oy
  simp only[hc,l1,Eh,w1,aj,ak,simprocAttr]
 ·exact (a3.mono fun j hj => .tail _ hj).trans (w3.mono fun j hj=>by rw[wc] at hj;subst hj;exact .head _)
theorem aa5 {H:Hp}{p:Nat}{sl:AV}{l s:cT}(h:Bz H p sl l)(hl:l.length+s.length<=16777216):∃ gr H',cK (.func (.func 14) [] []) [.ptr p 0,.str s] H=some (.tuple [.int .i64 s.length,.nilIface],H')/\Bu H' p gr (l++s)/\Out (p::aa sl) H H'/\∀ j∈aa gr,j∈aa sl\/H.next<=j:=by
 rcases h with h | ⟨rfl,rfl,h3⟩
 ·obtain⟨gr,H',a1,a2,a3,a4⟩:=VQ h hl
  exact⟨gr,H',a1 H (Vl h),a2,a3,a4⟩
 ·obtain⟨H1,c1,c2,c3,c4⟩:=UH h3
  obtain⟨gr,H',a1,a2,a3,a4⟩:=VQ (H1:=H1) (sl := .ae) (l:=[]) ⟨c2,.nil,fun q=>by cases q⟩ hl
  exact⟨gr,H',a1 H c1,a2,(c3.mono fun j hj=>by rw[wc] at hj;subst hj;exact .head _).trans a3,fun j hj=>(a4 j hj).imp id fun q=>by omega⟩
def rR:cT:=[111,107,10]
def lg (k:Nat)(w:Int):List Bool->cT
 | []=>rH k w++[10]
 | b::r=>rR++lg (k+1) (bw b) r
theorem YL {k:Nat}{w:Int}(hk:k<=60)(hw:w = -1\/w=0\/w=1):(rH k w).length<=20:=by
 have hd:∀ n:Nat,n<100->(cZ (n:Nat)).length<=2:=fun n h=>by
  by_cases h1:n<10
  ·rw[xE h1];simp
  ·rw[E6 h1 h];simp
 have h1:=hd k (by omega)
 have h3:=hd 0 (by decide)
 have h2:(cZ w).length<=2:=by
  rcases hw with rfl | rfl | rfl
  ·decide +kernel
  ·exact hd 0 (by decide)
  ·exact hd 1 (by decide)
 unfold rH
 simp only[wq,pS,abz,abn,abY]
 omega
theorem Zs {bl:List Bool}{x hp:AV}{bp:Nat}(hl:bl.length<=60):∀ (r:List Bool) (i:Nat) (H:Hp) (v:PV) (w:Int) (sl:AV) (acc:cT),bl.drop i=r->i<=bl.length->Pr H v->Pl v i w->(w = -1\/w=0\/w=1)->Bz H bp sl acc->acc.length=3*i->
  RL H 14 x ((bl.map some++[none]).map pL)->(∀ j∈bp::aa sl,¬ kK v j/\j∉aa x/\11<=j)->(∀ j∈aa x,¬ kK v j)->ez H dN->11<=H.next->
  ∃ gr H',(∀ k:K.Fn 1,DJ JN GO cK k (.ptr v.pp 0) (.ptr bp 0) hp x (.int .i64 ((bl.length+1:Nat):Int)) (.int .i64 (i:Nat)) H=k (.ptr bp 0) H')/\Bu H' bp gr (acc++lg i w r)/\ez H' dN/\11<=H'.next/\∀ j∈aa gr,11<=j
 | [],i,H,v,w,sl,acc,hr,hi,hP,hL,hw,hB,TN,hx,pw,Qb,hT,hn=>by
  have e:i=bl.length:=by
   have:=congrArg List.length hr
   rw[aef] at this
   simp at this
   omega
  subst e
  have d:decide (((bl.length:Nat):Int)<((bl.length+1:Nat):Int))=true:=decide_eq_true (by omega)
  obtain⟨b,o,z1,z2,z3,z4,z5⟩:=hx.at (by decide) (i:=bl.length) (c:=nN) (by simp[pL])
  have uH:=z1 .i64
  have z6:af 14 (.ptr b o) H=some (.agg nN):=AQ z4
  obtain⟨H1,n1,n2,n3,n4⟩:=eJ H zL 41 0 (by simp)
  obtain⟨H2,t1,t2,t3,t4⟩:=jf (n:=14) n2 (by omega) (show jX (.agg nN)=some nN from rfl) rfl rfl To
  have x4:af 14 (.ptr H.next 0) H2=some (.agg nN):=t2.af (n:=14) (o:=0) (by simp[nN])
  have o2:Out [] H H2:=n3.then t3 fun j hj=>by rw[wc] at hj;exact .inr (by omega)
  obtain⟨H3,d1,d2⟩:=aeO (hd:=hp) (hP.eR o2) hL hl hw (ly hT hn o2) (abS hn o2.1)
  have pB:=YL hl hw
  have Nc:jQ (.str (rH bl.length w)) (.str [10])=some (.str (rH bl.length w++[10])):=uQ (by simp;omega)
  have Nh:Bz H3 bp sl acc:=hB.out (o2.trans d2) fun _ _ q=>by cases q
  obtain⟨gr,H4,w1,w2,w3,w4⟩:=aa5 Nh (s:=rH bl.length w++[10]) (by simp;omega)
  have w9:IntKind.wrap .i64 (((bl.length:Nat):Int)+1)=((bl.length+1:Nat):Int):=by rw[wrap_i64 (by omega) (by omega)];omega
  have d9:decide (((bl.length+1:Nat):Int)<((bl.length+1:Nat):Int))=false:=decide_eq_false (by omega)
  have o3:=o2.trans d2
  have B8:=ly hT hn o3
  have xF:11<=H3.next:=abS hn o3.1
  have AZ:ez H4 dN:=by
   obtain⟨el,hh⟩:=B8
   refine⟨el,fun q l' hg => ?_⟩
   have hb:=Ah q l' hg
   rw[w3.2 q (by omega) fun z=>by have:=(pw q z).2.2;omega]
   exact hh q l' hg
  refine⟨gr,H4,fun k => ?_,w2,AZ,abS xF w3.1,fun j hj=>(w4 j hj).elim (fun q=>(pw j (.tail _ q)).2.2) fun q=>by omega⟩
  rw[Pm]
  simp only[KD,d,uH,z6,n1,t1,x4,d1,Nc,w1,w9,aj,ak,simprocAttr]
  rw[Pm]
  simp only[KD,d9,aj,ak,simprocAttr]
 | b::r,i,H,v,w,sl,acc,hr,hi,hP,hL,hw,hB,TN,hx,pw,Qb,hT,hn=>by
  have mC:i<bl.length:=by
   have:=congrArg List.length hr
   rw[aef,abn] at this
   omega
  rw[agE mC] at hr
  obtain⟨hb,eg⟩:=List.cons.inj hr
  have d:decide (((i:Nat):Int)<((bl.length+1:Nat):Int))=true:=decide_eq_true (by omega)
  obtain⟨b',o,z1,z2,z3,z4,z5⟩:=hx.at (by decide) (i:=i) (c:=lc (bw b)) (by
   rw[adh,abU (by simp;omega),adh,aax mC,hb]
   rfl)
  have uH:=z1 .i64
  have z6:af 14 (.ptr b' o) H=some (.agg (lc (bw b))):=AQ z4
  obtain⟨H1,n1,n2,n3,n4⟩:=eJ H zL 41 0 (by simp)
  obtain⟨H2,t1,t2,t3,t4⟩:=jf (n:=14) n2 (by omega) (show jX (.agg (lc (bw b)))=some (lc (bw b)) from rfl) rfl rfl (Mn _)
  have x4:af 14 (.ptr H.next 0) H2=some (.agg (lc (bw b))):=t2.af (n:=14) (o:=0) (by simp[lc])
  have o2:Out [] H H2:=n3.then t3 fun j hj=>by rw[wc] at hj;exact .inr (by omega)
  obtain⟨v',H3,d1,d2,d3,d4,d5,d6⟩:=ad7 (hd:=hp) (hP.eR o2) hL (by omega) b (ly hT hn o2) (abS hn o2.1)
  have Nh:Bz H3 bp sl acc:=(hB.out o2 fun _ _ q=>by cases q).out d5 fun j hj q=>(pw j hj).1 (.inl q)
  have Nc:jQ (.str [111,107]) (.str [10])=some (.str rR):=uQ (by decide)
  obtain⟨gr,H4,w1,w2,w3,w4⟩:=aa5 Nh (s:=rR) (by simp[rR];omega)
  have ah:=hP.lt
  have blt:∀ j∈bp::aa sl,j<H.next:=hB.lt
  have xj:=hx.1.lt
  have MD:RL H4 14 x ((bl.map some++[none]).map pL):=((hx.eR o2).out d5 fun j hj q=>Qb j hj (.inl q)).out w3 fun j hj q=>(pw j q).2.1 hj
  have o1:=o2.1
  have o3:=d5.1
  have NI:∀ j,kK v' j->kK v j\/H2.next<=j:=d6
  have hP4:Pr H4 v':=d2.out w3 fun j hj q=>(NI j hj).elim (pw j q).1 fun z=>by have:=blt j q;omega
  have sg:∀ j∈bp::aa gr,j∈bp::aa sl\/H3.next<=j:=fun j hj=>(yL.1 hj).elim (fun q => .inl (q ▸ .head _)) fun q=>(w4 j q).imp (fun z => .tail _ z) id
  have aqK:=d2.lt
  have ac7:∀ j∈bp::aa gr,¬ kK v' j/\j∉aa x/\11<=j:=fun j hj=>by
   rcases sg j hj with z | z
   ·exact⟨fun q=>(NI j q).elim (pw j z).1 fun t=>by have:=blt j z;omega,(pw j z).2⟩
   ·exact⟨fun q=>by have:=aqK j q;omega,fun q=>by have:=xj j q;omega,by omega⟩
  have aiA:∀ j∈aa x,¬ kK v' j:=fun j hj q=>(NI j q).elim (Qb j hj) fun t=>by have:=xj j hj;omega
  have AZ:ez H4 dN/\11<=H4.next:=by
   obtain⟨q1,q2⟩:=ao5 (ly hT hn o2) (abS hn o1) (hP.eR o2) d5
   refine⟨?_,abS q2 w3.1⟩
   obtain⟨el,hh⟩:=q1
   refine⟨el,fun q l' hg => ?_⟩
   have hb:=Ah q l' hg
   rw[w3.2 q (by omega) fun z=>by have:=(pw q z).2.2;omega]
   exact hh q l' hg
  rw[<-d4]
  obtain⟨ZR,H9,k1,k2,k3⟩:=Zs hl r (i+1) H4 v' (bw b) gr (acc++rR) eg (by omega) hP4 d3 (by cases b;exact .inr (.inl rfl);exact .inr (.inr rfl)) (.inl w2) (by simp[rR];omega) MD ac7 aiA AZ.1 AZ.2
  have w9:IntKind.wrap .i64 (((i:Nat):Int)+1)=((i+1:Nat):Int):=by rw[wrap_i64 (by omega) (by omega)];omega
  refine⟨ZR,H9,fun k => ?_,by show Bu H9 bp ZR (acc++(rR++lg (i+1) (bw b) r));rw[<-adY];exact k2,k3⟩
  rw[Pm]
  rw[<-d4] at d1
  simp only[KD,d,uH,z6,n1,t1,x4,d1,Nc,w1,w9,aj,ak,simprocAttr]
  exact k1 k
theorem arO {s:cT}(h0:0<s.length)(hl:s.length<=10000)(hs:(s.drop (s.length-1)==[10])=false)(H:Hp):cK (.func (.func 10) [] []) [.str s,.str [10]] H=some (.str s,H):=by
 have d:decide ((1:Int)<=((s.length:Nat):Int))=true:=decide_eq_true (by omega)
 have w:IntKind.wrap .i64 (((s.length:Nat):Int)-1)=((s.length-1:Nat):Int):=by rw[wrap_i64 (by omega) (by omega)];omega
 have f:sU (.str s) (some (.int .i64 ((s.length-1:Nat):Int))) none=some (.str (s.drop (s.length-1))):=WQ .i64 (by omega)
 have l1:((([10]:List Nat).length:Nat):Int)=1:=rfl
 have h1:cK (.func (.func 38) [] []) [.str s,.str [10]] H=some (.bool false,H):=by
  refine amq ?_
  unfold T5
  simp only[l1,d,w,f,hs,aj,ak,simprocAttr]
 have h2:cK (.func (.func 18) [] []) [.str s,.str [10]] H=some (.str s,H):=by
  refine aii ?_
  unfold abk
  simp only[h1,aj,ak,simprocAttr]
 refine agX ?_
 unfold VK
 simp only[h2,aj,ak,simprocAttr]
def qD:List Bool->cT
 | []=>mH
 | b::r=>mY (some b)++10::qD r
theorem MO:∀ l:List Bool,(qD l).length=7*l.length+8
 | []=>rfl
 | b::r=>by
  show (mY (some b)++10::qD r).length=_
  rw[abz,abn,MO r,abn]
  have:(mY (some b)).length=6:=by cases b<;>rfl
  omega
theorem acg:∀ l:List Bool,iE 10 (qD l)=(l.map some++[none]).map mY
 | []=>by
  show iE 10 mH=[mH]
  exact Jj (by decide)
 | b::r=>by
  show iE 10 (mY (some b)++10::qD r)=mY (some b)::((r.map some++[none]).map mY)
  rw[IJ (qD r) (by cases b<;>decide),acg r]
theorem YZ:∀ l:List Bool,∃ a,qD l=a++[114]
 | []=>⟨[114,101,103,105,115,116,101],rfl⟩
 | b::r=>by
  obtain⟨a,h⟩:=YZ r
  exact⟨mY (some b)++10::a,by show mY (some b)++10::qD r=_;rw[h];simp⟩
theorem R7:∀ (r:List Bool) (k:Nat) (w:Int),k+r.length<=60->(w = -1\/w=0\/w=1)->0<(lg k w r).length/\(lg k w r).length<=3*r.length+21
 | [],k,w,hk,hw=>by
  have:=YL (k:=k) (w:=w) (by simpa using hk) hw
  show 0<(rH k w++[10]).length/\_
  simp only[lg,abz,abn,abY]
  omega
 | b::r,k,w,hk,hw=>by
  have h:=R7 r (k+1) (bw b) (by simp at hk;omega) (by cases b;exact .inr (.inl rfl);exact .inr (.inr rfl))
  simp only[lg,abz,abn,rR,abY]
  omega
theorem OZ {n:Nat}(h:n<100):∀ b∈cZ (n:Nat),b<256:=by
 by_cases h1:n<10
 ·rw[xE h1];exact fun b hb=>by rw[wc] at hb;omega
 ·rw[E6 h1 h];exact fun b hb=>by simp only[yL,aeB,or_false] at hb;omega
theorem Xs (k:Nat)(w:Int):rH k w=cZ (k:Nat)++[32]++cZ w++[32,48,32,48]:=by
 have:cZ ((0:Nat):Int)=[48]:=xE (by decide)
 unfold rH
 rw[this]
 simp[wq,pS]
theorem aqG {k:Nat}{w:Int}(hk:k<=60)(hw:w = -1\/w=0\/w=1):∀ b∈rH k w,b<256:=by
 have h2:∀ b∈cZ w,b<256:=by
  rcases hw with rfl | rfl | rfl
  ·decide +kernel
  ·exact OZ (n:=0) (by decide)
  ·exact OZ (n:=1) (by decide)
 rw[Xs]
 intro b hb
 simp only[aal,yL,aeB,or_false] at hb
 rcases hb with ((hb | hb) | hb) | hb
 ·exact OZ (by omega) b hb
 ·omega
 ·exact h2 b hb
 ·omega
theorem VX:∀ (r:List Bool) (k:Nat) (w:Int),k+r.length<=60->(w = -1\/w=0\/w=1)->∀ b∈lg k w r,b<256
 | [],k,w,hk,hw=>fun b hb=>by
  rcases aal.1 hb with hb | hb
  ·exact aqG (by simpa using hk) hw b hb
  ·rw[wc] at hb;omega
 | c::r,k,w,hk,hw=>fun b hb=>by
  rcases aal.1 hb with hb | hb
  ·simp only[rR,yL,aeB,or_false] at hb;omega
  ·exact VX r (k+1) (bw c) (by simp at hk;omega) (by cases c;exact .inr (.inl rfl);exact .inr (.inr rfl)) b hb
theorem ad1 {bl:List Bool}(hl:bl.length<=60){H:Hp}(hT:ez H dN)(hn:11<=H.next):∃ H',cK (.func (.func 6) [] []) [.str (qD bl)] H=some (.tuple [.str (lg 0 (-1) bl),.int .i64 0],H')/\ez H' dN/\11<=H'.next:=by
 have HD:=MO bl
 obtain⟨a,ha⟩:=YZ bl
 have e1:=arO (s:=qD bl) (by omega) (by omega) (by rw[ha];simp) H
 obtain⟨x,H1,s1,s2,s3,s4⟩:=XL (c:=10) (by decide) (s:=qD bl) (by omega) H
 rw[acg] at s2
 have dW:=s2.gV
 rw[mM,adg] at dW
 have d1:decide ((8192:Int)<((qD bl).length:Nat))=false:=decide_eq_false (by omega)
 have wF:(bl.map some++[none]).length=bl.length+1:=by simp
 have d2:decide ((400:Int)<(((bl.map some++[none]).length:Nat):Int))=false:=decide_eq_false (by omega)
 obtain⟨z,H2,r1,r2,r3,r4⟩:=Ud (l:=bl.map some++[none]) (by omega) s2 (bl.map some++[none]).length 0 .ae H1 (by omega) (Out.refl _ _) (OL.nil _ _ _) fun j hj=>by cases hj
 have o2:=s3.trans r3
 obtain⟨v,H3,p1,p2,p3,p4,p5⟩:=anJ (ly hT hn o2) (abS hn o2.1)
 have o3:=o2.trans p4
 obtain⟨H4,n1,n2,n3,n4⟩:=eJ H3 [.aC,.ae] 50 0 (by simp)
 obtain⟨H5,m1,m2,m3,m4⟩:=eJ H4 [.int .i64 0] 3 0 (by simp)
 obtain⟨H6,t1,t2,t3,t4⟩:=qZ m2 (by decide) (o:=0) (v := .int .i64 0) (by simp) rfl
 have Bk:Out [] H3 H6:=(n3.trans m3).then t3 fun j hj=>by rw[wc] at hj;exact .inr (by omega)
 have o6:=o3.trans Bk
 have bl6:=(n2.out m3 (by simp)).out t3 (gX (by omega))
 have rB:=r2.rl.len (by decide)
 rw[adg,wF] at rB
 have Cb:=r2.1.rw.lt
 have z6:RL H6 14 z ((bl.map some++[none]).map pL):=(r2.rl.eR p4).eR Bk
 have plt:=p2.lt
 have xF:11<=H3.next:=abS hn o3.1
 have o23:=p4.1
 obtain⟨gr,H7,k1,k2,k3,k4,k5⟩:=Zs (bl:=bl) (x:=z) (hp := .ptr H4.next 0) (bp:=H3.next) hl bl 0 H6 v (-1) .ae [] rfl (adf _) (p2.eR Bk) p3 (.inl rfl) (.inr ⟨rfl,rfl,bl6⟩) rfl z6 (fun j hj=>by
  rcases yL.1 hj with rfl | hj
  ·exact⟨fun q=>by have:=plt _ q;omega,fun q=>by have:=Cb _ q;omega,xF⟩
  ·cases hj) (fun j hj q=>by have:=p5 j q;have:=Cb j hj;omega) (ly hT hn o6) (abS hn o6.1)
 have ky:=R7 bl 0 (-1) (by omega) (.inl rfl)
 obtain⟨H8,g1,g2⟩:=Xa (l:=[]++lg 0 (-1) bl) k2 ky.1 (by show (lg 0 (-1) bl).length<_;omega) (VX bl 0 (-1) (by omega) (.inl rfl))
 have Q0:cK (.func (.func 16) [] []) [.ptr H3.next 0] H7=some (.str (lg 0 (-1) bl),H8):=g1
 have Hc:∀ k:K.Fn 1,CN JN GO cK k .ae x (.int .i64 ((bl.map some++[none]).length:Nat)) (.int .i64 0) H1=k z H2:=r1
 have rz:∀ k:K.Fn 1,DJ JN GO cK k (.ptr v.pp 0) (.ptr H3.next 0) (.ptr H4.next 0) z (.int .i64 ((bl.length+1:Nat):Int)) (.int .i64 0) H6=k (.ptr H3.next 0) H7:=k1
 have hT8:ez H8 dN:=by
  obtain⟨el,hh⟩:=k3
  refine⟨el,fun q l' hg => ?_⟩
  have hb:=Ah q l' hg
  rw[g2.2 q (by omega) fun z=>by have:=k5 q z;omega]
  exact hh q l' hg
 refine⟨H8,anG ?_,hT8,abS k4 g2.1⟩
 unfold RD
 simp only[e1,s1,d1,dW,d2,Hc,p1,n1,m1,t1,rB,rz,Q0,aj,ak,simprocAttr]
def CE (l:List Bool):List AV:=l.map .bool
theorem P6 (l:List Bool):(CE l).length=l.length:=adg _
theorem arb {H:Hp}{x:AV}{l:List Bool}(h:Rw H 1 x (CE l)){i:Nat}{z:Bool}(hz:l[i]? = some z)(k:IntKind):∃ q,ia 1 x (.int k i)=some q/\ld q H=some (.bool z):=h.lA (by unfold CE;rw[adh,hz];rfl) k
theorem amN {H:Hp}{x:AV}{d:D}(h:Is H (.slice 1 .bool) [x] d):∃ l:List Bool,Rw H 1 x (CE l):=by
 obtain⟨l,h1,_⟩:=ap7 AV.bool (fun _=>True) (fun l d hi=>by
  cases hi with
  | bool b=>exact⟨b,rfl,trivial⟩) h
 exact⟨l,h1⟩
def pre:List Bool->cT
 | []=>[]
 | b::r=>mY (some b)++10::pre r
theorem Qj:∀ l:List Bool,pre l++mH=qD l
 | []=>rfl
 | b::r=>by
  show (mY (some b)++10::pre r)++mH=mY (some b)++10::qD r
  rw[<-Qj r];simp
def na:List Bool->cT
 | []=>[]
 | _::r=>rR++na r
theorem TY:∀ (r:List Bool) (k:Nat) (w:Int),lg k w r=na r++(rH (k+r.length) (ky w r)++[10])
 | [],k,w=>rfl
 | b::r,k,w=>by
  show rR++lg (k+1) (bw b) r=(rR++na r)++(rH (k+(r.length+1)) (ky (bw b) r)++[10])
  rw[TY r,adY,show k+1+r.length=k+(r.length+1) by omega]
def hs (h:cT):List Bool->cT
 | []=>h
 | b::r=>hs [bif b then 49 else 48] r
theorem Vw:∀ (r:List Bool) (w:Int),hs (cZ w) r=cZ (ky w r)
 | [],w=>rfl
 | b::r,w=>by
  show hs [bif b then 49 else 48] r=cZ (ky (bw b) r)
  rw[<-Vw r (bw b)]
  congr 1
  cases b
  ·exact (xE (n:=0) (by decide)).symm
  ·exact (xE (n:=1) (by decide)).symm
theorem Y2 {bl:List Bool}{x:AV}{H:Hp}(hl:bl.length<=60)(hx:Rw H 1 x (CE bl)):∀ (r:List Bool) (i:Nat) (t w h:cT),bl.drop i=r->i<=bl.length->t.length<=7*i->w.length<=3*i->
  ∀ k:K.Fn 4,DZ JN GO cK k x (.str t) (.str w) (.str h) (.int .i64 (i:Nat)) H=k x (.str (t++pre r)) (.str (w++na r)) (.str (hs h r)) H
 | [],i,t,w,h,hr,hi,ht,hw,k=>by
  have e:i=bl.length:=by
   have:=congrArg List.length hr
   rw[aef] at this
   simp at this
   omega
  have dW:=hx.gV
  rw[P6] at dW
  have d:decide (((i:Nat):Int)<((bl.length:Nat):Int))=false:=decide_eq_false (by omega)
  rw[YO]
  simp only[E5,dW,d,aj,ak,simprocAttr]
  simp only[pre,na,hs,afD]
 | b::r,i,t,w,h,hr,hi,ht,hw,k=>by
  have mC:i<bl.length:=by
   have:=congrArg List.length hr
   rw[aef,abn] at this
   omega
  rw[agE mC] at hr
  obtain⟨hb,eg⟩:=List.cons.inj hr
  have dW:=hx.gV
  rw[P6] at dW
  have d:decide (((i:Nat):Int)<((bl.length:Nat):Int))=true:=decide_eq_true (by omega)
  obtain⟨q,q1,q2⟩:=arb hx (i:=i) (z:=b) (by rw[aax mC,hb]) .i64
  have w9:IntKind.wrap .i64 (((i:Nat):Int)+1)=((i+1:Nat):Int):=by rw[wrap_i64 (by omega) (by omega)];omega
  have rcc:=fun (c:Nat) (hc:c=bif b then 49 else 48)=>Y2 hl hx r (i+1) (((t++[108,101,97,100,32])++[c])++[10]) (w++[111,107,10]) [c] eg (by omega) (by simp;omega) (by simp;omega) k
  have s1:jQ (.str t) (.str [108,101,97,100,32])=some (.str (t++[108,101,97,100,32])):=uQ (by simp;omega)
  have s2:∀ c:Nat,jQ (.str (t++[108,101,97,100,32])) (.str [c])=some (.str ((t++[108,101,97,100,32])++[c])):=fun c=>uQ (by simp;omega)
  have s3:∀ c:Nat,jQ (.str ((t++[108,101,97,100,32])++[c])) (.str [10])=some (.str (((t++[108,101,97,100,32])++[c])++[10])):=fun c=>uQ (by simp;omega)
  have s4:jQ (.str w) (.str [111,107,10])=some (.str (w++[111,107,10])):=uQ (by simp;omega)
  have e1:∀ c:Nat,c=(bif b then 49 else 48)->((t++[108,101,97,100,32])++[c])++[10]++pre r=t++pre (b::r):=fun c hc=>by
   show _=t++(mY (some b)++10::pre r)
   rw[hc]
   simp[mY]
  have e2:w++[111,107,10]++na r=w++na (b::r):=by
   show _=w++(rR++na r)
   simp[rR]
  rw[YO]
  cases b
  ·have:=rcc 48 rfl
   rw[e1 48 rfl,e2] at this
   simp only[E5,dW,d,q1,q2,s1,s2,s3,s4,w9,aj,ak,simprocAttr]
   exact this
  ·have:=rcc 49 rfl
   rw[e1 49 rfl,e2] at this
   simp only[E5,dW,d,q1,q2,s1,s2,s3,s4,w9,aj,ak,simprocAttr]
   exact this
theorem alq {bl:List Bool}{x:AV}{H:Hp}(hx:Rw H 1 x (CE bl))(hT:ez H dN)(hn:11<=H.next):∃ H',cK (.func (.func 4) [] []) [x] H=some (.bool true,H'):=by
 have VA:=arM an hT hn
 have dW:=hx.gV
 rw[P6] at dW
 by_cases hl:bl.length<=60
 ·have d1:decide ((60:Int)<((bl.length:Nat):Int))=false:=decide_eq_false (by omega)
  have lp:=Y2 hl hx bl 0 [] [] [45,49] rfl (adf _) (adf _) (adf _)
  have lp':∀ k:K.Fn 4,DZ JN GO cK k x (.str []) (.str []) (.str [45,49]) (.int .i64 0) H=k x (.str (pre bl)) (.str (na bl)) (.str (hs [45,49] bl)) H:=lp
  have HD:=MO bl
  have vK:=congrArg List.length (Qj bl)
  rw[abz] at vK
  have s1:jQ (.str (pre bl)) (.str [114,101,103,105,115,116,101,114])=some (.str (qD bl)):=by
   rw[<-Qj bl]
   exact uQ (by show (pre bl).length+mH.length<=_;omega)
  obtain⟨H1,r1,hT1,qe⟩:=ad1 hl hT hn
  have n1:=aee hT1 qe (n:=bl.length) hl
  have hd:hs [45,49] bl=cZ (ky (-1) bl):=by
   rw[<-Vw bl (-1)]
   congr 1
  have hde:(cZ (ky (-1) bl)).length<=2:=by
   rcases Z2 (w := -1) (.inl rfl) bl with q | q | q<;>rw[q]<;>decide +kernel
  have ase:(na bl).length<=201:=by
   have:=R7 bl 0 (-1) (by omega) (.inl rfl)
   rw[TY,abz] at this
   omega
  have CM:(cZ ((bl.length:Nat):Int)).length<=2:=by
   by_cases h1:bl.length<10
   ·rw[xE h1];simp
   ·rw[E6 h1 (by omega)];simp
  have s2:jQ (.str (na bl)) (.str (cZ ((bl.length:Nat):Int)))=some (.str (na bl++cZ ((bl.length:Nat):Int))):=uQ (by omega)
  have s3:jQ (.str (na bl++cZ ((bl.length:Nat):Int))) (.str [32])=some (.str (na bl++cZ ((bl.length:Nat):Int)++[32])):=uQ (by simp;omega)
  have s4:jQ (.str (na bl++cZ ((bl.length:Nat):Int)++[32])) (.str (cZ (ky (-1) bl)))=some (.str (na bl++cZ ((bl.length:Nat):Int)++[32]++cZ (ky (-1) bl))):=uQ (by simp;omega)
  have s5:jQ (.str (na bl++cZ ((bl.length:Nat):Int)++[32]++cZ (ky (-1) bl))) (.str [32,48,32,48,10])=some (.str (na bl++cZ ((bl.length:Nat):Int)++[32]++cZ (ky (-1) bl)++[32,48,32,48,10])):=uQ (by simp;omega)
  have eq:(lg 0 (-1) bl==na bl++cZ ((bl.length:Nat):Int)++[32]++cZ (ky (-1) bl)++[32,48,32,48,10])=true:=by
   rw[beq_iff_eq,TY,Xs,yS]
   simp
  refine⟨H1,ZX ?_⟩
  unfold Kl
  simp only[VA,dW,d1,lp',s1,r1,hd,n1,s2,s3,s4,s5,eq,aj,ak,simprocAttr]
 ·have d1:decide ((60:Int)<((bl.length:Nat):Int))=true:=decide_eq_true (by omega)
  refine⟨H,ZX ?_⟩
  unfold Kl
  simp only[VA,dW,d1,aj,ak,simprocAttr]
theorem aeo {H:Hp}{ar:List AV}{ds:List D}(h:EB H [.slice 1 .bool] ar ds)(hT:ez H dN)(hn:11<=H.next):∃ H',cK (.func (.func 4) [] []) ar H=some (.bool true,H'):=by
 cases h with
 | cons h1 h=>
 cases h
 obtain⟨l,hl⟩:=amN (arU h1)
 exact alq hl hT hn
end Go.Proofs.YtehhgkgeldinkaaGreatDoor.dg
namespace Go.Proofs.YtehhgkgeldinkaaGreatDoor.Hand
open Go
theorem agi {P:Program}{w:World}(h:w.ShapedOpen P){g:Nat}(hg:g+1=P.globals.size)(hr:(((begin P (fun _ _=>0) default).world.heap[g]?).bind Obj.row?).isSome=true):P.globals.size<=w.heap.size:=by
 obtain⟨⟨zero,t⟩,hr⟩:=aeY.1 hr
 obtain⟨cs,hc,_⟩:=h.1 g zero t (by omega) hr
 have:=(abM.1 hc).1
 omega
variable {H:Type}{enc:TypeId × Value->H}
theorem handed {a:Assume}{C:Checked}{os:Os}{f:FuncId}{fn:Func}{s:ChangeSpec}{conds:List PathCond}{apart fresh handsOn again:Bool}{X:World->Array Value->Prop}{g:Nat}
  (hg:g+1=C.prog.globals.size) (hr:(((begin C.prog (fun _ _=>0) default).world.heap[g]?).bind Obj.row?).isSome=true)
  (hX:∀ (w w':World) (args:Array Value),w.heap=w'.heap->X w args->X w' args)
  (own:ownKnob C.prog.godebug=none) (started:os.Started) (adB:C.prog.inits.idxOf? f=none) (HU:C.prog.funcs[f]? = some fn)
  (witness:∃ (w:World) (tape:Tape) (i:Input),w.os=os/\(w.forCall tape i).Shaped C.prog/\i.vars=[]/\Input.okWide C.prog (w.forCall tape i) .any w.heap.size f i/\
   ((s.pre enc C.prog fn conds apart (w.forCall tape i).memory i.args/\X (w.forCall tape i).memory i.args)/\sizedMet enc C.prog fn (OpenSpec.ofChange s) apart (w.forCall tape i).memory i.args)/\a.holds C.prog (lone (Frame.enter C.prog f i.args .normal) [] (w.forCall tape i)))
  (amF:∀ (W:World) (base:Nat) (args:Array Value) (ds gs:List (DataW H)) (before:List MemPlace),C.prog.globals.size<=W.heap.size->
   (∀ (j:Nat) t v,fn.params[j]? = some t->args[j]? = some v->Value.okWide C.prog W .any base t v)->
   DataW.Whole enc C.prog fn.params.toList s.vars apart W args.toList ds gs before->
   conds.all (PathCond.test C.prog ⟨fn.params.toList,ds,s.plain.varTypes C.prog,gs⟩)=true->
   (DataW.weightsEach C.prog (fn.params.toList++s.plain.varTypes C.prog) (ds++gs)).all (·<=reachBytes)=true->X W args->
   a.holds C.prog (lone (Frame.enter C.prog f args .normal) [] W)->
   Calls C.prog f args W fun e W'=>∃ v,e = .returned v/\s.post enc C.prog fn apart fresh handsOn again W args v W') :
  ReturnsInHanded a C os f .any (fun w args=>(s.pre enc C.prog fn conds apart w args/\X w args)/\sizedMet enc C.prog fn (OpenSpec.ofChange s) apart w args) (s.post enc C.prog fn apart fresh handsOn again):=
 returnsInHanded_of_calls own started adB witness fun w tape i _ vH _ lu an2 ali=>by
  obtain⟨_,_,_,fn',apj,_,_,_,_,rM⟩:=lu
  obtain rfl:fn'=fn:=adz (apj.symm.trans HU)
  obtain⟨⟨⟨ds,gs,before,hw,hc⟩,hx⟩,hz⟩:=an2
  refine (amF (w.forCall tape i) w.heap.size i.args ds gs before (agi vH hg hr) rM (DataW.Whole.of_heap (w':=w.forCall tape i) (by rfl) hw) hc (hz.weights hw) (hX _ _ _ (by rfl) hx) ali).mono fun e W' hp => ?_
  obtain⟨v,rfl,hp⟩:=hp
  exact ChangeSpec.post_blind hp
end Go.Proofs.YtehhgkgeldinkaaGreatDoor.Hand
