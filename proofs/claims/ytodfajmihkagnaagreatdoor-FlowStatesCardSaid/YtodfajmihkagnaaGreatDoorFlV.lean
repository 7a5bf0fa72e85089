/- Laws that the proof uses. -/
import Derived.Test.YtodfajmihkagnaaGreatDoorFlD
import Derived.Handed
import Derived.Test.YtodfajmihkagnaaGreatDoorProg
set_option linter.unusedVariables false
set_option linter.unusedSimpArgs false
set_option maxRecDepth 100000
set_option maxHeartbeats 2000000
namespace Go.Proofs.YtodfajmihkagnaaGreatDoor.DfK
open Go Am Am.K lN nC kI py
def lV (N:Nat)(H H':Hp):Prop:=∃ T,Out T H H'/\∀ j∈T,N<=j
theorem lV.refl (N:Nat)(H:Hp):lV N H H:=⟨[],Out.refl _ _,fun j hj=>by cases hj⟩
theorem lV.of0 {N:Nat}{H H':Hp}(k:Out [] H H'):lV N H H':=⟨[],k,fun j hj=>by cases hj⟩
theorem lV.trans {N:Nat}{H H' lH:Hp}(h:lV N H H')(k:lV N H' lH):lV N H lH:=by
 obtain⟨T,t1,t2⟩:=h
 obtain⟨U,u1,u2⟩:=k
 exact⟨T++U,(t1.mono fun j hj=>abD _ hj).trans (u1.mono fun j hj=>abo _ hj),fun j hj=>(abN.1 hj).elim (t2 j) (u2 j)⟩
theorem lV.nx {N:Nat}{H H':Hp}(h:lV N H H'):H.next<=H'.next:=by obtain⟨T,t,_⟩:=h;exact t.1
def LR (N p:Nat)(a:FA):Prop:=(∀ j∈own p a,j<N)/\∀ j∈DfK.dU a,j<N
theorem FL.D7 {N:Nat}{H H':Hp}{p:Nat}{a:FA}{f:Fm}(h:FL H p a f)(k:lV N H H')(hl:LR N p a):FL H' p a f:=by
 obtain⟨T,t,u⟩:=k
 exact h.out t (fun j hj q=>by have:=u j q;have:=hl.1 j hj;omega) fun j hj q=>by have:=u j q;have:=hl.2 j hj;omega
def ri (f:Fm)(s:ai):ai:=(fw f.bK s).getD []
theorem WJ {p b0 q N:Nat}{a:FA}{f:Fm}(hn:f.bf.length<=1000)(hl:LR N p a):∀ (r:List ai) (i:Nat) (H:Hp) (sa:SA) (S:SS),i<=f.bf.length->f.bf.drop i=r->FL H p a f->SB N H q sa S->N<=H.next->S.bK.length=i->
  ∃ CE H',(∀ kP:K.Fn 3,Kw JN GO cK kP (.ptr p 0) (.ptr b0 0) (.ptr q 0) a.nx (.int .i64 (f.bf.length:Nat)) (.int .i64 (i:Nat)) H=kP (.ptr p 0) (.ptr b0 0) (.ptr q 0) H')/\SB N H' q CE { S with bK:=S.bK++r.map (ri f) }/\lV N H H'
 | [],i,H,sa,S,hi,h,hF,hS,hN,jc=>by
  obtain rfl:=drop_nil hi h
  refine⟨sa,H,fun kP => ?_,?_,lV.refl _ _⟩
  ·rw[aaE]
   simp only[Mk,ez,ag,af,simprocAttr]
  ·rw[akP,af9];exact hS
 | s::r,i,H,sa,S,hi,h,hF,hS,hN,jc=>by
  obtain⟨g1,g2,g3⟩:=eF h
  have es:=eE g1 (by omega)
  obtain⟨w,w1,w2⟩:=hF.n.rw.gw (nE g2) .i64
  have k2:cellAt H q 2=some sa.tx:=hS.c.cellAt rfl
  have kt:cellAt H p 2=some (.map a.tm):=hF.c.cellAt rfl
  have lk:=J8 hF.t hF.vz s false
  rw[cond_false] at lk
  have lk':qI .str (.str []) false (.map a.tm) (.str s) H=some (.str (ri f s)):=lk
  obtain⟨au,H1,H2,T,p1,p2,p3,p4,p5⟩:=hS.am8 hN (ri f s) (by omega)
  have iu:=p1 H.next rfl
  have hf:fl [(.str [])] [(0,1,.str (ri f s))]=some [.str (ri f s)]:=rfl
  have dJ:aC H [.str (ri f s)] 9 0=some (H.next,al H [.str (ri f s)] 9 0):=gJ (by simp)
  have FX:cellAt (al H [.str (ri f s)] 9 0) q 2=some sa.tx:=by rw[(aG _ _ _ _).cellAt hS.c.1 (by simp)];exact k2
  have hO:lV N H H2:=⟨T,p4,fun j hj=>by obtain⟨l,hl,hj⟩:=p5 j hj;exact hS.fr l hl j hj⟩
  obtain⟨CE,H',i1,i2,i3⟩:=WJ (b0:=b0) hn hl r (i+1) H2 _ _ g1 g3 (hF.D7 hO hl) p3 (ahS hN hO.nx) (by show (S.bK++[ri f s]).length=_;rw[abj,jc];rfl)
  refine⟨CE,H',fun kP => ?_,?_,hO.trans i3⟩
  ·rw[aaE]
   simp(disch:=first|exact zqz|fail)only[Mk,aU g1,w1,w2,k2,kt,lk',hf,dJ,iu,p2,FX,ft (oe hS.t.rw),es,i1,aj,ak,ag,af,simprocAttr]
  ·have e:({ S with bK:=S.bK++[ri f s]++r.map (ri f) }:SS)={ S with bK:=S.bK++(s::r).map (ri f) }:=by rw[ac4,afk];rfl
   rw[<-e];exact i2
theorem ae5 {p b0 q N:Nat}{a:FA}{f:Fm}(hn:f.ax.length<=1000)(pU:∀ x∈f.ax,Sm x.1)(hl:LR N p a):∀ (r:List (Rn × ai)) (i:Nat) (H:Hp) (sa:SA) (S:SS),i<=f.ax.length->f.ax.drop i=r->FL H p a f->SB N H q sa S->N<=H.next->S.rs.length=i->S.iB.length=i->
  ∃ CE H',(∀ mK:K.Fn 2,JQ JN GO cK mK (.ptr b0 0) (.ptr q 0) a.rx (.int .i64 (f.ax.length:Nat)) (.int .i64 (i:Nat)) H=mK (.ptr b0 0) (.ptr q 0) H')/\SB N H' q CE { S with rs:=S.rs++r.map (·.1),iB:=S.iB++r.map (·.2) }/\lV N H H'
 | [],i,H,sa,S,hi,h,hF,hS,hN,XG,nf=>by
  obtain rfl:=drop_nil hi h
  refine⟨sa,H,fun mK => ?_,?_,lV.refl _ _⟩
  ·rw[YN]
   simp only[LG,ez,ag,af,simprocAttr]
  ·rw[akP,akP,af9,af9];exact hS
 | x::r,i,H,sa,S,hi,h,hF,hS,hN,XG,nf=>by
  obtain⟨g1,g2,g3⟩:=eF h
  have es:=eE g1 (by omega)
  obtain⟨ra,b,o,q1,q2,q3,q4,q5,q6,q7⟩:=hF.at g2
  have hz:st 5 (.ptr H.next 0) (.agg (bT ra x)) (al H [.ae,(.int .i64 0),.ae,.ae,(.str [])] 77 0)=some (al H (bT ra x) 77 0):=iI (ZS q7) rfl rfl (by decide) rfl
  have o1:=aG H (bT ra x) 77 0
  have c1:=aZ H (bT ra x) 77 0
  have n1:(al H (bT ra x) 77 0).next=H.next+1:=rfl
  generalize bW:al H (bT ra x) 77 0=H1 at *
  have Ga:=hS.ar o1
  have k3:cellAt H1 q 3=some sa.rx:=Ga.c.cellAt rfl
  have zZ:aq H1 H.next 0 4=some (rv ra.dx x.1.st ra.tx ra.sx):=by
   have e0:cellAt H1 H.next 0=some ra.dx:=c1.cellAt rfl
   have e1:cellAt H1 H.next 1=some (.int .i64 x.1.st):=c1.cellAt rfl
   have e2:cellAt H1 H.next 2=some ra.tx:=c1.cellAt rfl
   have e3:cellAt H1 H.next 3=some ra.sx:=c1.cellAt rfl
   simp only[aq,aeJ,e0,e1,e2,e3,acy,acF]
   rfl
  obtain⟨av,a8,au,ay,H2,r1,r2,r3,r4⟩:=ady (q7.ar o1) (pU x (aaO g2))
  have Ah:=Ga.ar r3
  have D9:cellAt H2 q 3=some sa.rx:=Ah.c.cellAt rfl
  have gC:=r3.1
  obtain⟨ef,H3,H4,T,p1,p2,p3,p4,p5⟩:=Ah.atZ (r:=⟨av,a8,au,ay⟩) (R:=x.1) (by omega) r2.v (fun j hj=>⟨by have:=r4 j hj;omega,fun l hl hm=>by have:=Ga.lt l hl j hm;have:=r4 j hj;omega⟩) (by omega)
  have iu:eV 75 4 [.ae,(.int .i64 0),.ae,.ae] false sa.rx (.slice H2.next 0 1 1 true 4) (al H2 [av,.int .i64 x.1.st,au,ay] 75 0)=some (ef,H3):=p1 H2.next rfl
  have aht:cellAt (al H2 [av,.int .i64 x.1.st,au,ay] 75 0) q 3=some sa.rx:=by rw[(aG _ _ _ _).cellAt Ah.c.1 (by simp)];exact D9
  have Rr:lV N H2 H4:=⟨T,p4,fun j hj=>by obtain⟨l,hl,hj⟩:=p5 j hj;exact Ah.fr l hl j hj⟩
  have hHT:H.next∉T:=fun hj=>by
   obtain⟨l,hl,hj⟩:=p5 _ hj
   have:=hS.lt l hl _ hj;omega
  have c4:Cs H4 H.next (bT ra x) 77 0:=(c1.out r3 (by simp)).out p4 hHT
  have kn:cellAt H4 H.next 4=some (.str x.2):=c4.cellAt rfl
  have ko:cellAt H4 q 4=some sa.ox:=p3.c.cellAt rfl
  have XR:=p4.1
  obtain⟨rL,H5,H6,T2,u1,u2,u3,u4,u5⟩:=p3.alJ (by omega) x.2 (by show S.iB.length<=_;omega)
  have u1':eV 9 1 [(.str [])] false sa.ox (.slice H4.next 0 1 1 true 1) (al H4 [.str x.2] 9 0)=some (rL,H5):=u1 H4.next rfl
  have hO6:lV N H4 H6:=⟨T2,u4,fun j hj=>by obtain⟨l,hl,hj⟩:=u5 j hj;exact p3.fr l hl j hj⟩
  have hO:lV N H H6:=((lV.of0 (o1.trans r3)).trans Rr).trans hO6
  have hf:fl [(.str [])] [(0,1,.str x.2)]=some [.str x.2]:=rfl
  have dJ:aC H4 [.str x.2] 9 0=some (H4.next,al H4 [.str x.2] 9 0):=gJ (by simp)
  obtain⟨CE,H',i1,i2,i3⟩:=ae5 (b0:=b0) hn pU hl r (i+1) H6 _ _ g1 g3 (hF.D7 hO hl) u3 (ahS hN hO.nx) (by show (S.rs++[x.1]).length=_;rw[abj,XG];rfl) (by show (S.iB++[x.2]).length=_;rw[abj,nf];rfl)
  refine⟨CE,H',fun mK => ?_,?_,hO.trans i3⟩
  ·rw[YN]
   simp(disch:=first|exact zqz|fail)only[LG,aU g1,q2,q6,hz,bW,k3,zZ,r1,D9,iu,p2,aht,kn,ko,hf,dJ,u1',u2,ft (oe hS.r.1.rw),es,i1,aj,ak,ag,af,simprocAttr]
  ·have e:({ S with rs:=S.rs++[x.1]++r.map (·.1),iB:=S.iB++[x.2]++r.map (·.2) }:SS)={ S with rs:=S.rs++(x::r).map (·.1),iB:=S.iB++(x::r).map (·.2) }:=by rw[ac4,ac4,afk,afk];rfl
   rw[<-e];exact i2
theorem SB.avp {N b:Nat}{H H':Hp}{q:Nat}{a:SA}{S:SS}(h:SB N H q a S)(k:Out [b] H H')(hb:b<N):SB N H' q a S:=by
 have m:∀ {l:List Nat},l∈jM q a->∀ j∈l,j∉[b]:=fun hl j hj z=>by rw[No] at z;have:=h.fr _ hl j hj;omega
 have m4:=m (l:=ah a.nx++(ah a.kx++a.bC.flatMap RA.fp)) (.tail _ (.tail _ (.tail _ (.tail _ (.head _)))))
 exact⟨h.c.out k (m (.head _) q (.head _)),h.n.out k fun j hj=>m4 j (oR (q:=q) (.inl hj)),h.t.out k (m (.tail _ (.head _))),h.r.out k (m (.tail _ (.tail _ (.head _)))),fun i r R hr hR=>(h.v i r R hr hR).out k fun j hj=>m4 j (oR (q:=q) (.inr (.inr (ahi.2 ⟨r,aaO hr,hj⟩)))),h.len,h.o.out k (m (.tail _ (.tail _ (.tail _ (.head _))))),h.k.out k fun j hj=>m4 j (oR (q:=q) (.inr (.inl hj))),h.dj,h.fr,fun l hl j hj=>aew (h.lt l hl j hj) k.1⟩
def w5 (f:Fm):SS:=⟨f.ck,f.bf,f.bf.map (ri f),f.ax.map (·.1),f.ax.map (·.2),f.ks⟩
def zS:List AV:=[.int .i64 0,.ae,.ae,.ae,.ae,.ae]
theorem Cs.D7 {N H0:Nat}{H H':Hp}{i:Nat}{l:List AV}{el fl:Nat}(h:Cs H i l el fl)(k:lV N H H')(hi:i<N):Cs H' i l el fl:=by
 obtain⟨T,t,u⟩:=k
 exact h.out t fun q=>by have:=u i q;omega
theorem aoU {H:Hp}{p:Nat}{a:FA}{f:Fm}(h:FL H p a f)(hn:f.bf.length<=1000)(hr:f.ax.length<=1000)(hk:f.ks.length<=1000)(pU:∀ x∈f.ax,Sm x.1) :
  ∃ sa q H',cK (.func (.func 23) [] []) [.ptr p 0] H=some (.agg (jt sa (w5 f)),H')/\SB H.next H' q sa (w5 f)/\Out [] H H':=by
 have o1:=aG H zS 50 0
 have c1:=aZ H zS 50 0
 have n1:(al H zS 50 0).next=H.next+1:=rfl
 have dJ:aC H [(.int .i64 0),.ae,.ae,.ae,.ae,.ae] 50 0=some (H.next,al H zS 50 0):=gJ (by simp)
 generalize bW:al H zS 50 0=H1 at *
 have h1:=h.ar o1
 have k0:cellAt H1 p 0=some (.int .i64 f.ck):=h1.c.cellAt rfl
 have k1:cellAt H1 p 1=some a.nx:=h1.c.cellAt rfl
 obtain⟨y,H2,y1,y2,y3,y4,_⟩:=acE h1.n.rw (fun v hv=>by obtain⟨s,_,rfl⟩:=adD.1 hv;rfl) (by rw[gB];omega)
 have z8:cK (.func (.func 59) [] []) [.ptr p 0] H1=some (y,H2):=by
  refine aqP ?_
  unfold ZZ
  simp(disch:=first|exact zqz|fail)only[k1,y1,aj,ak,ag,af,simprocAttr]
 have h2:=h1.ar y3
 have k02:cellAt H2 p 0=some (.int .i64 f.ck):=h2.c.cellAt rfl
 have k4:cellAt H2 p 4=some (.ptr a.kp 0):=h2.c.cellAt rfl
 obtain⟨kx,H3,x1,x2,x3,x4⟩:=Rb hk h2.k
 have amx:cK (.func (.func 60) [] []) [.ptr p 0] H2=some (kx,H3):=by
  refine apv ?_
  unfold ab8
  simp(disch:=first|exact zqz|fail)only[k4,x1,aj,ak,ag,af,simprocAttr]
 have h3:=h2.ar x3
 have k03:cellAt H3 p 0=some (.int .i64 f.ck):=h3.c.cellAt rfl
 have hz:st 6 (.ptr H3.next 0) (.agg [.int .i64 f.ck,y,.ae,.ae,.ae,kx]) (al H3 [(.int .i64 0),.ae,.ae,.ae,.ae,.ae] 50 0)=some (al H3 [.int .i64 f.ck,y,.ae,.ae,.ae,kx] 50 0):=iI (by simp[y2.rw.one,x2.rl.one,jN];decide) rfl rfl (by decide) rfl
 have hf:fl [(.int .i64 0),.ae,.ae,.ae,.ae,.ae] [(0,1,.int .i64 f.ck),(1,1,y),(5,1,kx)]=some [.int .i64 f.ck,y,.ae,.ae,.ae,kx]:=by
  rw[zX rfl (by simp),zX y2.rw.one (by simp),zX x2.rl.one (by simp),rZ];rfl
 have o4:=aG H3 [.int .i64 f.ck,y,.ae,.ae,.ae,kx] 50 0
 have c4:=aZ H3 [.int .i64 f.ck,y,.ae,.ae,.ae,kx] 50 0
 have n4:(al H3 [.int .i64 f.ck,y,.ae,.ae,.ae,kx] 50 0).next=H3.next+1:=rfl
 have nn2:=y3.1
 have nn3:=x3.1
 have ly:=y2.rw.lt
 have lx:=x2.rl.1.lt
 generalize hA4:al H3 [.int .i64 f.ck,y,.ae,.ae,.ae,kx] 50 0=H4 at *
 have SB4:SB (H.next+1) H4 H3.next ⟨y,.ae,.ae,.ae,kx,[]⟩ ⟨f.ck,f.bf,[],[],[],f.ks⟩:=by
  have mM:jM H3.next ⟨y,.ae,.ae,.ae,kx,[]⟩=[[H3.next],[],[],[],ah y++(ah kx++[])]:=rfl
  refine⟨c4,(y2.rw.ar x3).ar o4,.nil,OL.nil _ _ _,fun i r R hr=>by simp at hr,rfl,.nil,x2.rl.ar o4,?_,?_,?_⟩
  ·rw[mM]
   simp[Dj]
   refine⟨fun z => ?_,fun z => ?_⟩
   ·have:=ly _ z;omega
   ·have:=lx _ z;omega
  ·rw[mM]
   intro l hl j hj
   simp only[aa7,akm,or_false] at hl
   rcases hl with rfl | rfl | rfl | rfl | rfl
   ·rw[No] at hj;omega
   ·cases hj
   ·cases hj
   ·cases hj
   ·rw[af9] at hj
    rcases abN.1 hj with z | z
    ·have:=y4 j z;omega
    ·have:=x4 j z;omega
  ·rw[mM]
   intro l hl j hj
   simp only[aa7,akm,or_false] at hl
   rcases hl with rfl | rfl | rfl | rfl | rfl
   ·rw[No] at hj;omega
   ·cases hj
   ·cases hj
   ·cases hj
   ·rw[af9] at hj
    rcases abN.1 hj with z | z
    ·have:=ly j z;omega
    ·have:=lx j z;omega
 have hl:LR (H.next+1) p a:=⟨fun j hj=>by have:=h.lt j hj;omega,fun j hj=>by have:=(h.dU j hj).2;omega⟩
 have gk:=(y3.trans x3).trans o4
 have h4:=h3.ar o4
 have PJ:cellAt H4 p 1=some a.nx:=h4.c.cellAt rfl
 have l1:=h4.n.rw.jn
 rw[gB] at l1
 obtain⟨sa5,H5,i1,i2,i3⟩:=WJ (b0:=H.next) hn hl f.bf 0 H4 _ _ (ace _) abK h4 SB4 (by omega) rfl
 rw[show (((0:Nat):Int))=0 from rfl] at i1
 have h5:=h4.D7 i3 hl
 have tM:cellAt H5 p 3=some a.rx:=h5.c.cellAt rfl
 have l3:=h5.KI
 obtain⟨Jp,H6,j1,j2,j3⟩:=ae5 (b0:=H.next) hr pU hl f.ax 0 H5 _ _ (ace _) abK h5 i2 (by have:=i3.nx;omega) rfl rfl
 rw[show (((0:Nat):Int))=0 from rfl] at j1
 have hS:SB (H.next+1) H6 H3.next Jp (w5 f):=j2
 have cb:Cs H6 H.next zS 50 0:=Cs.D7 (H0:=0) (Cs.D7 (H0:=0) (c1.out gk (by simp)) i3 (ah3 _)) j3 (ah3 _)
 have kq:aq H6 H3.next 0 6=some (jt Jp (w5 f)):=hS.c.aq 6 0 (by simp[jt])
 obtain⟨H7,s1,s2,s3,s4⟩:=gO (n:=6) (vs:=jt Jp (w5 f)) cb rfl rfl (by simp[jt,hS.n.one,hS.t.rw.one,hS.r.rl.one,hS.o.rw.one,hS.k.one,jN])
 have kb:aq H7 H.next 0 6=some (jt Jp (w5 f)):=s2.aq 6 0 (by simp[jt])
 have S7:=hS.avp s3 (ah3 _)
 have oN:lV H.next H H7:=by
  obtain⟨T,t1,t2⟩:=i3.trans j3
  exact ((lV.of0 (o1.trans gk)).trans ⟨T,t1,fun j hj=>by have:=t2 j hj;omega⟩).trans ⟨[H.next],s3,kf (aaU _)⟩
 refine⟨Jp,H3.next,H7,akt ?_,⟨S7.c,S7.n,S7.t,S7.r,S7.v,S7.len,S7.o,S7.k,S7.dj,fun l hl j hj=>by have:=S7.fr l hl j hj;omega,S7.lt⟩,?_⟩
 ·unfold RY
  simp(disch:=first|exact zqz|fail)only[dJ,bW,k0,z8,k02,k03,amx,hf,hz,hA4,PJ,l1,i1,tM,l3,j1,kq,s1,kb,ft (adH _ _),aj,ak,ag,af,simprocAttr]
 ·obtain⟨T,t1,t2⟩:=oN
  exact fD (Out.refl _ _) t1 t2
theorem tx_zip:∀ (l:List (ai × ai)),(l.map (·.1)).Nodup->∀ m:List (ai × ai),(∀ x∈l,fw m x.1=some x.2)->(l.map (·.1)).zip ((l.map (·.1)).map fun s=>(fw m s).getD [])=l
 | [],_,m,_=>rfl
 | x::l,h,m,hm=>by
  rw[ac4,aju] at h
  rw[ac4,ac4,List.zip_cons_cons,tx_zip l h.2 m fun y hy=>hm y (.tail _ hy),hm x (.head _)]
  rfl
theorem getT_own {l:List (ai × ai)}(h:(l.map (·.1)).Nodup){x:ai × ai}(hx:x∈l):fw l x.1=some x.2:=by
 obtain⟨a,b,rfl⟩:=List.append_of_mem hx
 unfold fw
 rw[List.find?_append]
 have hn:a.find? (fun y=>y.1==x.1)=none:=by
  rw[List.find?_eq_none]
  intro y hy q
  rw[afg,ac4,af2] at h
  exact h.2.2 _ (adD.2 ⟨y,hy,rfl⟩) x.1 (by simp) (by simpa using q)
 rw[hn]
 simp
theorem f1_back (ck:Int):∀ (r a:List (ai × ai)),(∀ x∈a++r,tP x.1=true/\(aM x.2).2=0/\lM (aM x.2).1=x.2)->((a++r).map (·.1)).Nodup->(a++r).length<=16->
  mF ⟨ck,a.map (·.1),a,[],[]⟩ r=some ⟨ck,(a++r).map (·.1),a++r,[],[]⟩
 | [],a,h,hn,hl=>by rw[af9];rfl
 | x::r,a,h,hn,hl=>by
  obtain⟨h1,h2,h3⟩:=h x (by simp)
  have hg:fw a x.1=none:=by
   cases hq:fw a x.1 with
   | none=>rfl
   | some t=>
    have hm:=getT_mem hq
    rw[afg,af2] at hn
    exact absurd rfl (hn.2.2 _ (adD.2 ⟨_,hm,rfl⟩) x.1 (by simp))
  have hd:nM ⟨ck,a.map (·.1),a,[],[]⟩ x.1 x.2=(⟨ck,(a++[x]).map (·.1),a++[x],[],[]⟩,0):=by
   unfold nM
   rw[hg,if_neg (by simp),if_neg (by simp[h2]),if_neg (by rw[abj,aa1] at hl;simp;omega),h3,afg]
   rfl
  unfold mF
  rw[hd,if_pos ⟨h1,h3,rfl⟩]
  have:=f1_back ck r (a++[x]) (by simpa using h) (by simpa using hn) (by simpa using hl)
  simpa using this
theorem all_zipW {α β:Type}{p:α->β->Bool}:∀ {l:List α} {m:List β},(∀ (i:Nat) (a:α) (b:β),l[i]? = some a->m[i]? = some b->p a b=true)->(List.zipWith p l m).all id=true
 | [],_,_=>by simp
 | _::_,[],_=>by simp
 | a::l,b::m,h=>by
  rw[List.zipWith_cons_cons,ajU,all_zipW (l:=l) (m:=m) fun i x y h1 h2=>h (i+1) x y h1 h2]
  simp[h 0 a b rfl rfl]
theorem may_back {R:Rn}(h:RI R)(rN:(bA R.ts).2=0):yo R R.ts=true:=by
 unfold yo
 have e1:decide ((bA R.ts).2=0)=true:=decide_eq_true rN
 have e2:nc R.st 0 3=true:=by unfold nc;simp[h.st.1,h.st.2]
 have e3:decide (R.rs.length=R.ts.length)=true:=decide_eq_true h.i0.ok.len
 have e4:({ R with ts:=(bA R.ts).1.ts }:Rn)=R:=by rw[TJ rN]
 have e5:(List.zipWith Bv R.ts R.rs).all id=true:=all_zipW fun i t r ht hr=>by
  have hi:=h.ti r (aaO hr)
  obtain⟨t1,t2,_,_⟩:=h.i0.tr i t r ht hr
  unfold Bv nc
  have q:((r.ph==2)||(r.ph==5)||(r.gm==0))=true:=by
   by_cases h2:r.ph=2
   ·simp[h2]
   ·by_cases h5:r.ph=5
    ·simp[h5]
    ·simp[hi.tz h2 h5]
  simp[hi.ph.1,hi.ph.2,t1,t2,hi.dt,hi.tl.1,hi.tl.2]
  simpa using q
 have e6:(List.zipWith (ug R.ts R.sg) R.sg (List.range R.sg.length)).all id=true:=all_zipW fun i s k hs hk=>by
  have bD:=(aaw.1 hs).1
  rw[List.getElem?_range bD] at hk
  cases hk
  obtain⟨g1,t,g2,g3⟩:=h.sk s (aaO hs)
  unfold ug
  have a1:(R.sg.take i).any (fun a=>s==a)=false:=by
   rw[ajt]
   intro a ha q
   have:s=a:=by simpa using q
   subst this
   have hd:=h.sn
   rw[<-ai3 i R.sg,af2] at hd
   refine hd.2.2 _ ha s ?_ rfl
   rw[List.mem_iff_getElem?]
   exact⟨0,by rw[ahj];exact hs⟩
  have a2:R.ts.any (fun t=>t.on==s)=true:=List.any_eq_true.2 ⟨t,g2,by simp[g3]⟩
  rw[a1,a2]
  simp[g1]
 rw[e1,e2,e3,e4,sameR_refl,e5,e6]
 rfl
theorem f2_back {f:Fm}:∀ (r a:List (Rn × ai)),(∀ x∈r,(fw f.bK x.2).isSome=true/\yo x.1 (rR f x.2)=true)->nY { f with ax:=a } r=some { f with ax:=a++r }
 | [],a,h=>by rw[af9];rfl
 | x::r,a,h=>by
  obtain⟨h1,h2⟩:=h x (.head _)
  unfold nY
  rw[if_pos ⟨h1,h2⟩]
  have:=f2_back (f:=f) r (a++[x]) fun y hy=>h y (.tail _ hy)
  rw[afk] at this
  exact this
theorem f3_back {f:Fm}:∀ (r a:List Ke),(∀ x∈r,1<=x.2/\x.2<=f.ax.length/\(∃ y,f.ax[(x.2-1).toNat]? = some y/\y.2=x.1.1)/\x.1.2≠[]/\x.1.2.length<=16)->((a++r).map (·.1)).Nodup->rG { f with ks:=a } r=some { f with ks:=a++r }
 | [],a,h,hn=>by rw[af9];rfl
 | x::r,a,h,hn=>by
  obtain⟨h1,h2,⟨y,h3,h4⟩,h5,h6⟩:=h x (.head _)
  have hg:la a x.1=none:=by
   cases hq:la a x.1 with
   | none=>rfl
   | some id=>
    obtain⟨u,v,h7,_⟩:=Q8 hq
    rw[afg,af2] at hn
    exact absurd rfl (hn.2.2 _ (adD.2 ⟨(x.1,id),by rw[h7];simp,rfl⟩) x.1 (by simp))
  have ho:sd { f with ks:=a } x=true:=by
   unfold sd
   simp only[h3,hg,ae6,h4]
   simp[h1,h2,h5,h6]
  unfold rG
  rw[ho]
  have:=f3_back (f:=f) r (a++[x]) (fun z hz=>h z (.tail _ hz)) (by simpa using hn)
  rw[afk] at this
  exact this
theorem zip_unz {α β:Type}:∀ l:List (α × β),(l.map (·.1)).zip (l.map (·.2))=l
 | []=>rfl
 | x::l=>by rw[ac4,ac4,List.zip_cons_cons,zip_unz l]
theorem from_back {f:Fm}(h:FI f):tC (w5 f)=some f:=by
 have iO:(f.bK.map (·.1)).Nodup:=by rw[h.nt];exact h.nd
 have hz:f.bf.zip (f.bf.map (ri f))=f.bK:=by
  rw[<-h.nt]
  exact tx_zip f.bK iO f.bK fun x hx=>getT_own iO hx
 have hb:uM (w5 f)=false:=by
  unfold uM w5
  have:=h.ck;have:=h.nr;have:=h.nk
  simp only[adY,decide_true,aj0,akA,ajm,decide_eq_false_iff_not]
  omega
 have hl:f.bK.length<=16:=by have:=congrArg List.length h.nt;rw[adY] at this;have:=h.nn;omega
 have s1:=f1_back f.ck f.bK [] (fun x hx=>h.tx x (by simpa using hx)) (by simpa using iO) (by simpa using hl)
 rw[ai6,h.nt] at s1
 have s2:=f2_back (f:=⟨f.ck,f.bf,f.bK,[],[]⟩) f.ax [] fun x hx=>by
  obtain⟨hr,t,ht,hp⟩:=h.run x hx
  refine⟨by rw[show (⟨f.ck,f.bf,f.bK,[],[]⟩:Fm).bK=f.bK from rfl,ht];rfl,?_⟩
  have hd:rR ⟨f.ck,f.bf,f.bK,[],[]⟩ x.2=x.1.ts:=by unfold rR;rw[show (⟨f.ck,f.bf,f.bK,[],[]⟩:Fm).bK=f.bK from rfl,ht];exact hp
  rw[hd]
  refine may_back hr ?_
  rw[<-hp]
  exact (new_ri (h.tx _ (getT_mem ht)).2.1).2.2
 have s3:=f3_back (f:=⟨f.ck,f.bf,f.bK,f.ax,[]⟩) f.ks [] h.kk (by simpa using h.kd)
 unfold tC
 rw[hb]
 show ((mF _ (f.bf.zip (f.bf.map (ri f)))).bind _)=_
 rw[hz]
 show (mF (⟨f.ck,([]:List (ai × ai)).map (·.1),[],[],[]⟩:Fm) f.bK).bind _=_
 rw[s1]
 show ((nY ⟨f.ck,f.bf,f.bK,[],[]⟩ ((f.ax.map (·.1)).zip (f.ax.map (·.2)))).bind _)=_
 rw[zip_unz]
 rw[show (⟨f.ck,f.bf,f.bK,[],[]⟩:Fm)={ (⟨f.ck,f.bf,f.bK,[],[]⟩:Fm) with ax:=[] } from rfl,s2]
 exact s3
theorem SB.sv {N q:Nat}{H:Hp}{a:SA}{S:SS}(h:SB N H q a S):SV H.next H a S:=
 ⟨h.n,h.t.rw,h.r.rl,h.v,h.len,h.o.rw,h.k,fun j hj=>by
  rcases hj with hj | hj | hj | hj | hj | hj
  ·exact h.lt _ (aaO (i:=4) rfl) j (oR (q:=q) (.inl hj))
  ·exact h.lt _ (aaO (i:=1) rfl) j hj
  ·exact h.lt _ (aaO (i:=2) rfl) j hj
  ·exact h.lt _ (aaO (i:=3) rfl) j hj
  ·exact h.lt _ (aaO (i:=4) rfl) j (oR (q:=q) (.inr (.inl hj)))
  ·exact h.lt _ (aaO (i:=4) rfl) j (oR (q:=q) (.inr (.inr hj)))⟩
theorem again_c {H:Hp}{p:Nat}{a:FA}{f:Fm}(h:FL H p a f)(hI:FI f)(hg:Gl H) :
  ∃ sa q b H1 H2,cK (.func (.func 23) [] []) [.ptr p 0] H=some (.agg (jt sa (w5 f)),H1)/\cK (.func (.func 22) [] []) [.agg (jt sa (w5 f))] H1=some (.tuple [.ptr q 0,.int .i64 0],H2)/\
   FL H2 q b f/\Out [] H H2/\(∀ j∈own q b,H.next<=j)/\∀ j∈DfK.dU b,H.next<=j:=by
 obtain⟨sa,r,H1,s1,s2,s3⟩:=aoU h (by have:=hI.nn;omega) (by have:=hI.nr;omega) (by have:=hI.nk;have:=hI.nr;omega) fun x hx=>(hI.run x hx).1.i0.ok.sm
 have hn:=s3.1
 obtain⟨q,b,H2,f1,f2⟩:=as9 s2.sv (hg.ar s3) (by show f.bf.length<=1000;have:=hI.nn;omega) fun R hR=>by
  obtain⟨x,hx,rfl⟩:=adD.1 hR
  have:=(hI.run x hx).1.i0.ok.sm
  exact⟨this.r,this.s⟩
 rw[from_back hI] at f1
 obtain⟨g1,g2,g3,g4⟩:=f2 f (from_back hI)
 exact⟨sa,q,b,H1,H2,s1,f1,g1,s3.trans g2,fun j hj=>by have:=g3 j hj;omega,fun j hj=>by have:=g4 j hj;omega⟩
theorem states0_loop {x y:AV}{l:List Ev}(hl:l.length<=1000){H0:Hp}:∀ (r:List Ev) (i:Nat) (H:Hp),i<=l.length->l.drop i=r->RL H0 8 x (vS l)->Out [] H0 H->
  (∃ H',∀ gM:K.Fn 2,Ej JN GO cK gM x y (.int .i64 (i:Nat)) H=some (.bool true,H'))\/∃ H',(∀ gM:K.Fn 2,Ej JN GO cK gM x y (.int .i64 (i:Nat)) H=gM x y H')/\Out [] H0 H'
 | [],i,H,hi,h,hx,hO=>by
  obtain rfl:=drop_nil hi h
  have pP:=evs_len (hx.ar hO)
  refine .inr ⟨H,fun gM => ?_,hO⟩
  rw[Mf]
  simp only[bl_outriderlaw18_FlowStates,pP,ez,ag,af,simprocAttr]
 | e::r,i,H,hi,h,hx,hO=>by
  obtain⟨h1,h2,h3⟩:=eF h
  have es:=eE h1 (by omega)
  have pP:=evs_len (hx.ar hO)
  obtain⟨b,o,q1,q2,q3,q4,q5⟩:=(hx.ar hO).at (by decide) (evs_get h2)
  obtain⟨v,H1,u1,u2⟩:=heavy_c e H
  cases v with
  | true=>
   refine .inl ⟨H1,fun gM => ?_⟩
   rw[Mf]
   simp(disch:=first|exact zqz|fail)only[bl_outriderlaw18_FlowStates,pP,aU h1,q1,q4,u1,aj,ak,ag,af,simprocAttr]
  | false=>
   rcases states0_loop (y:=y) hl r (i+1) H1 h1 h3 hx (hO.trans u2) with⟨H',i1⟩ | ⟨H',i1,i2⟩
   ·refine .inl ⟨H',fun gM => ?_⟩
    rw[Mf]
    simp(disch:=first|exact zqz|fail)only[bl_outriderlaw18_FlowStates,pP,aU h1,q1,q4,u1,es,i1,aj,ak,ag,af,simprocAttr]
   ·refine .inr ⟨H',fun gM => ?_,i2⟩
    rw[Mf]
    simp(disch:=first|exact zqz|fail)only[bl_outriderlaw18_FlowStates,pP,aU h1,q1,q4,u1,es,i1,aj,ak,ag,af,simprocAttr]
structure Ap2 (p q:Nat)(a b:FA):Prop where
 o:∀ j∈own p a,j∉own q b
 i:∀ j∈own p a,j∉DfK.dU b
 k:∀ j∈own q b,j∉DfK.dU a
theorem Ap2.symm {p q:Nat}{a b:FA}(h:Ap2 p q a b):Ap2 q p b a:=⟨fun j hj z=>h.o j z hj,h.k,h.i⟩
theorem Ap2.step {H H' : Hp}{p q : Nat}{a a' b : FA}(h : Ap2 p q a b)(k : FSt H H' p a a')(hb : ∀ j ∈ own q b, j<H.next)(hi : ∀ j ∈ DfK.dU b, j<H.next) : Ap2 p q a' b :=
  ⟨fun j hj z => (k.w j hj).elim (fun w => h.o j w z) fun w => by have := hb j z;omega, fun j hj z => (k.w j hj).elim (fun w => h.i j w z) fun w => by have := hi j z;omega,
   fun j hj z => (k.i j z).elim (h.k j hj) fun w => by have := hb j hj;omega⟩
theorem states1_loop {x:AV}{p q:Nat}{l:List Ev}(hl:l.length<=1000):∀ (r:List Ev) (i:Nat) (H:Hp) (a b:FA) (f:Fm),i<=l.length->l.drop i=r->RL H 8 x (vS l)->(∀ j∈ah x,j∉own p a/\j∉own q b)->FL H p a f->FL H q b f->Ap2 p q a b->FI f->Gl H->
  (∃ H',∀ lL:K.Fn 0,DG JN GO cK lL x (.ptr p 0) (.ptr q 0) (.int .i64 (i:Nat)) H=some (.bool true,H'))\/
  ∃ H',∀ lL:K.Fn 0,DG JN GO cK lL x (.ptr p 0) (.ptr q 0) (.int .i64 (i:Nat)) H=lL H'
 | [],i,H,a,b,f,hi,h,hx,hd,hP,hQ,hA,hI,hg=>by
  obtain rfl:=drop_nil hi h
  have pP:=evs_len hx
  refine .inr ⟨H,fun lL => ?_⟩
  rw[M5]
  simp only[bl_outriderlaw18_FlowStates1,pP,ez,ag,af,simprocAttr]
 | e::r,i,H,a,b,f,hi,h,hx,hd,hP,hQ,hA,hI,hg=>by
  obtain⟨h1,h2,h3⟩:=eF h
  have es:=eE h1 (by omega)
  have pP:=evs_len hx
  obtain⟨m,o,q1,q2,q3,q4,q5⟩:=hx.at (by decide) (evs_get h2)
  obtain⟨v,H1,u1,u2⟩:=heavy_c e H
  have lQ:=hx.ar u2
  obtain⟨m',o',p1,p2,p3,p4,p5⟩:=lQ.at (by decide) (evs_get h2)
  cases (q1 .i64).symm.trans (p1 .i64)
  cases v with
  | true=>
   refine .inl ⟨H1,fun lL => ?_⟩
   rw[M5]
   simp(disch:=first|exact zqz|fail)only[bl_outriderlaw18_FlowStates1,pP,aU h1,q1,q4,u1,aj,ak,ag,af,simprocAttr]
  | false=>
   have eL:=hx.1.lt
   have kA:=u2.1
   obtain⟨a',H2,w1,w2,w3⟩:=Qj (hP.ar u2) (hg.ar u2) hI.ok e
   have oM:=lQ.out w3.o fun j hj z=>(hd j hj).1 z
   have hQ1:=hQ.ar u2
   have hQ2:FL H2 q b f:=hQ1.out w3.o (fun j hj z=>hA.o j z hj) fun j hj z=>hA.i j z hj
   have kJ:=(hg.ar u2).out w3.o hP.lo
   have bV:=hA.step w3 hQ1.lt fun j hj=>(hQ1.dU j hj).2
   obtain⟨m2,o2,r1,r2,r3,r4,r5⟩:=oM.at (by decide) (evs_get h2)
   cases (q1 .i64).symm.trans (r1 .i64)
   obtain⟨b',H3,y1,y2,y3⟩:=Qj hQ2 kJ hI.ok e
   have hx3:=oM.out y3.o fun j hj z=>(hd j hj).2 z
   have AA:FL H3 p a' (tw f e).1:=w2.out y3.o (fun j hj z=>bV.o j hj z) fun j hj z=>bV.k j z hj
   have jm:=(bV.symm.step y3 w2.lt fun j hj=>(w2.dU j hj).2).symm
   obtain⟨H4,z1,z2⟩:=fsame_c AA y2 (apply_fi hI e).sz (apply_fi hI e).sz
   rw[sameF_refl] at z1
   have bbe:(!((tw f e).2==(tw f e).2))=false:=by simp
   have bne:((tw f e).2 != (tw f e).2)=false:=by simp
   have gC:=w3.o.1
   have Aj:=y3.o.1
   have hs:same (.agg (aV e)) (.agg (aV e))=true:=by simp[same,aV,w6,pL]
   have hx4:=hx3.ar z2
   have hd4:∀ j∈ah x,j∉own p a'/\j∉own q b':=fun j hj=>⟨fun z=>(w3.w j z).elim (hd j hj).1 fun z=>by have:=eL j hj;omega,fun z=>(y3.w j z).elim (hd j hj).2 fun z=>by have:=eL j hj;omega⟩
   have hg4:=(kJ.out y3.o hQ.lo).ar z2
   rcases states1_loop hl r (i+1) H4 a' b' (tw f e).1 h1 h3 hx4 hd4 (AA.ar z2) (y2.ar z2) jm (apply_fi hI e) hg4 with⟨H',i1⟩ | ⟨H',i1⟩
   ·refine .inl ⟨H',fun lL => ?_⟩
    rw[M5]
    simp(disch:=first|exact zqz|fail)only[bl_outriderlaw18_FlowStates1,pP,aU h1,q1,q4,u1,p4,w1,r4,y1,bbe,bne,z1,ft hs,es,i1,aj,ak,ag,af,simprocAttr]
   ·refine .inr ⟨H',fun lL => ?_⟩
    rw[M5]
    simp(disch:=first|exact zqz|fail)only[bl_outriderlaw18_FlowStates1,pP,aU h1,q1,q4,u1,p4,w1,r4,y1,bbe,bne,z1,ft hs,es,i1,aj,ak,ag,af,simprocAttr]
theorem flowStates_c {x y:AV}{l m:List Ev}{H:Hp}(hx:RL H 8 x (vS l))(hy:RL H 8 y (vS m))(hT:AP H ot)(mb:11<=H.next):∃ H',cK (.func (.func 6) [] []) [x,y] H=some (.bool true,H'):=by
 have hg:=Gl.of hT mb
 have haw:=asn an hT mb
 have lx:=evs_len hx
 have ly:=evs_len hy
 by_cases h1:l.length<=40
 rotate_left
 ·have d1:decide ((40:Int)<(l.length:Int))=true:=decide_eq_true (by omega)
  refine⟨H,IE ?_⟩
  unfold Dx
  simp(disch:=first|exact zqz|fail)only[haw,lx,d1,aj,ak,ag,af,simprocAttr]
 have d1:decide ((40:Int)<(l.length:Int))=false:=decide_eq_false (by omega)
 by_cases h2:m.length<=20
 rotate_left
 ·have d2:decide ((20:Int)<(m.length:Int))=true:=decide_eq_true (by omega)
  refine⟨H,IE ?_⟩
  unfold Dx
  simp(disch:=first|exact zqz|fail)only[haw,lx,ly,d1,d2,aj,ak,ag,af,simprocAttr]
 have d2:decide ((20:Int)<(m.length:Int))=false:=decide_eq_false (by omega)
 rcases states0_loop (y:=y) (by omega) l 0 H (ace _) abK hx (Out.refl _ _) with⟨H1,i1⟩ | ⟨H1,i1,o1⟩
 ·rw[show (((0:Nat):Int))=0 from rfl] at i1
  refine⟨H1,IE ?_⟩
  unfold Dx
  simp(disch:=first|exact zqz|fail)only[haw,lx,ly,d1,d2,i1,aj,ak,ag,af,simprocAttr]
 rw[show (((0:Nat):Int))=0 from rfl] at i1
 have kA:=o1.1
 have hF0:FI (allM rj l):=all_fi fi0
 obtain⟨p,a,H2,f1,f2,f3,f4,f5⟩:=all_c (by omega) (hg.ar o1) (by omega) (hx.ar o1)
 have gC:=f3.1
 have o2:=o1.trans f3
 obtain⟨sa,q,b,H3,H4,s1,s2,s3,s4,s5,s6⟩:=again_c f2 hF0 (hg.ar o2)
 have o4:=o2.trans s4
 have HP:=f2.ar s4
 have jy:=f2.lt
 have qZ:∀ j∈DfK.dU a,j<H2.next:=fun j hj=>(f2.dU j hj).2
 have hA:Ap2 p q a b:=⟨fun j hj z=>by have:=jy j hj;have:=s5 j z;omega,fun j hj z=>by have:=jy j hj;have:=s6 j z;omega,fun j hj z=>by have:=qZ j z;have:=s5 j hj;omega⟩
 obtain⟨H5,t1,t2⟩:=fsame_c HP s3 hF0.sz hF0.sz
 rw[sameF_refl] at t1
 have o5:=o4.trans t2
 have wT:=hy.1.lt
 rcases states1_loop (by omega) m 0 H5 a b _ (ace _) abK (hy.ar o5) (fun j hj=>⟨fun z=>by have:=wT j hj;have:=f4 j z;omega,fun z=>by have:=wT j hj;have:=s5 j z;omega⟩) (HP.ar t2) (s3.ar t2) hA hF0 (hg.ar o5) with⟨H6,i2⟩ | ⟨H6,i2⟩
 ·rw[show (((0:Nat):Int))=0 from rfl] at i2
  refine⟨H6,IE ?_⟩
  unfold Dx
  simp(disch:=first|exact zqz|fail)only[haw,lx,ly,d1,d2,i1,f1,s1,s2,t1,i2,aj,ak,ag,af,simprocAttr]
 ·rw[show (((0:Nat):Int))=0 from rfl] at i2
  refine⟨H6,IE ?_⟩
  unfold Dx
  simp(disch:=first|exact zqz|fail)only[haw,lx,ly,d1,d2,i1,f1,s1,s2,t1,i2,aj,ak,ag,af,simprocAttr]
theorem states_top {H:Hp}{aW:List AV}{ds:List D}(h:FW H [.slice 8 MR,.slice 8 MR] aW ds)(hT:AP H ot)(hn:11<=H.next):∃ H',cK (.func (.func 6) [] []) aW H=some (.bool true,H'):=by
 cases h with
 | cons h0 h=>
 cases h with
 | cons h1 h=>
 cases h
 obtain⟨l,hl,_⟩:=adg (W0 h0)
 obtain⟨m,hm,_⟩:=adg (W0 h1)
 exact flowStates_c hl hm hT hn
end Go.Proofs.YtodfajmihkagnaaGreatDoor.DfK
namespace Go.Proofs.YtodfajmihkagnaaGreatDoor.Hand
open Go
theorem size_open {P:Program}{w:World}(h:w.ShapedOpen P){g:Nat}(hg:g+1=P.globals.size)(hr:(((begin P (fun _ _=>0) default).world.heap[g]?).bind Obj.row?).isSome=true):P.globals.size<=w.heap.size:=by
 obtain⟨⟨zero,t⟩,hr⟩:=ai1.1 hr
 obtain⟨cs,hc,_⟩:=h.1 g zero t (by omega) hr
 have:=(adt.1 hc).1
 omega
variable {H:Type}{enc:TypeId × Value->H}
theorem handed {a:Assume}{C:Checked}{os:Os}{f:FuncId}{fn:Func}{s:ChangeSpec}{conds:List PathCond}{apart fresh handsOn again:Bool}{X:World->Array Value->Prop}{g:Nat}
  (hg:g+1=C.prog.globals.size) (hr:(((begin C.prog (fun _ _=>0) default).world.heap[g]?).bind Obj.row?).isSome=true)
  (hX:∀ (w w':World) (args:Array Value),w.heap=w'.heap->X w args->X w' args)
  (own:ownKnob C.prog.godebug=none) (started:os.Started) (noInit:C.prog.inits.idxOf? f=none) (Qc:C.prog.funcs[f]? = some fn)
  (witness:∃ (w:World) (tape:Tape) (i:Input),w.os=os/\(w.forCall tape i).Shaped C.prog/\i.vars=[]/\Input.okWide C.prog (w.forCall tape i) .any w.heap.size f i/\
   ((s.pre enc C.prog fn conds apart (w.forCall tape i).memory i.args/\X (w.forCall tape i).memory i.args)/\sizedMet enc C.prog fn (OpenSpec.ofChange s) apart (w.forCall tape i).memory i.args)/\a.holds C.prog (lone (Frame.enter C.prog f i.args .normal) [] (w.forCall tape i)))
  (contract:∀ (W:World) (base:Nat) (args:Array Value) (ds gs:List (DataW H)) (before:List MemPlace),C.prog.globals.size<=W.heap.size->
   (∀ (j:Nat) t v,fn.params[j]? = some t->args[j]? = some v->Value.okWide C.prog W .any base t v)->
   DataW.Whole enc C.prog fn.params.toList s.vars apart W args.toList ds gs before->
   conds.all (PathCond.test C.prog ⟨fn.params.toList,ds,s.plain.varTypes C.prog,gs⟩)=true->
   (DataW.weightsEach C.prog (fn.params.toList++s.plain.varTypes C.prog) (ds++gs)).all (·<=reachBytes)=true->X W args->
   a.holds C.prog (lone (Frame.enter C.prog f args .normal) [] W)->
   Calls C.prog f args W fun e W'=>∃ v,e = .returned v/\s.post enc C.prog fn apart fresh handsOn again W args v W') :
  ReturnsInHanded a C os f .any (fun w args=>(s.pre enc C.prog fn conds apart w args/\X w args)/\sizedMet enc C.prog fn (OpenSpec.ofChange s) apart w args) (s.post enc C.prog fn apart fresh handsOn again):=
 returnsInHanded_of_calls own started noInit witness fun w tape i _ qW _ yd hpre hholds=>by
  obtain⟨_,_,_,fn',hfn',_,_,_,_,Dd⟩:=yd
  obtain rfl:fn'=fn:=ac8 (hfn'.symm.trans Qc)
  obtain⟨⟨⟨ds,gs,before,hw,hc⟩,hx⟩,hz⟩:=hpre
  refine (contract (w.forCall tape i) w.heap.size i.args ds gs before (size_open qW hg hr) Dd (DataW.Whole.of_heap (w':=w.forCall tape i) (by rfl) hw) hc (hz.weights hw) (hX _ _ _ (by rfl) hx) hholds).mono fun e W' hp => ?_
  obtain⟨v,rfl,hp⟩:=hp
  exact ChangeSpec.post_blind hp
end Go.Proofs.YtodfajmihkagnaaGreatDoor.Hand
