/- Laws that the proof uses. -/
import Derived.Test.YtodfajmihkagnaaGreatDoorFlE
import Derived.Handed
import Derived.Test.YtodfajmihkagnaaGreatDoorProg
set_option linter.unusedVariables false
set_option linter.unusedSimpArgs false
set_option maxRecDepth 100000
set_option maxHeartbeats 4000000
namespace Go.Proofs.YtodfajmihkagnaaGreatDoor.bq
open Go Am Am.K lq mU kJ oW
section
section
section
section
def jZ (N:Nat)(H H':Hp):Prop:=∃T,Out T H H'/\∀j∈T,N<=j
theorem jZ.refl (N:Nat)(H:Hp):jZ N H H:=⟨[],Out.refl _ _,λj hj=>by cases hj⟩
section
variable {H H':Hp}{N:Nat}{a:FA}{f:Fm}
theorem jZ.Md (k:Out [] H H'):jZ N H H':=⟨[],k,λj hj=>by cases hj⟩
theorem jZ.trans {H'':Hp}(h:jZ N H H')(k:jZ N H' H''):jZ N H H'':=by obtain⟨T,t1,t2⟩:=h;obtain⟨U,u1,u2⟩:=k;exact⟨T++U,(t1.mono λj hj=>aaG _ hj).trans (u1.mono λj hj=>aaw _ hj),λj hj=>(aaQ.1 hj).elim (t2 j) (u2 j)⟩
theorem jZ.nx (h:jZ N H H'):H.next<=H'.next:=by obtain⟨T,t,_⟩:=h;exact t.1
def Pj (N p:Nat)(a:FA):Prop:=(∀j∈own p a,j<N)/\∀j∈bq.cY a,j<N
theorem FL.vn {p:Nat}(h:FL H p a f)(k:jZ N H H')(hl:Pj N p a):FL H' p a f:=by obtain⟨T,t,u⟩:=k;exact h.out t (λj hj q=>by have:=u j q;have:=hl.1 j hj;omega) λj hj q=>by have:=u j q;have:=hl.2 j hj;omega
def iy (f:Fm)(s:Str):Str:=(ey f.aM s).getD []
theorem ad2 {p b0 q N:Nat}{a:FA}{f:Fm}(hn:f.nms.length<=1000)(hl:Pj N p a):∀(r:List Str) (i:Nat) (H:Hp) (sa:SA) (S:SS),i<=f.nms.length->f.nms.drop i=r->FL H p a f->SB N H q sa S->N<=H.next->S.aM.length=i->
  ∃Ft H',(∀pT:K.Fn 3,aas JN GO cK pT (.ptr p 0) (.ptr b0 0) (.ptr q 0) a.nx (zi (f.nms.length:Nat)) (zi (i:Nat)) H=pT (.ptr p 0) (.ptr b0 0) (.ptr q 0) H')/\SB N H' q Ft {S with aM:=S.aM++r.map (iy f)}/\jZ N H H'
 |[],i,H,sa,S,hi,h,hF,hS,hN,jN=>by
  obtain rfl:=drop_nil hi h;refine⟨sa,H,λpT=>?_,?_,jZ.refl _ _⟩;·rw[am5];simp only[abB,dA,zz0,simprocAttr]
  ·rw[aiO,ac4];exact hS
 |s::r,i,H,sa,S,hi,h,hF,hS,hN,jN=>by
  obtain⟨g1,g2,g3⟩:=dU h;have es:=dD g1 zzz;obtain⟨w,w1,w2⟩:=hF.n.rw.gh (mP g2) .i64;have k2:cellAt H q 2=some sa.tx:=hS.c.cellAt rfl;have kt:cellAt H p 2=some (.map a.tm):=hF.c.cellAt rfl;have lk:=KB hF.t hF.qR s false;rw[cond_false] at lk;have lk':tC .str (.str []) false (.map a.tm) (.str s) H=some (.str (iy f s)):=lk;obtain⟨ax,H1,H2,T,p1,p2,p3,p4,p5⟩:=hS.ayV hN (iy f s) zzz;have fX:=p1 H.next rfl;have hf:fl [(.str [])] [(0,1,.str (iy f s))]=some [.str (iy f s)]:=rfl;have cB:aA H [.str (iy f s)] 9 0=some (H.next,al H [.str (iy f s)] 9 0):=eA zzy;have I3:cellAt (al H [.str (iy f s)] 9 0) q 2=some sa.tx:=by rw[(aD _ _ _ _).cellAt hS.c.1 zzy];exact k2
  have hO:jZ N H H2:=⟨T,p4,λj hj=>by obtain⟨l,hl,hj⟩:=p5 j hj;exact hS.fr l hl j hj⟩;obtain⟨Ft,H',i1,i2,i3⟩:=ad2 (b0:=b0) hn hl r (i+1) H2 _ _ g1 g3 (hF.vn hO hl) p3 (afi hN hO.nx) (by show (S.aM++[iy f s]).length=_;rw[aah,jN];rfl);refine⟨Ft,H',λpT=>?_,?_,hO.trans i3⟩;·rw[am5];simp(disch:=try exact zqz)only[abB,aQ g1,w1,w2,k2,kt,lk',hf,cB,fX,p2,I3,eP (lG hS.t.rw),es,i1,ar,aq,zz0,simprocAttr]
  ·have e:({S with aM:=S.aM++[iy f s]++r.map (iy f)}:SS)={S with aM:=S.aM++(s::r).map (iy f)}:=by rw[abo,abC];rfl
   rw[<-e];exact i2
theorem ajs {p b0 q N:Nat}{a:FA}{f:Fm}(hn:f.aw.length<=1000)(ot:∀x∈f.aw,Sm x.1)(hl:Pj N p a):∀(r:List (Rn×Str)) (i:Nat) (H:Hp) (sa:SA) (S:SS),i<=f.aw.length->f.aw.drop i=r->FL H p a f->SB N H q sa S->N<=H.next->S.rs.length=i->S.fG.length=i->
  ∃Ft H',(∀AY:K.Fn 2,abT JN GO cK AY (.ptr b0 0) (.ptr q 0) a.rx (zi (f.aw.length:Nat)) (zi (i:Nat)) H=AY (.ptr b0 0) (.ptr q 0) H')/\SB N H' q Ft {S with rs:=S.rs++r.map (·.1),fG:=S.fG++r.map (·.2)}/\jZ N H H'
 |[],i,H,sa,S,hi,h,hF,hS,hN,hi1,po=>by
  obtain rfl:=drop_nil hi h;refine⟨sa,H,λAY=>?_,?_,jZ.refl _ _⟩;·rw[aeo];simp only[aaf,dA,zz0,simprocAttr]
  ·rw[aiO,aiO,ac4,ac4];exact hS
 |x::r,i,H,sa,S,hi,h,hF,hS,hN,hi1,po=>by
  obtain⟨g1,g2,g3⟩:=dU h;have es:=dD g1 zzz;obtain⟨ra,b,o,q1,q2,q3,q4,q5,q6,q7⟩:=hF.at g2;have hz:st 5 (.ptr H.next 0) (.agg (bE ra x)) (al H [.ah,(zi 0),.ah,.ah,(.str [])] 77 0)=some (al H (bE ra x) 77 0):=gy (akL q7) rfl rfl zzx rfl;have o1:=aD H (bE ra x) 77 0;have c1:=aP H (bE ra x) 77 0;have n1:(al H (bE ra x) 77 0).next=H.next+1:=rfl;generalize bw:al H (bE ra x) 77 0=H1 at*
  have Jh:=hS.au o1;have k3:cellAt H1 q 3=some sa.rx:=Jh.c.cellAt rfl;have G8:av H1 H.next 0 4=some (rv ra.dx x.1.st ra.tx ra.sx):=by have e0:cellAt H1 H.next 0=some ra.dx:=c1.cellAt rfl;have e1:cellAt H1 H.next 1=some (zi x.1.st):=c1.cellAt rfl;have e2:cellAt H1 H.next 2=some ra.tx:=c1.cellAt rfl;have e3:cellAt H1 H.next 3=some ra.sx:=c1.cellAt rfl;simp only[av,adn,e0,e1,e2,e3,abY,acf];rfl
  obtain⟨ay,aU,ax,az,H2,r1,r2,r3,r4⟩:=afZ (q7.au o1) (ot x (aab g2));have El:=Jh.au r3;have Jy:cellAt H2 q 3=some sa.rx:=El.c.cellAt rfl;have jo:=r3.1;obtain⟨cn,H3,H4,T,p1,p2,p3,p4,p5⟩:=El.av7 (r:=⟨ay,aU,ax,az⟩) (R:=x.1) zzz r2.v (λj hj=>⟨by have:=r4 j hj;omega,λl hl hm=>by have:=Jh.lt l hl j hm;have:=r4 j hj;omega⟩) zzz;have fX:c8 75 4 [.ah,(zi 0),.ah,.ah] false sa.rx (.slice H2.next 0 1 1 true 4) (al H2 [ay,zi x.1.st,ax,az] 75 0)=some (cn,H3):=p1 H2.next rfl;have at1:cellAt (al H2 [ay,zi x.1.st,ax,az] 75 0) q 3=some sa.rx:=by rw[(aD _ _ _ _).cellAt El.c.1 zzy];exact Jy
  have UP:jZ N H2 H4:=⟨T,p4,λj hj=>by obtain⟨l,hl,hj⟩:=p5 j hj;exact El.fr l hl j hj⟩;have hHT:H.next∉T:=λhj=>by obtain⟨l,hl,hj⟩:=p5 _ hj;have:=hS.lt l hl _ hj;omega
  have c4:Cs H4 H.next (bE ra x) 77 0:=(c1.out r3 zzy).out p4 hHT;have kn:cellAt H4 H.next 4=some (.str x.2):=c4.cellAt rfl;have ko:cellAt H4 q 4=some sa.ox:=p3.c.cellAt rfl;have hn4:=p4.1;obtain⟨oU,H5,H6,T2,u1,u2,u3,u4,u5⟩:=p3.aun zzz x.2 (by show S.fG.length<=_;omega);have Rp:c8 9 1 [(.str [])] false sa.ox (.slice H4.next 0 1 1 true 1) (al H4 [.str x.2] 9 0)=some (oU,H5):=u1 H4.next rfl;have hO6:jZ N H4 H6:=⟨T2,u4,λj hj=>by obtain⟨l,hl,hj⟩:=u5 j hj;exact p3.fr l hl j hj⟩;have hO:jZ N H H6:=((jZ.Md (o1.trans r3)).trans UP).trans hO6;have hf:fl [(.str [])] [(0,1,.str x.2)]=some [.str x.2]:=rfl;have cB:aA H4 [.str x.2] 9 0=some (H4.next,al H4 [.str x.2] 9 0):=eA zzy;obtain⟨Ft,H',i1,i2,i3⟩:=ajs (b0:=b0) hn ot hl r (i+1) H6 _ _ g1 g3 (hF.vn hO hl) u3 (afi hN hO.nx) (by show (S.rs++[x.1]).length=_;rw[aah,hi1];rfl) (by show (S.fG++[x.2]).length=_;rw[aah,po];rfl);refine⟨Ft,H',λAY=>?_,?_,hO.trans i3⟩;·rw[aeo];simp(disch:=try exact zqz)only[aaf,aQ g1,q2,q6,hz,bw,k3,G8,r1,Jy,fX,p2,at1,kn,ko,hf,cB,Rp,u2,eP (lG hS.r.1.rw),es,i1,ar,aq,zz0,simprocAttr]
  ·have e:({S with rs:=S.rs++[x.1]++r.map (·.1),fG:=S.fG++[x.2]++r.map (·.2)}:SS)={S with rs:=S.rs++(x::r).map (·.1),fG:=S.fG++(x::r).map (·.2)}:=by rw[abo,abo,abC,abC];rfl
   rw[<-e];exact i2
theorem SB.azd {b:Nat}{q:Nat}{a:SA}{S:SS}(h:SB N H q a S)(k:Out [b] H H')(hb:b<N):SB N H' q a S:=by
 have m:∀{l:List Nat},l∈lu q a->∀j∈l,j∉[b]:=λhl j hj z=>by rw[No] at z;have:=h.fr _ hl j hj;omega
 have m4:=m (l:=ak a.nx++(ak a.kx++a.ras.flatMap RA.fp)) (.tail _ (.tail _ (.tail _ (.tail _ (.head _)))));exact⟨h.c.out k (m (.head _) q (.head _)),h.n.out k λj hj=>m4 j (qJ (q:=q) (.inl hj)),h.t.out k (m (.tail _ (.head _))),h.r.out k (m (.tail _ (.tail _ (.head _)))),λi r R hr hR=>(h.v i r R hr hR).out k λj hj=>m4 j (qJ (q:=q) (.inr (.inr (ae8.2 ⟨r,aab hr,hj⟩)))),h.len,h.o.out k (m (.tail _ (.tail _ (.tail _ (.head _))))),h.k.out k λj hj=>m4 j (qJ (q:=q) (.inr (.inl hj))),h.dj,h.fr,λl hl j hj=>ac2 (h.lt l hl j hj) k.1⟩
def gJ (f:Fm):SS:=⟨f.ck,f.nms,f.nms.map (iy f),f.aw.map (·.1),f.aw.map (·.2),f.ks⟩
def zS:List AV:=[zi 0,.ah,.ah,.ah,.ah,.ah]
theorem Cs.vn {H0:Nat}{i:Nat}{l:List AV}{el fl:Nat}(h:Cs H i l el fl)(k:jZ N H H')(hi:i<N):Cs H' i l el fl:=by obtain⟨T,t,u⟩:=k;exact h.out t λq=>by have:=u i q;omega
theorem apR {p:Nat}(h:FL H p a f)(hn:f.nms.length<=1000)(hr:f.aw.length<=1000)(hk:f.ks.length<=1000)(ot:∀x∈f.aw,Sm x.1):
  ∃sa q H',cK (zf 23) [.ptr p 0] H=some (.agg (fc sa (gJ f)),H')/\SB H.next H' q sa (gJ f)/\Out [] H H':=by
 have o1:=aD H zS 50 0;have c1:=aP H zS 50 0;have n1:(al H zS 50 0).next=H.next+1:=rfl;have cB:aA H [(zi 0),.ah,.ah,.ah,.ah,.ah] 50 0=some (H.next,al H zS 50 0):=eA zzy;generalize bw:al H zS 50 0=H1 at*
 have h1:=h.au o1;have k0:cellAt H1 p 0=some (zi f.ck):=h1.c.cellAt rfl;have k1:cellAt H1 p 1=some a.nx:=h1.c.cellAt rfl;obtain⟨y,H2,y1,y2,y3,y4,_⟩:=Yq h1.n.rw (λv hv=>by obtain⟨s,_,rfl⟩:=abN.1 hv;rfl) (by rw[gQ];omega);have B9:cK (zf 59) [.ptr p 0] H1=some (y,H2):=by refine aDi ?_;unfold akE;simp(disch:=try exact zqz)only[k1,y1,ar,aq,zz0,simprocAttr]
 have h2:=h1.au y3;have k02:cellAt H2 p 0=some (zi f.ck):=h2.c.cellAt rfl;have k4:cellAt H2 p 4=some (.ptr a.kp 0):=h2.c.cellAt rfl;obtain⟨kx,H3,x1,x2,x3,x4⟩:=Rh hk h2.k;have auX:cK (zf 60) [.ptr p 0] H2=some (kx,H3):=by refine aBb ?_;unfold ajm;simp(disch:=try exact zqz)only[k4,x1,ar,aq,zz0,simprocAttr]
 have h3:=h2.au x3;have k03:cellAt H3 p 0=some (zi f.ck):=h3.c.cellAt rfl;have hz:st 6 (.ptr H3.next 0) (.agg [zi f.ck,y,.ah,.ah,.ah,kx]) (al H3 [(zi 0),.ah,.ah,.ah,.ah,.ah] 50 0)=some (al H3 [zi f.ck,y,.ah,.ah,.ah,kx] 50 0):=gy (by simp[y2.rw.one,x2.rl.one,iV];decide) rfl rfl zzx rfl;have hf:fl [(zi 0),.ah,.ah,.ah,.ah,.ah] [(0,1,zi f.ck),(1,1,y),(5,1,kx)]=some [zi f.ck,y,.ah,.ah,.ah,kx]:=by rw[yW rfl zzy,yW y2.rw.one zzy,yW x2.rl.one zzy,pW];rfl
 have o4:=aD H3 [zi f.ck,y,.ah,.ah,.ah,kx] 50 0;have c4:=aP H3 [zi f.ck,y,.ah,.ah,.ah,kx] 50 0;have n4:(al H3 [zi f.ck,y,.ah,.ah,.ah,kx] 50 0).next=H3.next+1:=rfl;have nn2:=y3.1;have nn3:=x3.1;have ly:=y2.rw.lt;have lx:=x2.rl.1.lt;generalize hA4:al H3 [zi f.ck,y,.ah,.ah,.ah,kx] 50 0=H4 at*
 have SB4:SB (H.next+1) H4 H3.next ⟨y,.ah,.ah,.ah,kx,[]⟩ ⟨f.ck,f.nms,[],[],[],f.ks⟩:=by
  have mO:lu H3.next ⟨y,.ah,.ah,.ah,kx,[]⟩=[[H3.next],[],[],[],ak y++(ak kx++[])]:=rfl;refine⟨c4,(y2.rw.au x3).au o4,.nil,OL.nil _ _ _,λi r R hr=>by simp at hr,rfl,.nil,x2.rl.au o4,?_,?_,?_⟩
  ·rw[mO];simp[Dj];refine⟨λz=>?_,λz=>?_⟩;·have:=ly _ z;omega
   ·have:=lx _ z;omega
  ·rw[mO];intro l hl j hj;simp only[aal,ajX,or_false] at hl;rcases hl with rfl|rfl|rfl|rfl|rfl;·rw[No] at hj;omega
   ·cases hj
   ·cases hj
   ·cases hj
   ·rw[ac4] at hj;rcases aaQ.1 hj with z|z;·have:=y4 j z;omega
    ·have:=x4 j z;omega
  ·rw[mO];intro l hl j hj;simp only[aal,ajX,or_false] at hl;rcases hl with rfl|rfl|rfl|rfl|rfl;·rw[No] at hj;omega
   ·cases hj
   ·cases hj
   ·cases hj
   ·rw[ac4] at hj;rcases aaQ.1 hj with z|z;·have:=ly j z;omega
    ·have:=lx j z;omega
 have hl:Pj (H.next+1) p a:=⟨λj hj=>by have:=h.lt j hj;omega,λj hj=>by have:=(h.cY j hj).2;omega⟩;have gq:=(y3.trans x3).trans o4;have h4:=h3.au o4;have k41:cellAt H4 p 1=some a.nx:=h4.c.cellAt rfl;have l1:=h4.n.rw.gX;rw[gQ] at l1;obtain⟨sa5,H5,i1,i2,i3⟩:=ad2 (b0:=H.next) hn hl f.nms 0 H4 _ _ (abg _) aaM h4 SB4 zzz rfl;rw[show (((0:Nat):Int))=0 from rfl] at i1;have h5:=h4.vn i3 hl;have ub:cellAt H5 p 3=some a.rx:=h5.c.cellAt rfl;have l3:=h5.JH;obtain⟨NK,H6,j1,j2,j3⟩:=ajs (b0:=H.next) hr ot hl f.aw 0 H5 _ _ (abg _) aaM h5 i2 (by have:=i3.nx;omega) rfl rfl;rw[show (((0:Nat):Int))=0 from rfl] at j1;have hS:SB (H.next+1) H6 H3.next NK (gJ f):=j2;have cb:Cs H6 H.next zS 50 0:=Cs.vn (H0:=0) (Cs.vn (H0:=0) (c1.out gq zzy) i3 (ahL _)) j3 (ahL _);have kq:av H6 H3.next 0 6=some (fc NK (gJ f)):=hS.c.av 6 0 (by simp[fc]);obtain⟨H7,s1,s2,s3,s4⟩:=iE (n:=6) (vs:=fc NK (gJ f)) cb rfl rfl (by simp[fc,hS.n.one,hS.t.rw.one,hS.r.rl.one,hS.o.rw.one,hS.k.one,iV]);have kb:av H7 H.next 0 6=some (fc NK (gJ f)):=s2.av 6 0 (by simp[fc]);have S7:=hS.azd s3 (ahL _);have oN:jZ H.next H H7:=by obtain⟨T,t1,t2⟩:=i3.trans j3;exact ((jZ.Md (o1.trans gq)).trans ⟨T,t1,λj hj=>by have:=t2 j hj;omega⟩).trans ⟨[H.next],s3,la (aaq _)⟩
 refine⟨NK,H3.next,H7,aEJ ?_,⟨S7.c,S7.n,S7.t,S7.r,S7.v,S7.len,S7.o,S7.k,S7.dj,λl hl j hj=>by have:=S7.fr l hl j hj;omega,S7.lt⟩,?_⟩;·unfold agX;simp(disch:=try exact zqz)only[cB,bw,k0,B9,k02,k03,auX,hf,hz,hA4,k41,l1,i1,ub,l3,j1,kq,s1,kb,eP (afu _ _),ar,aq,zz0,simprocAttr]
 ·obtain⟨T,t1,t2⟩:=oN;exact fh (Out.refl _ _) t1 t2
end
end
theorem acH:∀(l:List (Str×Str)),(l.map (·.1)).Nodup->∀m:List (Str×Str),(∀x∈l,ey m x.1=some x.2)->(l.map (·.1)).zip ((l.map (·.1)).map λs=>(ey m s).getD [])=l
 |[],_,m,_=>rfl|x::l,h,m,hm=>by rw[abo,ajD] at h;rw[abo,abo,aml,acH l h.2 m λy hy=>hm y (.tail _ hy),hm x (.head _)];rfl
theorem ZB {l:List (Str×Str)}(h:(l.map (·.1)).Nodup){x:Str×Str}(hx:x∈l):ey l x.1=some x.2:=by
 obtain⟨a,b,rfl⟩:=List.append_of_mem hx;unfold ey;rw[List.find?_append];have hn:a.find? (λy=>y.1==x.1)=none:=by rw[List.find?_eq_none];intro y hy q;rw[acZ,abo,aet] at h;exact h.2.2 _ (abN.2 ⟨y,hy,rfl⟩) x.1 zzy (by simpa using q)
 rw[hn];simp
theorem ac1 (ck:Int):∀(r a:List (Str×Str)),(∀x∈a++r,ui x.1=true/\(aF x.2).2=0/\lr (aF x.2).1=x.2)->((a++r).map (·.1)).Nodup->(a++r).length<=16->
  kG ⟨ck,a.map (·.1),a,[],[]⟩ r=some ⟨ck,(a++r).map (·.1),a++r,[],[]⟩
 |[],a,h,hn,hl=>by rw[ac4];rfl
 |x::r,a,h,hn,hl=>by
  obtain⟨h1,h2,h3⟩:=h x zzy;have hg:ey a x.1=none:=by
   cases hq:ey a x.1 with
   |none=>rfl|some t=>
    have hm:=Fi hq;rw[acZ,aet] at hn;exact absurd rfl (hn.2.2 _ (abN.2 ⟨_,hm,rfl⟩) x.1 zzy)
  have hd:mY ⟨ck,a.map (·.1),a,[],[]⟩ x.1 x.2=(⟨ck,(a++[x]).map (·.1),a++[x],[],[]⟩,0):=by unfold mY;rw[hg,zz1 zzy,zz1 (by simp[h2]),zz1 (by rw[aah,aau] at hl;simp;omega),h3,acZ];rfl
  unfold kG;rw[hd,zz2 ⟨h1,h3,rfl⟩];have:=ac1 ck r (a++[x]) (by simpa using h) (by simpa using hn) (by simpa using hl);simpa using this
theorem Zj {α β:Type}{p:α->β->Bool}:∀{l:List α} {m:List β},(∀(i:Nat) (a:α) (b:β),l[i]?=some a->m[i]?=some b->p a b=true)->(List.zipWith p l m).all id=true
 |[],_,_=>zzy|_::_,[],_=>zzy|a::l,b::m,h=>by rw[List.zipWith_cons_cons,alq,Zj (l:=l) (m:=m) λi x y h1 h2=>h (i+1) x y h1 h2];simp[h 0 a b rfl rfl]
theorem aCM {R:Rn}(h:RI R)(uP:(bh R.ts).2=0):wB R R.ts=true:=by
 unfold wB;have e1:decide ((bh R.ts).2=0)=true:=zz3 uP;have e2:np R.st 0 3=true:=by unfold np;simp[h.st.1,h.st.2]
 have e3:decide (R.rs.length=R.ts.length)=true:=zz3 h.i0.ok.len;have e4:({R with ts:=(bh R.ts).1.ts}:Rn)=R:=by rw[Ue uP]
 have e5:(List.zipWith Ag R.ts R.rs).all id=true:=Zj λi t r ht hr=>by
  have hi:=h.ti r (aab hr);obtain⟨t1,t2,_,_⟩:=h.i0.tr i t r ht hr;unfold Ag np;have q:((r.ph==2)||(r.ph==5)||(r.fF==0))=true:=by
   by_cases h2:r.ph=2;·simp[h2]
   ·by_cases h5:r.ph=5;·simp[h5]
    ·simp[hi.tz h2 h5]
  simp[hi.ph.1,hi.ph.2,t1,t2,hi.dt,hi.tl.1,hi.tl.2];simpa using q
 have e6:(List.zipWith (uy R.ts R.sg) R.sg (List.range R.sg.length)).all id=true:=Zj λi s k hs hk=>by
  have aX:=(aac.1 hs).1;rw[List.getElem?_range aX] at hk;cases hk;obtain⟨g1,t,g2,g3⟩:=h.sk s (aab hs);unfold uy;have a1:(R.sg.take i).any (λa=>s==a)=false:=by
   rw[aky];intro a ha q;have:s=a:=by simpa using q
   subst this;have hd:=h.sn;rw[<-aiP i R.sg,aet] at hd;refine hd.2.2 _ ha s ?_ rfl;rw[List.mem_iff_getElem?];exact⟨0,by rw[afX];exact hs⟩
  have a2:R.ts.any (λt=>t.on==s)=true:=List.any_eq_true.2 ⟨t,g2,by simp[g3]⟩;rw[a1,a2];simp[g1]
 rw[e1,e2,e3,e4,acz,e5,e6];rfl
theorem ah4 {f:Fm}:∀(r a:List (Rn×Str)),(∀x∈r,(ey f.aM x.2).isSome=true/\wB x.1 (tT f x.2)=true)->mf {f with aw:=a} r=some {f with aw:=a++r}
 |[],a,h=>by rw[ac4];rfl
 |x::r,a,h=>by obtain⟨h1,h2⟩:=h x (.head _);unfold mf;rw[zz2 ⟨h1,h2⟩];have:=ah4 (f:=f) r (a++[x]) λy hy=>h y (.tail _ hy);rw[abC] at this;exact this
theorem aca {f:Fm}:∀(r a:List Ke),(∀x∈r,1<=x.2/\x.2<=f.aw.length/\(∃y,f.aw[(x.2-1).toNat]?=some y/\y.2=x.1.1)/\x.1.2≠[]/\x.1.2.length<=16)->((a++r).map (·.1)).Nodup->ou {f with ks:=a} r=some {f with ks:=a++r}
 |[],a,h,hn=>by rw[ac4];rfl
 |x::r,a,h,hn=>by
  obtain⟨h1,h2,⟨y,h3,h4⟩,h5,h6⟩:=h x (.head _);have hg:lY a x.1=none:=by
   cases hq:lY a x.1 with
   |none=>rfl|some id=>
    obtain⟨u,v,h7,_⟩:=QJ hq;rw[acZ,aet] at hn;exact absurd rfl (hn.2.2 _ (abN.2 ⟨(x.1,id),by rw[h7];simp,rfl⟩) x.1 zzy)
  have ho:p9 {f with ks:=a} x=true:=by unfold p9;simp only[h3,hg,ael,h4];simp[h1,h2,h5,h6]
  unfold ou;rw[ho];have:=aca (f:=f) r (a++[x]) (λz hz=>h z (.tail _ hz)) (by simpa using hn);rw[abC] at this;exact this
theorem abE {α β:Type}:∀l:List (α×β),(l.map (·.1)).zip (l.map (·.2))=l
 |[]=>rfl|x::l=>by rw[abo,abo,aml,abE l]
theorem abD {f:Fm}(h:FI f):oY (gJ f)=some f:=by
 have fN:(f.aM.map (·.1)).Nodup:=by rw[h.nt];exact h.nd
 have hz:f.nms.zip (f.nms.map (iy f))=f.aM:=by rw[<-h.nt];exact acH f.aM fN f.aM λx hx=>ZB fN hx
 have hb:rX (gJ f)=false:=by unfold rX gJ;have:=h.ck;have:=h.nr;have:=h.nk;simp only[abF,decide_true,alv,ank,ahp,decide_eq_false_iff_not];omega
 have hl:f.aM.length<=16:=by have:=congrArg List.length h.nt;rw[abF] at this;have:=h.nn;omega
 have s1:=ac1 f.ck f.aM [] (λx hx=>h.tx x (by simpa using hx)) (by simpa using fN) (by simpa using hl);rw[afV,h.nt] at s1;have s2:=ah4 (f:=⟨f.ck,f.nms,f.aM,[],[]⟩) f.aw [] λx hx=>by
  obtain⟨hr,t,ht,hp⟩:=h.run x hx;refine⟨by rw[show (⟨f.ck,f.nms,f.aM,[],[]⟩:Fm).aM=f.aM from rfl,ht];rfl,?_⟩;have hd:tT ⟨f.ck,f.nms,f.aM,[],[]⟩ x.2=x.1.ts:=by unfold tT;rw[show (⟨f.ck,f.nms,f.aM,[],[]⟩:Fm).aM=f.aM from rfl,ht];exact hp
  rw[hd];refine aCM hr ?_;rw[<-hp];exact (alX (h.tx _ (Fi ht)).2.1).2.2
 have s3:=aca (f:=⟨f.ck,f.nms,f.aM,f.aw,[]⟩) f.ks [] h.kk (by simpa using h.kd);unfold oY;rw[hb];show ((kG _ (f.nms.zip (f.nms.map (iy f)))).bind _)=_;rw[hz];show (kG (⟨f.ck,([]:List (Str×Str)).map (·.1),[],[],[]⟩:Fm) f.aM).bind _=_;rw[s1];show ((mf ⟨f.ck,f.nms,f.aM,[],[]⟩ ((f.aw.map (·.1)).zip (f.aw.map (·.2)))).bind _)=_;rw[abE];rw[show (⟨f.ck,f.nms,f.aM,[],[]⟩:Fm)={(⟨f.ck,f.nms,f.aM,[],[]⟩:Fm) with aw:=[]} from rfl,s2];exact s3
theorem SB.sv {N q:Nat}{H:Hp}{a:SA}{S:SS}(h:SB N H q a S):SV H.next H a S:=
 ⟨h.n,h.t.rw,h.r.rl,h.v,h.len,h.o.rw,h.k,λj hj=>by
  rcases hj with hj|hj|hj|hj|hj|hj;·exact h.lt _ (aab (i:=4) rfl) j (qJ (q:=q) (.inl hj))
  ·exact h.lt _ (aab (i:=1) rfl) j hj
  ·exact h.lt _ (aab (i:=2) rfl) j hj
  ·exact h.lt _ (aab (i:=3) rfl) j hj
  ·exact h.lt _ (aab (i:=4) rfl) j (qJ (q:=q) (.inr (.inl hj)))
  ·exact h.lt _ (aab (i:=4) rfl) j (qJ (q:=q) (.inr (.inr hj)))⟩
structure Jz (p q:Nat)(a b:FA):Prop where
 o:∀j∈own p a,j∉own q b
 i:∀j∈own p a,j∉bq.cY b
 k:∀j∈own q b,j∉bq.cY a
theorem Jz.symm {p q:Nat}{a b:FA}(h:Jz p q a b):Jz q p b a:=⟨λj hj z=>h.o j z hj,h.k,h.i⟩
theorem Jz.step {H H':Hp}{p q:Nat}{a a' b:FA}(h:Jz p q a b)(k:FSt H H' p a a')(hb:∀j ∈ own q b,j<H.next)(hi:∀j ∈ bq.cY b,j<H.next):Jz p q a' b :=
  ⟨λj hj z=>(k.w j hj).elim (λw=>h.o j w z) λw=>by have:=hb j z;omega,λj hj z=>(k.w j hj).elim (λw=>h.i j w z) λw=>by have:=hi j z;omega,
   λj hj z=>(k.i j z).elim (h.k j hj) λw=>by have:=hb j hj;omega⟩
end
def vZ (s:Nat×Nat)(v:Nat):Nat×Nat:=((s.1+v)%65521,(s.2+(s.1+v)%65521)%65521)
def M0 (b:Str):Nat×Nat:=b.foldl vZ (1,0)
def RE (b:Str):Nat:=(M0 b).2*65536+(M0 b).1
theorem akM (s:Nat×Nat)(v:Nat):(vZ s v).1<65521/\(vZ s v).2<65521:=⟨ama _ zzx,ama _ zzx⟩
theorem ahW:∀(b:Str) (s:Nat×Nat),s.1<65521/\s.2<65521->(b.foldl vZ s).1<65521/\(b.foldl vZ s).2<65521
 |[],s,h=>h|v::b,s,h=>ahW b (vZ s v) (akM s v)
theorem aAV (b:Str):(M0 b).1<65521/\(M0 b).2<65521:=ahW b (1,0) zzx
theorem aaB (a:Nat):((a:Nat):Int).tmod 65521=((a%65521:Nat):Int):=by rw[Int.tmod_eq_emod_of_nonneg zzz];omega
theorem ak5 (H:Hp):cK (zf 140) [.int .u32 1] H=some (.tuple [zi 1,zi 0],H):=by refine asU ?_;kernel_rfl
theorem apE (H:Hp):cK (zf 139) [.int .u32 1] H=some (.bool true,H):=by
 refine aqL ?_;have p:=ak5 H;unfold ab9;simp(disch:=try exact zqz)only[p,ar,aq,zz0,simprocAttr]
 try rfl
theorem apV {a c:Nat}(ha:a<65521)(hc:c<65521)(H:Hp):cK (zf 141) [zi (a:Nat),zi (c:Nat)] H=some (.int .u32 ((c*65536+a:Nat):Int),H):=by
 refine aua ?_;have w1:∀n:Nat,n<65521->((n:Nat):Int).tmod 65521=(n:Nat):=λn hn=>by rw[aaB,ahT hn]
 have w2:∀n:Nat,n<65521->IntKind.wrap .i64 (((n:Nat):Int)+65521)=((n+65521:Nat):Int):=λn hn=>by rw[wrap_i64 zzz zzz];omega
 have w3:∀n:Nat,n<65521->(((n+65521:Nat):Int)).tmod 65521=(n:Nat):=λn hn=>by rw[aaB];congr 1;omega
 have w4:∀n:Nat,n<4294967296->IntKind.wrap .u32 ((n:Nat):Int)=(n:Nat):=λn hn=>by unfold IntKind.wrap;simp[IntKind.signed,IntKind.bits];omega
 have sh:wD (.int .u32 ((c:Nat):Int)) (.int .u64 16)=some (.int .u32 ((c*65536:Nat):Int)):=by have:=P9 (k:=.u32) (j:=.u64) (a:=c) (b:=16);rw[show ((c*2^(min 16 (IntKind.bits .u32)):Nat):Int)=((c*65536:Nat):Int) from rfl,w4 _ zzz] at this;exact this
 have so:zv (.int .u32 ((c*65536:Nat):Int)) (.int .u32 ((a:Nat):Int))=some (.int .u32 ((c*65536+a:Nat):Int)):=by
  have e:(c*65536)|||a=c*65536+a:=by rw[Nat.or_comm];exact akw (i:=16) zzz
  have:=UY (k:=.u32) (a:=c*65536) (b:=a) (by show c*65536<4294967296;omega) (by show a<4294967296;omega) (by rw[e];exact w4 _ zzz);rw[e] at this;exact this
 have r:∀x:Int,wA (zi x) (zi 65521)=some (zi (x.tmod 65521)):=λx=>aoa .i64 x 65521 zzx;unfold ajJ;simp(disch:=try exact zqz)only[r,w1 c hc,w1 a ha,w2 c hc,w2 a ha,w3 c hc,w3 a ha,w4 c zzz,w4 a zzz,sh,so,ar,aq,zz0,simprocAttr]
theorem alZ {x:AV}{l:Str}{H:Hp}(hl:l.length<16000000)(hb:∀c∈l,c<256)(hx:Rw H 1 x (bs l)):∀(r:Str) (i:Nat) (s:Nat×Nat),s.1<65521/\s.2<65521->i<=l.length->l.drop i=r->
  ∀pO:K.Fn 2,Q8 JN GO cK pO (zi (s.1:Nat)) (zi (s.2:Nat)) x (zi (l.length:Nat)) (zi (i:Nat)) H=pO (zi ((r.foldl vZ s).1:Nat)) (zi ((r.foldl vZ s).2:Nat)) H
 |[],i,s,hs,hi,h=>by obtain rfl:=drop_nil hi h;intro pO;rw[adh];simp only[Wg,dA,List.foldl_nil,zz0,simprocAttr]
 |v::r,i,s,hs,hi,h=>by
  obtain⟨h1,h2,h3⟩:=dU h;have es:=dD h1 zzz;obtain⟨q,q1,q2⟩:=hx.gh (i:=i) (v:=.int .u8 (v:Nat)) (by unfold bs;rw[acd,h2];rfl) .i64;have hv:v<256:=hb v (aab h2);have w1:IntKind.wrap .i64 ((v:Nat):Int)=(v:Nat):=wrap_i64 zzz zzz;have w2:IntKind.wrap .i64 (((s.1:Nat):Int)+(v:Nat))=((s.1+v:Nat):Int):=by rw[wrap_i64 zzz zzz];omega
  have w3:IntKind.wrap .i64 (((s.2:Nat):Int)+(((s.1+v)%65521:Nat):Int))=((s.2+(s.1+v)%65521:Nat):Int):=by rw[wrap_i64 zzz zzz];omega
  have r1:∀a:Nat,wA (zi ((a:Nat):Int)) (zi 65521)=some (zi ((a%65521:Nat):Int)):=λa=>by rw[aoa .i64 _ 65521 zzx,aaB]
  have ih:∀pO:K.Fn 2,Q8 JN GO cK pO (zi (((s.1+v)%65521:Nat):Int)) (zi (((s.2+(s.1+v)%65521)%65521:Nat):Int)) x (zi (l.length:Nat)) (zi ((i+1:Nat):Int)) H=pO (zi ((r.foldl vZ (vZ s v)).1:Nat)) (zi ((r.foldl vZ (vZ s v)).2:Nat)) H:=alZ hl hb hx r (i+1) (vZ s v) (akM s v) h1 h3;intro pO;rw[adh];simp(disch:=try exact zqz)only[Wg,aQ h1,q1,q2,w1,w2,r1,w3,es,ih,List.foldl_cons,ar,aq,zz0,simprocAttr]
theorem arw {x:AV}{l:Str}{H:Hp}(hl:l.length<16000000)(hb:∀c∈l,c<256)(hx:Rw H 1 x (bs l)):cK (zf 65) [x] H=some (.int .u32 ((RE l:Nat):Int),H):=by
 have fU:=hx.gX;rw[nC] at fU;have i1:=alZ hl hb hx l 0 (1,0) zzx (abg _) aaM;rw[show (((0:Nat):Int))=0 from rfl,show ((((1,0):Nat×Nat).1:Nat):Int)=1 from rfl] at i1;have g:=apE H;have p:=ak5 H;have lt:=aAV l;have m:=apV lt.1 lt.2 H;unfold M0 at m;have on:cK (zf 99) [.int .u32 1,x] H=some (.tuple [.int .u32 ((RE l:Nat):Int),.bool true],H):=by refine aHy ?_;unfold ac8;simp(disch:=try exact zqz)only[g,p,fU,i1,m,ar,aq,zz0,simprocAttr];try rfl
 refine aA8 ?_;unfold akn;simp(disch:=try exact zqz)only[on,ar,aq,zz0,simprocAttr]
def ei (n:Nat):Str:=if n<128 then [n] else (n%128+128)::ei (n / 128) termination_by n decreasing_by omega
theorem JC {n:Nat}(h:n<128):ei n=[n]:=by rw[ei,zz2 h]
theorem LX {n:Nat}(h:¬n<128):ei n=(n%128+128)::ei (n / 128):=by rw[ei,zz1 h]
theorem aF4:∀m:Nat,m<256->m|||128=m%128+128:=zzx
structure EO (H:Hp)(p:Nat)(x:AV)(l:Str):Prop where
 c:Cs H p [x] 115 0
 o:Ow H 5 1 x (bs l)
 ne:p∉ak x
section
variable {H H':Hp}{l:Str}{x:AV}
theorem EO.out {p:Nat}{S:List Nat}(h:EO H p x l)(k:Out S H H')(h1:p∉S)(h2:∀j∈ak x,j∉S):EO H' p x l:=⟨h.c.out k h1,h.o.out k h2,h.ne⟩
theorem EO.au {p:Nat}(h:EO H p x l)(k:Out [] H H'):EO H' p x l:=h.out k zzy λj _=>zzy
structure EW (H H':Hp)(p:Nat)(x x':AV):Prop where
 o:Out (p::ak x) H H'
 w:∀j∈ak x',j∈ak x\/H.next<=j
theorem EW.refl (H:Hp)(p:Nat)(x:AV):EW H H p x x:=⟨Out.refl _ _,λj hj=>.inl hj⟩
theorem EW.trans {H'':Hp}{p:Nat}{x' Oh:AV}(h:EW H H' p x x')(k:EW H' H'' p x' Oh):EW H H'' p x Oh:=
 ⟨h.o.then k.o λj hj=>(aal.1 hj).elim (λe=>.inl (e ▸ .head _)) λq=>(h.w j q).imp (λz=>.tail _ z) id,λj hj=>(k.w j hj).elim (h.w j) λq=>.inr (afi h.o.1 q)⟩
theorem EO.push {p:Nat}(h:EO H p x l)(v:Nat)(hl:l.length<16777216):∃x' H1 H2,(∀i,i=H.next->c8 5 1 [(.int .u8 0)] false x (.slice i 0 1 1 true 1) (al H [.int .u8 (v:Nat)] 5 0)=some (x',H1))/\st 1 (.ptr p 0) x' H1=some H2/\EO H2 p x' (l++[v])/\EW H H2 p x x':=by
 obtain⟨x',H1,p1,p2,p3,p4,p5⟩:=wL (el2:=5) (z:=[(.int .u8 0)]) (vs:=[.int .u8 (v:Nat)]) h.o rfl rfl zzx (by rw[nC];show _+1<=_;omega);have yk:=h.c.out p3 h.ne;obtain⟨H2,w1,w2,w3,w4⟩:=eV yk zzx (o:=0) zzy (v:=x') p5;have aE:p∉ak x':=λq=>(p4 p q).elim h.ne λq=>by have:=h.c.1;omega
 have hb:bs (l++[v])=bs l++[.int .u8 (v:Nat)]:=by rw[aaz];rfl
 exact⟨x',H1,H2,p1,w1,⟨w2,by rw[hb];exact p2.out w3 λj hj q=>by rw[No] at q;subst q;exact aE hj,aE⟩,(p3.mono λj hj=>.tail _ hj).then w3 λj hj=>.inl (by rw[No] at hj;subst hj;exact .head _),p4⟩
theorem EO.aHz {p:Nat}(h:EO H p x l)(s:Str)(hl:l.length+s.length<=16777216):∃x' H1 H2,c8 5 1 [(.int .u8 0)] false x (.str s) H=some (x',H1)/\st 1 (.ptr p 0) x' H1=some H2/\EO H2 p x' (l++s)/\EW H H2 p x x':=by
 obtain⟨x',H1,a1,a2,a3,a4⟩:=NP (n:=s.length) (new:=bs s) h.o (by rw[nC,adV]) (akf s) zzx (by rw[nC,nC];exact hl);have JL:c8 5 1 [(.int .u8 0)] false x (.str s) H=some (x',H1):=by
  unfold c8;have:BV 1 [(.int .u8 0)] false (.str s) H=some (s.length,bs s):=by unfold BV;simp[bs]
  rw[this];exact a1
 have yk:=h.c.out a3 h.ne;obtain⟨H2,w1,w2,w3,w4⟩:=eV yk zzx (o:=0) zzy (v:=x') a2.lg;have aE:p∉ak x':=λq=>(a4 p q).elim h.ne λq=>by have:=h.c.1;omega
 exact⟨x',H1,H2,JL,w1,⟨w2,by rw[aaz];exact a2.out w3 λj hj q=>by rw[No] at q;subst q;exact aE hj,aE⟩,(a3.mono λj hj=>.tail _ hj).then w3 λj hj=>.inl (by rw[No] at hj;subst hj;exact .head _),a4⟩
theorem wrap_u8 (n:Nat):IntKind.wrap .u8 ((n:Nat):Int)=((n%256:Nat):Int):=by unfold IntKind.wrap;simp[IntKind.signed,IntKind.bits]
theorem aqA (n:Nat):zv (.int .u8 ((n%256:Nat):Int)) (.int .u8 128)=some (.int .u8 ((n%128+128:Nat):Int)):=by
 have e:(n%256)|||128=n%128+128:=by rw[aF4 _ (ama _ zzx)];omega
 have:=UY (k:=.u8) (a:=n%256) (b:=128) (by show n%256<256;omega) zzx (by rw[e,wrap_u8];congr 1;omega);rw[e] at this;exact this
theorem awS (n:Nat):sP (.int .u64 ((n:Nat):Int)) (.int .u64 7)=some (.int .u64 ((n / 128:Nat):Int)):=by have:=OK (k:=.u64) (j:=.u64) (a:=n) (b:=7);exact this
theorem aDN {p:Nat}:∀(n:Nat) (H:Hp) (x:AV) (l:Str),n<2^64->EO H p x l->l.length+n<=0+l.length+n->l.length+(ei n).length<=16000000->
  ∃m pre x' H',(∀j1:K.Fn 2,XT JN GO cK j1 (.ptr p 0) (.int .u64 (n:Nat)) H=j1 (.ptr p 0) (.int .u64 (m:Nat)) H')/\m<128/\ei n=pre++[m]/\EO H' p x' (l++pre)/\EW H H' p x x':=by
 intro n;induction n using Nat.strongRecOn with
 |_ n ih=>
  intro H x l hn h _ hl;by_cases hs:n<128;·have d:decide ((128:Int)<=((n:Nat):Int))=false:=zz4 zzz;refine⟨n,[],x,H,λj1=>?_,hs,JC hs,by rw[ac4];exact h,EW.refl _ _ _⟩;rw[amD];simp(disch:=try exact zqz)only[Xo,d,ar,aq,zz0,simprocAttr]
  ·have d:decide ((128:Int)<=((n:Nat):Int))=true:=zz3 zzz;rw[LX hs,aau] at hl;obtain⟨x1,H1,H2,a1,a2,a3,a4⟩:=h.push (n%128+128) zzz;have b1:=a1 H.next rfl;obtain⟨m,pre,x',H',i1,i2,i3,i4,i5⟩:=ih (n / 128) zzz H2 x1 (l++[n%128+128]) zzz a3 zzz (by rw[aah];show l.length+1+_<=_;omega);have e0:cellAt H p 0=some x:=h.c.cellAt rfl;have w:=wrap_u8 n;have o:=aqA n;have s7:=awS n;refine⟨m,(n%128+128)::pre,x',H',λj1=>?_,i2,by rw[LX hs,i3];rfl,by rw[abC] at i4;exact i4,a4.trans i5⟩;rw[amD];simp(disch:=try exact zqz)only[Xo,d,e0,w,o,b1,a2,s7,i1,ar,aq,zz0,simprocAttr]
theorem Al {p:Nat}(h:EO H p x l){n:Nat}(hn:n<2^64)(hl:l.length+(ei n).length<=16000000):∃x' H',cK (zf 62) [.ptr p 0,.int .u64 (n:Nat)] H=some (.tuple [],H')/\EO H' p x' (l++ei n)/\EW H H' p x x':=by obtain⟨m,pre,x1,H1,i1,i2,i3,i4,i5⟩:=aDN n H x l hn h zzz hl;rw[i3,aah] at hl;obtain⟨x',H2,H3,a1,a2,a3,a4⟩:=i4.push m (by rw[aah];have:([m]:List Nat).length=1:=rfl;omega);have b1:=a1 H1.next rfl;have e0:cellAt H1 p 0=some x1:=i4.c.cellAt rfl;have w:=wrap_u8 m;rw[ahT zzz] at w;refine⟨x',H3,avl ?_,by rw[i3,<-abC];exact a3,i5.trans a4⟩;unfold aoo;simp(disch:=try exact zqz)only[i1,e0,w,b1,a2,ar,aq,zz0,simprocAttr]
theorem FD {p:Nat}(h:EO H p x l){s:Str}(hs:s.length<16000000)(hl:l.length+(ei s.length).length+s.length<=16000000):∃x' H',cK (zf 63) [.ptr p 0,.str s] H=some (.tuple [],H')/\EO H' p x' (l++(ei s.length++s))/\EW H H' p x x':=by
 obtain⟨x1,H1,u1,u2,u3⟩:=Al h (n:=s.length) zzz zzz;obtain⟨x',H2,H3,a1,a2,a3,a4⟩:=u2.aHz s (by rw[aah];omega);have e0:cellAt H1 p 0=some x1:=u2.c.cellAt rfl;have w:IntKind.wrap .u64 ((s.length:Nat):Int)=((s.length:Nat):Int):=by unfold IntKind.wrap;simp[IntKind.signed,IntKind.bits];omega
 refine⟨x',H3,aDx ?_,by rw[<-abC];exact a3,u3.trans a4⟩;unfold afR;simp(disch:=try exact zqz)only[w,u1,e0,a1,a2,ar,aq,zz0,simprocAttr]
end
theorem wrap_u64 {n:Nat}(h:n<2^64):IntKind.wrap .u64 ((n:Nat):Int)=(n:Nat):=by unfold IntKind.wrap;simp[IntKind.signed,IntKind.bits];omega
theorem axa {n:Nat}(h:n<2^62)(H:Hp):cK (zf 98) [zi (n:Nat)] H=some (.int .u64 ((2*n:Nat):Int),H):=by
 have w:=wrap_u64 (n:=n) zzz;have w0:IntKind.wrap .u64 0=0:=zzx;have sl:wD (.int .u64 ((n:Nat):Int)) (.int .u64 1)=some (.int .u64 ((2*n:Nat):Int)):=by have:=P9 (k:=.u64) (j:=.u64) (a:=n) (b:=1);rw[show (n*2^(min 1 (IntKind.bits .u64)):Nat)=n*2 from rfl,wrap_u64 zzz,anH] at this;exact this
 have sr:sP (zi ((n:Nat):Int)) (.int .u64 63)=some (zi 0):=by have:=OK (k:=.i64) (j:=.u64) (a:=n) (b:=63);rw[show (n / 2^(min 63 (IntKind.bits .i64)):Nat)=n / 9223372036854775808 from rfl,Nat.div_eq_of_lt zzz] at this;exact this
 have sx:Br (.int .u64 ((2*n:Nat):Int)) (.int .u64 0)=some (.int .u64 ((2*n:Nat):Int)):=by have:=aFH (k:=.u64) (a:=2*n) (b:=0) (by show 2*n<2^64;omega) zzx (by rw[Nat.xor_zero];exact wrap_u64 zzz);rw[Nat.xor_zero] at this;exact this
 refine aFR ?_;unfold adj;simp(disch:=try exact zqz)only[w,w0,sl,sr,sx,ar,aq,zz0,simprocAttr]
noncomputable def gu (n:Nat):Int:=IntKind.wrap .i64 ((mh .i64 (IntKind.wrap .i64 ((n / 2:Nat):Int)) ^^^ mh .i64 (IntKind.wrap .i64 (-(((n%2:Nat):Int)))):Nat):Int)
theorem axJ {n:Nat}(h:n<2^64)(H:Hp):cK (zf 100) [.int .u64 (n:Nat)] H=some (zi (gu n),H):=by
 have sr:sP (.int .u64 ((n:Nat):Int)) (.int .u64 1)=some (.int .u64 ((n / 2:Nat):Int)):=OK (k:=.u64) (j:=.u64) (a:=n) (b:=1);have sa:zn (.int .u64 ((n:Nat):Int)) (.int .u64 1)=some (.int .u64 ((n%2:Nat):Int)):=amV (k:=.u64) (a:=n) (m:=1) (by exact h) zzx (wrap_u64 zzz);have w1:IntKind.wrap .i64 ((n%2:Nat):Int)=((n%2:Nat):Int):=wrap_i64 zzz zzz;have sx:∀a b:Int,Br (zi a) (zi b)=some (zi (IntKind.wrap .i64 ((mh .i64 a ^^^ mh .i64 b:Nat):Int))):=λa b=>by unfold Br ii;simp
 have sn:∀a:Int,ep .neg (zi a)=some (zi (IntKind.wrap .i64 (-a))):=λa=>by simp[ep]
 refine aCR ?_;unfold afl gu;simp(disch:=try exact zqz)only[sr,sa,w1,sx,sn,ar,aq,zz0,simprocAttr]
theorem UL {n:Nat}(h:n<2^62):gu (2*n)=(n:Nat):=by unfold gu;rw[show 2*n / 2=n by omega,show 2*n%2=0 by omega,wrap_i64 (a:=((n:Nat):Int)) zzz zzz,Gz (k:=.i64) (n:=n) (by show n<2^64;omega)];rw[show mh .i64 (IntKind.wrap .i64 (-(((0:Nat)):Int)))=0 from zzx,Nat.xor_zero];exact wrap_i64 zzz zzz
theorem abU {H:Hp}{p:Nat}{x:AV}{l:Str}(h:EO H p x l){n:Nat}(hn:n<2^62)(hl:l.length+(ei (2*n)).length<=16000000):∃x' H',cK (zf 61) [.ptr p 0,zi (n:Nat)] H=some (.tuple [],H')/\EO H' p x' (l++ei (2*n))/\EW H H' p x x':=by have f:=axa hn H;obtain⟨x',H',u1,u2,u3⟩:=Al h (n:=2*n) zzz hl;refine⟨x',H',atH ?_,u2,u3⟩;unfold aj3;simp(disch:=try exact zqz)only[f,u1,ar,aq,zz0,simprocAttr]
def rC:Nat->Nat->Str->Option (Nat×Str)
 |_,_,[]=>none|k,v,b::r=>if 10<=k then none else if 128<=b then rC (k+1) ((v+(b%128)*2^(7*k))%2^64) r else if (b=0/\0<k)\/(7*k=63/\1<b) then none else some ((v+(b%128)*2^(7*k))%2^64,r)
structure EI (H:Hp)(p:Nat)(x:AV)(l:Str)(bad:Bool):Prop where
 c:Cs H p [x,.bool bad] 126 0
 r:Rw H 1 x (bs l)
 ne:p∉ak x
 lt:∀b∈l,b<256
 ln:l.length<=2000000
 b0:bad=true->l=[]
structure ER (H H':Hp)(p:Nat)(x x':AV):Prop where
 o:Out [p] H H'
 w:∀j∈ak x',j∈ak x
theorem ER.refl (H:Hp)(p:Nat)(x:AV):ER H H p x x:=⟨Out.refl _ _,λj hj=>hj⟩
section
variable {H H':Hp}{bad:Bool}{l:Str}{x:AV}
theorem ER.trans {H'':Hp}{p:Nat}{x' Oh:AV}(h:ER H H' p x x')(k:ER H' H'' p x' Oh):ER H H'' p x Oh:=⟨h.o.trans k.o,λj hj=>h.w j (k.w j hj)⟩
theorem EI.out {p:Nat}{S:List Nat}(h:EI H p x l bad)(k:Out S H H')(h1:p∉S)(h2:∀j∈ak x,j∉S):EI H' p x l bad:=⟨h.c.out k h1,h.r.out k h2,h.ne,h.lt,h.ln,h.b0⟩
theorem EI.au {p:Nat}(h:EI H p x l bad)(k:Out [] H H'):EI H' p x l bad:=h.out k zzy λj _=>zzy
theorem Qu {p:Nat}(h:EI H p x l bad):∃H',cK (zf 142) [.ptr p 0] H=some (.tuple [],H')/\EI H' p .ah [] true/\ER H H' p x .ah:=by obtain⟨H1,a1,a2,a3,a4⟩:=eV h.c zzx (o:=1) zzy (v:=.bool true) rfl;obtain⟨H2,b1,b2,b3,b4⟩:=eV a2 zzx (o:=0) zzy (v:=.ah) rfl;refine⟨H2,arP ?_,⟨b2,.nil,by simp[ak],λb hb=>(by cases hb),zzy,λ_=>rfl⟩,⟨a3.trans b3,λj hj=>by simp[ak] at hj⟩⟩;unfold afw;simp(disch:=try exact zqz)only[a1,b1,ar,aq,zz0,simprocAttr]
theorem EI.cut {p:Nat}(h:EI H p x l bad){k:Nat}(hk:k<=l.length)(hb:bad=false):∃x' H',oh 1 x (some (zi (k:Nat))) none none=some x'/\st 1 (.ptr p 0) x' H=some H'/\EI H' p x' (l.drop k) bad/\ER H H' p x x':=by
 obtain⟨x',s1,s2,s3⟩:=Ar (n:=l.length) h.r (by rw[nC,adV]) zzx (a:=k) (b:=l.length) (lo:=some (zi (k:Nat))) (hi:=none) hk (aaq _) (Bd.yes _ _ _) (Bd.no _);have e:((bs l).drop (k*1)).take ((l.length-k)*1)=bs (l.drop k):=by rw[adV,adV,ae2 (by rw[aeG,nC];omega)];unfold bs;rw[List.map_drop]
 rw[e] at s2;obtain⟨H',a1,a2,a3,a4⟩:=eV h.c zzx (o:=0) zzy (v:=x') s2.one;exact⟨x',H',s1,a1,⟨a2,s2.out a3 λj hj q=>by rw[No] at q;subst q;exact h.ne (s3 _ hj),λq=>h.ne (s3 _ q),λb q=>h.lt b (List.mem_of_mem_drop q),by rw[aeG];have:=h.ln;omega,λq=>by rw[hb] at q;cases q⟩,⟨a3,s3⟩⟩
theorem awp {v B i:Nat}(hv:v<2^i)(hi:i<=64):v|||(B*2^i)%2^64=(v+B*2^i)%2^64/\(v+B*2^i)%2^64<2^64:=by
 have e:(2:Nat)^64=2^(64-i)*2^i:=by rw[<-Nat.pow_add];congr 1;omega
 have hw:(B*2^i)%2^64=(B%2^(64-i))*2^i:=by rw[e,Nat.mul_mod_mul_right]
 have aN:B%2^(64-i)<2^(64-i):=ama _ (Nat.pow_pos zzx);have hs:v+(B%2^(64-i))*2^i<2^64:=by have:(B%2^(64-i)+1)*2^i<=2^(64-i)*2^i:=adS _ aN;rw[e];rw[afB,ajR] at this;omega
 have hm:(v+B*2^i)%2^64=v+(B%2^(64-i))*2^i:=by rw[Nat.add_mod,hw,ahT (a:=v) zzz,ahT hs]
 refine⟨?_,ama _ zzx⟩;rw[hw,hm,akw hv];omega
theorem ayr (n:Nat):IntKind.wrap .u64 ((n:Nat):Int)=((n%2^64:Nat):Int):=by unfold IntKind.wrap;simp[IntKind.signed,IntKind.bits]
theorem aHZ {p:Nat}(h:EI H p x l false):∀(r:Str) (k v:Nat),l.drop k=r->k<=10->k<=l.length->v<2^(7*k)->v<2^64->
  (rC k v r=none/\∀j1:K.Fn 1,Ns JN GO cK j1 (.ptr p 0) (.int .u64 (v:Nat)) (zi (k:Nat)) H=j1 (.ptr p 0) H)\/
  ∃v' r' x' H',rC k v r=some (v',r')/\(∀j1:K.Fn 1,Ns JN GO cK j1 (.ptr p 0) (.int .u64 (v:Nat)) (zi (k:Nat)) H=some (.int .u64 (v':Nat),H'))/\v'<2^64/\EI H' p x' r' false/\ER H H' p x x':=by
 have e0:cellAt H p 0=some x:=h.c.cellAt rfl;have e1:cellAt H p 1=some (.bool false):=h.c.cellAt rfl;have fU:=h.r.gX;rw[nC] at fU;have mr:=h.ln;intro r;induction r with
 |nil=>
  intro k v hr hk kL hv ai7;have ie:k=l.length:=by have:=congrArg List.length hr;rw[aeG] at this;simp at this;omega
  have d2:decide (((k:Nat):Int)<((l.length:Nat):Int))=false:=zz4 zzz;refine .inl ⟨by rw[rC],λj1=>?_⟩;rw[Ff];cases d1:decide (((k:Nat):Int)<10)<;>simp(disch:=try exact zqz)only[zb,e0,e1,d1,fU,d2,ar,aq,zz0,simprocAttr]
 |cons b r ih=>
  intro k v hr hk kL hv ai7;obtain⟨h1,h2,h3⟩:=dU hr;have hb:=h.lt b (aab h2);by_cases Mt:10<=k;·have d1:decide (((k:Nat):Int)<10)=false:=zz4 zzz;refine .inl ⟨by rw[rC,zz2 Mt],λj1=>?_⟩;rw[Ff];simp(disch:=try exact zqz)only[zb,e0,e1,d1,fU,ar,aq,zz0,simprocAttr]
  have d1:decide (((k:Nat):Int)<10)=true:=zz3 zzz;have d2:decide (((k:Nat):Int)<((l.length:Nat):Int))=true:=zz3 (by have:=(aac.1 h2).1;omega);obtain⟨q,q1,q2⟩:=h.r.gh (i:=k) (v:=.int .u8 (b:Nat)) (by unfold bs;rw[acd,h2];rfl) .i64;have m1:zn (.int .u8 ((b:Nat):Int)) (.int .u8 127)=some (.int .u8 ((b%128:Nat):Int)):=amV (k:=.u8) (a:=b) (m:=7) (by show b<256;exact hb) zzx (by rw[wrap_u8];congr 1;omega);have m2:IntKind.wrap .u64 ((b%128:Nat):Int)=((b%128:Nat):Int):=wrap_u64 zzz;have m3:IntKind.wrap .i64 (7*((k:Nat):Int))=((7*k:Nat):Int):=by rw[wrap_i64 zzz zzz];omega
  have m4:wD (.int .u64 ((b%128:Nat):Int)) (zi ((7*k:Nat):Int))=some (.int .u64 (((b%128*2^(7*k))%2^64:Nat):Int)):=by have:=P9 (k:=.u64) (j:=.i64) (a:=b%128) (b:=7*k);rw[show min (7*k) (IntKind.bits .u64)=7*k from amM (by show 7*k<=64;omega),ayr] at this;exact this
  obtain⟨s1,s2⟩:=awp (v:=v) (B:=b%128) hv (i:=7*k) zzz;have m5:zv (.int .u64 ((v:Nat):Int)) (.int .u64 (((b%128*2^(7*k))%2^64:Nat):Int))=some (.int .u64 (((v+b%128*2^(7*k))%2^64:Nat):Int)):=by have:=UY (k:=.u64) (a:=v) (b:=(b%128*2^(7*k))%2^64) ai7 (ama _ zzx) (by rw[s1];exact wrap_u64 s2);rw[s1] at this;exact this
  have m6:IntKind.wrap .i64 (((k:Nat):Int)+1)=((k+1:Nat):Int):=by rw[wrap_i64 zzz zzz];omega
  by_cases BD:128<=b
  ·have d3:decide ((128:Int)<=((b:Nat):Int))=true:=zz3 zzz;have bT:(v+b%128*2^(7*k))%2^64<2^(7*(k+1)):=by refine Nat.lt_of_le_of_lt (Nat.mod_le _ _) ?_;rw[show 7*(k+1)=7*k+7 by omega,Nat.pow_add];have:(b%128+1)*2^(7*k)<=2^7*2^(7*k):=adS _ (by have:=ama b (show 0<128 by decide);omega);rw[afB,ajR] at this;rw[anH (2^(7*k))];omega
   have:=(aac.1 h2).1;rcases ih (k+1) ((v+b%128*2^(7*k))%2^64) h3 zzz zzz bT s2 with⟨i1,i2⟩|⟨v',r',x',H',i1,i2,i3,i4,i5⟩;·refine .inl ⟨by rw[rC,zz1 Mt,zz2 BD];exact i1,λj1=>?_⟩;rw[Ff];simp(disch:=try exact zqz)only[zb,e0,e1,d1,fU,d2,q1,q2,m1,m2,m3,m4,m5,d3,m6,i2,ar,aq,zz0,simprocAttr]
   ·refine .inr ⟨v',r',x',H',by rw[rC,zz1 Mt,zz2 BD];exact i1,λj1=>?_,i3,i4,i5⟩;rw[Ff];simp(disch:=try exact zqz)only[zb,e0,e1,d1,fU,d2,q1,q2,m1,m2,m3,m4,m5,d3,m6,i2,ar,aq,zz0,simprocAttr]
  ·have d3:decide ((128:Int)<=((b:Nat):Int))=false:=zz4 zzz;have aJl:=(aac.1 h2).1;by_cases aeS:(b=0/\0<k)\/(7*k=63/\1<b)
   ·refine .inl ⟨by rw[rC,zz1 Mt,zz1 BD,zz2 aeS],λj1=>?_⟩;rw[Ff];by_cases b0:b=0
    ·have t0:(((b:Nat):Int)==0)=true:=by simp[b0]
     have t1:decide ((0:Int)<((k:Nat):Int))=true:=zz3 zzz;simp(disch:=try exact zqz)only[zb,e0,e1,d1,fU,d2,q1,q2,m1,m2,m3,m4,m5,d3,t0,t1,ar,aq,zz0,simprocAttr]
    ·have t0:(((b:Nat):Int)==0)=false:=by simp;omega
     have t2:(((7*k:Nat):Int)==63)=true:=by simp;omega
     have t3:decide ((1:Int)<((b:Nat):Int))=true:=zz3 zzz;simp(disch:=try exact zqz)only[zb,e0,e1,d1,fU,d2,q1,q2,m1,m2,m3,m4,m5,d3,t0,t2,t3,ar,aq,zz0,simprocAttr]
   ·obtain⟨x',H',c1,c2,c3,c4⟩:=h.cut (k:=k+1) zzz rfl;rw[h3] at c3;refine .inr ⟨_,r,x',H',by rw[rC,zz1 Mt,zz1 BD,zz1 aeS],λj1=>?_,s2,c3,c4⟩;rw[Ff];by_cases b0:b=0
    ·have k0:k=0:=zzz;have t0:(((b:Nat):Int)==0)=true:=by simp[b0]
     have t1:decide ((0:Int)<((k:Nat):Int))=false:=zz4 zzz;have t2:(((7*k:Nat):Int)==63)=false:=by simp;omega
     simp(disch:=try exact zqz)only[zb,e0,e1,d1,fU,d2,q1,q2,m1,m2,m3,m4,m5,d3,t0,t1,t2,m6,c1,c2,ar,aq,zz0,simprocAttr]
    ·have t0:(((b:Nat):Int)==0)=false:=by simp;omega
     by_cases wk:7*k=63
     ·have t2:(((7*k:Nat):Int)==63)=true:=by simp;omega
      have t3:decide ((1:Int)<((b:Nat):Int))=false:=zz4 zzz;simp(disch:=try exact zqz)only[zb,e0,e1,d1,fU,d2,q1,q2,m1,m2,m3,m4,m5,d3,t0,t2,t3,m6,c1,c2,ar,aq,zz0,simprocAttr]
     ·have t2:(((7*k:Nat):Int)==63)=false:=by simp;omega
      simp(disch:=try exact zqz)only[zb,e0,e1,d1,fU,d2,q1,q2,m1,m2,m3,m4,m5,d3,t0,t2,m6,c1,c2,ar,aq,zz0,simprocAttr]
def aY (l:Str)(bad:Bool):Nat×Str×Bool:=match rC 0 0 l with
 |some (v,r)=>(v,r,bad)|none=>(0,[],true)
theorem UT {p:Nat}(h:EI H p x l bad):∃x' H',cK (zf 101) [.ptr p 0] H=some (.int .u64 ((aY l bad).1:Nat),H')/\(aY l bad).1<2^64/\EI H' p x' (aY l bad).2.1 (aY l bad).2.2/\ER H H' p x x':=by
 cases bad with
 |true=>
  obtain rfl:=h.b0 rfl;have e1:cellAt H p 1=some (.bool true):=h.c.cellAt rfl;obtain⟨H',f1,f2,f3⟩:=Qu h;refine⟨_,H',YL ?_,zzx,f2,f3⟩;have i1:∀j1:K.Fn 1,Ns JN GO cK j1 (.ptr p 0) (.int .u64 0) (zi 0) H=j1 (.ptr p 0) H:=λj1=>by rw[Ff];simp(disch:=try exact zqz)only[zb,e1,ar,aq,zz0,simprocAttr]
  unfold Ps;simp(disch:=try exact zqz)only[i1,f1,ar,aq,zz0,simprocAttr];try rfl
 |false=>
  rcases aHZ h l 0 0 aaM zzz (abg _) zzx zzx with⟨i1,i2⟩|⟨v',r',x',H',i1,i2,i3,i4,i5⟩
  ·rw[show (((0:Nat):Int))=0 from rfl] at i2;obtain⟨H',f1,f2,f3⟩:=Qu h;have e:aY l false=(0,[],true):=by unfold aY;rw[i1]
   rw[e];refine⟨_,H',YL ?_,zzx,f2,f3⟩;unfold Ps;simp(disch:=try exact zqz)only[i2,f1,ar,aq,zz0,simprocAttr];try rfl
  ·rw[show (((0:Nat):Int))=0 from rfl] at i2;have e:aY l false=(v',r',false):=by unfold aY;rw[i1]
   rw[e];refine⟨x',H',YL ?_,i3,i4,i5⟩;unfold Ps;simp(disch:=try exact zqz)only[i2,ar,aq,zz0,simprocAttr]
theorem VJ {p:Nat}(h:EI H p x l bad):∃x' H',cK (zf 67) [.ptr p 0] H=some (zi (gu (aY l bad).1),H')/\EI H' p x' (aY l bad).2.1 (aY l bad).2.2/\ER H H' p x x':=by obtain⟨x',H',u1,u2,u3,u4⟩:=UT h;have f:=axJ u2 H';refine⟨x',H',apC ?_,u3,u4⟩;unfold aio;simp(disch:=try exact zqz)only[u1,f,ar,aq,zz0,simprocAttr]
def eS (l:Str)(bad:Bool)(m:Nat):Nat×Str×Bool:=if (aY l bad).2.2=true\/m<(aY l bad).1\/2147483647<(aY l bad).1 then (0,[],true) else aY l bad
theorem Eg {p:Nat}(h:EI H p x l bad)(m:Nat):∃x' H',cK (zf 102) [.ptr p 0,.int .u64 (m:Nat)] H=some (zi ((eS l bad m).1:Nat),H')/\EI H' p x' (eS l bad m).2.1 (eS l bad m).2.2/\ER H H' p x x':=by
 obtain⟨x1,H1,u1,u2,u3,u4⟩:=UT h;have e1:cellAt H1 p 1=some (.bool (aY l bad).2.2):=u3.c.cellAt rfl;unfold eS;by_cases hb:(aY l bad).2.2=true\/m<(aY l bad).1\/2147483647<(aY l bad).1
 ·rw[zz2 hb];obtain⟨H',f1,f2,f3⟩:=Qu u3;refine⟨_,H',agz ?_,f2,u4.trans f3⟩;unfold aaJ;cases ja:(aY l bad).2.2 with
  |true=>
   rw[ja] at e1;simp(disch:=try exact zqz)only[u1,e1,f1,ar,aq,zz0,simprocAttr];try rfl
  |false=>
   rw[ja] at e1 hb;by_cases h1:m<(aY l bad).1;·have d1:decide (((m:Nat):Int)<(((aY l bad).1:Nat):Int))=true:=zz3 zzz;simp(disch:=try exact zqz)only[u1,e1,d1,f1,ar,aq,zz0,simprocAttr];try rfl
   ·have d1:decide (((m:Nat):Int)<(((aY l bad).1:Nat):Int))=false:=zz4 zzz;have d2:decide ((2147483647:Int)<(((aY l bad).1:Nat):Int))=true:=zz3 (by
     rcases hb with q|q|q;·cases q
     ·exact absurd q h1
     ·omega)
    simp(disch:=try exact zqz)only[u1,e1,d1,d2,f1,ar,aq,zz0,simprocAttr];try rfl
 ·rw[zz1 hb];have ja:(aY l bad).2.2=false:=by cases q:(aY l bad).2.2 with|false=>rfl|true=>exact absurd (.inl q) hb
  rw[ja] at e1;have d1:decide (((m:Nat):Int)<(((aY l bad).1:Nat):Int))=false:=zz4 zzz;have d2:decide ((2147483647:Int)<(((aY l bad).1:Nat):Int))=false:=zz4 zzz;have w:IntKind.wrap .i64 (((aY l bad).1:Nat):Int)=(((aY l bad).1:Nat):Int):=wrap_i64 zzz zzz;refine⟨x1,H1,agz ?_,u3,u4⟩;unfold aaJ;simp(disch:=try exact zqz)only[u1,e1,d1,d2,w,ar,aq,zz0,simprocAttr]
theorem asR {p:Nat}(h:EI H p x l bad):cK (zf 69) [.ptr p 0] H=some (.bool (!bad&&decide (l.length=0)),H):=by
 have e0:cellAt H p 0=some x:=h.c.cellAt rfl;have e1:cellAt H p 1=some (.bool bad):=h.c.cellAt rfl;have fU:=h.r.gX;rw[nC] at fU;have t:(((l.length:Nat):Int)==0)=decide (l.length=0):=by
  by_cases q:l.length=0;·rw[q];rfl
  ·rw[zz4 q];simp;intro z;exact q (by rw[z];rfl)
 refine ara ?_;unfold ajt;cases bad<;>simp(disch:=try exact zqz)only[e0,e1,fU,t,ar,aq,zz0,simprocAttr]<;>rfl
def gp (l:Str)(bad:Bool)(m:Nat):Str×Str×Bool:=if (aY l bad).2.2=true\/m<(aY l bad).1\/(aY l bad).2.1.length<(aY l bad).1 then ([],[],true) else ((aY l bad).2.1.take (aY l bad).1,(aY l bad).2.1.drop (aY l bad).1,false)
theorem FE {p:Nat}(h:EI H p x l bad){m:Nat}(hm:m<2000000):∃x' H',cK (zf 103) [.ptr p 0,zi (m:Nat)] H=some (.str (gp l bad m).1,H')/\EI H' p x' (gp l bad m).2.1 (gp l bad m).2.2/\ER H H' p x x':=by
 obtain⟨x1,H1,u1,u2,u3,u4⟩:=UT h;have e0:cellAt H1 p 0=some x1:=u3.c.cellAt rfl;have e1:cellAt H1 p 1=some (.bool (aY l bad).2.2):=u3.c.cellAt rfl;have fU:=u3.r.gX;rw[nC] at fU;have mr:=u3.ln;have d0:decide (((m:Nat):Int)<0)=false:=zz4 zzz;have w1:IntKind.wrap .u64 ((m:Nat):Int)=(m:Nat):=wrap_u64 zzz;have w2:IntKind.wrap .u64 (((aY l bad).2.1.length:Nat):Int)=((aY l bad).2.1.length:Nat):=wrap_u64 zzz;unfold gp;by_cases hb:(aY l bad).2.2=true\/m<(aY l bad).1\/(aY l bad).2.1.length<(aY l bad).1
 ·rw[zz2 hb];obtain⟨H',f1,f2,f3⟩:=Qu u3;refine⟨_,H',ahJ ?_,f2,u4.trans f3⟩;unfold XA;cases ja:(aY l bad).2.2 with
  |true=>
   rw[ja] at e1;simp(disch:=try exact zqz)only[u1,e1,f1,ar,aq,zz0,simprocAttr]
  |false=>
   rw[ja] at e1 hb;by_cases h1:m<(aY l bad).1;·have d1:decide (((m:Nat):Int)<(((aY l bad).1:Nat):Int))=true:=zz3 zzz;simp(disch:=try exact zqz)only[u1,e1,d0,w1,d1,f1,ar,aq,zz0,simprocAttr]
   ·have d1:decide (((m:Nat):Int)<(((aY l bad).1:Nat):Int))=false:=zz4 zzz;have d2:decide ((((aY l bad).2.1.length:Nat):Int)<(((aY l bad).1:Nat):Int))=true:=zz3 (by
     rcases hb with q|q|q;·cases q
     ·exact absurd q h1
     ·omega)
    simp(disch:=try exact zqz)only[u1,e1,d0,w1,d1,e0,fU,w2,d2,f1,ar,aq,zz0,simprocAttr]
 ·rw[zz1 hb];have ja:(aY l bad).2.2=false:=by cases q:(aY l bad).2.2 with|false=>rfl|true=>exact absurd (.inl q) hb
  rw[ja] at e1;have d1:decide (((m:Nat):Int)<(((aY l bad).1:Nat):Int))=false:=zz4 zzz;have d2:decide ((((aY l bad).2.1.length:Nat):Int)<(((aY l bad).1:Nat):Int))=false:=zz4 zzz;have hle:(aY l bad).1<=(aY l bad).2.1.length:=zzz;obtain⟨y,y1,y2,y3⟩:=Ar (n:=(aY l bad).2.1.length) u3.r (by rw[nC,adV]) zzx (a:=0) (b:=(aY l bad).1) (lo:=none) (hi:=some (.int .u64 ((aY l bad).1:Nat))) (abg _) hle (Bd.no 0) (Bd.yes _ _ _);have e:((bs (aY l bad).2.1).drop (0*1)).take (((aY l bad).1-0)*1)=bs ((aY l bad).2.1.take (aY l bad).1):=by rw[ahD,aaM,adV,agN];unfold bs;rw[List.map_take]
  rw[e] at y2;have b2:=zw y2 λb hb=>u3.lt b (List.mem_of_mem_take hb);obtain⟨z,z1,z2,z3⟩:=Ar (n:=(aY l bad).2.1.length) u3.r (by rw[nC,adV]) zzx (a:=(aY l bad).1) (b:=(aY l bad).2.1.length) (lo:=some (.int .u64 ((aY l bad).1:Nat))) (hi:=none) hle (aaq _) (Bd.yes _ _ _) (Bd.no _);have e':((bs (aY l bad).2.1).drop ((aY l bad).1*1)).take (((aY l bad).2.1.length-(aY l bad).1)*1)=bs ((aY l bad).2.1.drop (aY l bad).1):=by rw[adV,adV,ae2 (by rw[aeG,nC];omega)];unfold bs;rw[List.map_drop]
  rw[e'] at z2;obtain⟨H',a1,a2,a3,a4⟩:=eV u3.c zzx (o:=0) zzy (v:=z) z2.one;rw[ja] at a2;refine⟨z,H',ahJ ?_,⟨a2,z2.out a3 λj hj q=>by rw[No] at q;subst q;exact u3.ne (z3 _ hj),λq=>u3.ne (z3 _ q),λb q=>u3.lt b (List.mem_of_mem_drop q),by rw[aeG];omega,λq=>by cases q⟩,u4.trans ⟨a3,z3⟩⟩;unfold XA;simp(disch:=try exact zqz)only[u1,e1,d0,w1,d1,e0,fU,w2,d2,y1,b2,z1,a1,ar,aq,zz0,simprocAttr]
end
theorem acv:∀(k n:Nat),n<2^(7*(k+1))->(ei n).length<=k+1
 |0,n,h=>by rw[JC (by simpa using h)];simp
 |k+1,n,h=>by
  by_cases hs:n<128;·rw[JC hs];simp
  ·rw[LX hs,aau];have:=acv k (n / 128) (by rw[show 7*(k+1+1)=7*(k+1)+7 by omega,Nat.pow_add] at h;exact Nat.div_lt_of_lt_mul (by rw[anH];exact h));omega
theorem nU {n:Nat}(h:n<2^64):(ei n).length<=10:=acv 9 n (ac2 h (Nat.pow_le_pow_right zzx zzx))
def ml (s:Str):Str:=ei s.length++s
theorem rB {s:Str}(h:s.length<2000000):(ml s).length<=s.length+10:=by unfold ml;rw[aah];have:=nU (n:=s.length) zzz;omega
structure Sn (t:RT):Prop where
 ph:0<=t.ph/\t.ph<=255
 tr:0<=t.tr/\t.tr<=255
 tl:0<=t.fF/\t.fF<4611686018427387904
 dt:t.iT.length<=100
def vI (t:RT):Str:=ei t.ph.toNat++(ei t.tr.toNat++(ei (2*t.fF.toNat)++ml t.iT))
theorem SD {t:RT}(h:Sn t):(vI t).length<=140:=by obtain⟨⟨a1,a2⟩,⟨b1,b2⟩,⟨c1,c2⟩,d⟩:=h;have e1:=nU (n:=t.ph.toNat) zzz;have e2:=nU (n:=t.tr.toNat) zzz;have e3:=nU (n:=2*t.fF.toNat) zzz;have e4:=rB (s:=t.iT) zzz;unfold vI;simp only[aah];omega
theorem avM (t:RT)(H:Hp):st 4 (.ptr H.next 0) (.agg (dQ t)) (al H [(zi 0),(zi 0),(zi 0),(.str [])] 132 0)=some (al H (dQ t) 132 0):=gy rfl rfl rfl zzx rfl
theorem alG {p b:Nat}{dx tx sx:AV}{R:Rn}(mK:∀t∈R.rs,Sn t)(hn:R.rs.length<=1000):∀(r:List RT) (i:Nat) (H:Hp) (x:AV) (l:Str),i<=R.rs.length->R.rs.drop i=r->RL H 4 tx (eG R.rs)->EO H p x l->(∀j∈ak tx,j≠p/\j∉ak x)->l.length+r.length*140<=15000000->
  ∃x' H',(∀jh:K.Fn 2,Un JN GO cK jh (.ptr p 0) (.ptr b 0) tx (zi (R.rs.length:Nat)) (zi (i:Nat)) H=jh (.ptr p 0) (.ptr b 0) H')/\EO H' p x' (l++(r.map vI).flatten)/\EW H H' p x x'
 |[],i,H,x,l,hi,h,ht,hE,hd,hl=>by obtain rfl:=drop_nil hi h;refine⟨x,H,λjh=>?_,by rw[aiO,List.flatten_nil,ac4];exact hE,EW.refl _ _ _⟩;rw[acC];simp only[aaI,dA,zz0,simprocAttr]
 |t::r,i,H,x,l,hi,h,ht,hE,hd,hl=>by
  obtain⟨h1,h2,h3⟩:=dU h;have es:=dD h1 zzz;have ho:=mK t (aab h2);have hk:=SD ho;obtain⟨⟨a1,a2⟩,⟨b1,b2⟩,⟨c1,c2⟩,d0⟩:=ho;rw[aau] at hl;obtain⟨m,o,q1,q2,q3,q4,q5⟩:=ht.at zzx (sU h2);have hz:=avM t H;have o1:=aD H (dQ t) 132 0;have k1:=aP H (dQ t) 132 0;have n1:(al H (dQ t) 132 0).next=H.next+1:=rfl;generalize bw:al H (dQ t) 132 0=H1 at*
  have C8:=hE.c.1;have w1:IntKind.wrap .u64 t.ph=(t.ph.toNat:Nat):=by rw[<-afJ a1,wrap_u64 zzz];omega
  have w2:IntKind.wrap .u64 t.tr=(t.tr.toNat:Nat):=by rw[<-afJ b1,wrap_u64 zzz];omega
  have w3:t.fF=(t.fF.toNat:Nat):=(afJ c1).symm;unfold vI ml at hk;simp only[aah] at hk;have e0:cellAt H1 H.next 0=some (zi t.ph):=k1.cellAt rfl;have Et:=hE.o.rw.lt;obtain⟨x1,H2,u1,u2,u3⟩:=Al (hE.au o1) (n:=t.ph.toNat) zzz zzz;have N1:H.next∉p::ak x:=λq=>(aal.1 q).elim (λe=>zzz) λq=>by have:=Et _ q;omega
  have k2:=k1.out u3.o N1;have e1:cellAt H2 H.next 1=some (zi t.tr):=k2.cellAt rfl;obtain⟨x2,H3,v1,v2,v3⟩:=Al u2 (n:=t.tr.toNat) zzz (by rw[aah];omega);have N2:H.next∉p::ak x1:=λq=>(aal.1 q).elim (λe=>zzz) λq=>(u3.w _ q).elim (λz=>by have:=Et _ z;omega) λz=>zzz;have k3:=k2.out v3.o N2;have e2:cellAt H3 H.next 2=some (zi t.fF):=k3.cellAt rfl;rw[w3] at e2;obtain⟨x3,H4,y1,y2,y3⟩:=abU v2 (n:=t.fF.toNat) zzz (by simp only[aah];omega);have l2:=u3.o.1;have N3:H.next∉p::ak x2:=λq=>(aal.1 q).elim (λe=>zzz) λq=>(v3.w _ q).elim (λz=>N2 (.tail _ z)) λz=>zzz;have k4:=k3.out y3.o N3;have e3:cellAt H4 H.next 3=some (.str t.iT):=k4.cellAt rfl;obtain⟨x4,H5,z1,z2,z3⟩:=FD y2 (s:=t.iT) zzz (by simp only[aah];omega);have W:EW H H5 p x x4:=⟨(o1.mono (S':=p::ak x) λj hj=>by cases hj).then (((u3.trans v3).trans y3).trans z3).o λj hj=>.inl hj,λj hj=>((((u3.trans v3).trans y3).trans z3).w j hj).imp id λz=>zzz⟩;have ih:=alG (b:=b) (dx:=dx) (sx:=sx) mK hn r (i+1) H5 x4 _ h1 h3 (ht.out W.o λj hj q=>(aal.1 q).elim (hd j hj).1 (hd j hj).2) z2 (λj hj=>⟨(hd j hj).1,λq=>(W.w j q).elim (hd j hj).2 λz=>by have:=ht.1.lt j hj;omega⟩) (by simp only[aah];omega);obtain⟨x',H',i1,i2,i3⟩:=ih;refine⟨x',H',λjh=>?_,?_,W.trans i3⟩;·rw[acC];simp(disch:=try exact zqz)only[aaI,aQ h1,q1,q4,hz,bw,e0,w1,u1,e1,w2,v1,e2,y1,e3,z1,es,i1,ar,aq,zz0,simprocAttr]
  ·have e:l++ei t.ph.toNat++ei t.tr.toNat++ei (2*t.fF.toNat)++(ei t.iT.length++t.iT)++(r.map vI).flatten=l++((t::r).map vI).flatten:=by rw[abo,agF];unfold vI ml;simp only[abC]
   rw[<-e];exact i2
theorem aia {p:Nat}{sx:AV}{sg:List Str}(mK:∀s∈sg,s.length<=100)(hn:sg.length<=1000):∀(r:List Str) (i:Nat) (H:Hp) (x:AV) (l:Str),i<=sg.length->sg.drop i=r->Rw H 1 sx (strs sg)->EO H p x l->(∀j∈ak sx,j≠p/\j∉ak x)->l.length+r.length*120<=15000000->
  ∃x' H',(∀uo:K.Fn 0,YC JN GO cK uo (.ptr p 0) sx (zi (sg.length:Nat)) (zi (i:Nat)) H=uo H')/\EO H' p x' (l++(r.map ml).flatten)/\EW H H' p x x'
 |[],i,H,x,l,hi,h,ht,hE,hd,hl=>by obtain rfl:=drop_nil hi h;refine⟨x,H,λuo=>?_,by rw[aiO,List.flatten_nil,ac4];exact hE,EW.refl _ _ _⟩;rw[agK];simp only[ZN,dA,zz0,simprocAttr]
 |s::r,i,H,x,l,hi,h,ht,hE,hd,hl=>by
  obtain⟨h1,h2,h3⟩:=dU h;have es:=dD h1 zzz;have ho:=mK s (aab h2);have hk:=rB (s:=s) zzz;rw[aau] at hl;obtain⟨q,q1,q2⟩:=ht.gh (i:=i) (v:=.str s) (by unfold strs;rw[acd,h2];rfl) .i64;unfold ml at hk;simp only[aah] at hk;obtain⟨x1,H1,u1,u2,u3⟩:=FD hE (s:=s) zzz zzz;obtain⟨x',H',i1,i2,i3⟩:=aia mK hn r (i+1) H1 x1 _ h1 h3 (ht.out u3.o λj hj q=>(aal.1 q).elim (hd j hj).1 (hd j hj).2) u2 (λj hj=>⟨(hd j hj).1,λq=>(u3.w j q).elim (hd j hj).2 λz=>by have:=ht.lt j hj;omega⟩) (by simp only[aah];omega);refine⟨x',H',λuo=>?_,?_,u3.trans i3⟩;·rw[agK];simp(disch:=try exact zqz)only[ZN,aQ h1,q1,q2,u1,es,i1,ar,aq,zz0,simprocAttr]
  ·rw[abo,agF,<-abC];exact i2
structure okW (R:Rn):Prop where
 st:0<=R.st/\R.st<=255
 ts:∀t∈R.rs,Sn t
 tn:R.rs.length<=100
 sg:∀s∈R.sg,s.length<=100
 sn:R.sg.length<=100
def zQ (R:Rn):Str:=ei R.st.toNat++((R.rs.map vI).flatten++(ei R.sg.length++(R.sg.map ml).flatten))
theorem yH {α:Type}{f:α->Str}{c:Nat}:∀{l:List α},(∀a∈l,(f a).length<=c)->(l.map f).flatten.length<=l.length*c
 |[],_=>zzy|a::l,h=>by rw[abo,agF,aah,aau,afB,ajR];have:=h a (.head _);have:=yH (l:=l) λb hb=>h b (.tail _ hb);omega
theorem axQ {R:Rn}(h:okW R):(zQ R).length<=26020:=by have e1:=nU (n:=R.st.toNat) (by have:=h.st;omega);have e2:=yH (f:=vI) (c:=140) (l:=R.rs) λt ht=>SD (h.ts t ht);have e3:=nU (n:=R.sg.length) (by have:=h.sn;omega);have e4:=yH (f:=ml) (c:=110) (l:=R.sg) λs hs=>afi (rB (by have:=h.sg s hs;omega)) (by have:=h.sg s hs;omega);have:=h.tn;have:=h.sn;unfold zQ;simp only[aah];omega
theorem aDM {p:Nat}{x:AV}{l:Str}{dx tx sx:AV}{R:Rn}{H:Hp}(hE:EO H p x l)(hw:okW R)(ht:RL H 4 tx (eG R.rs))(hs:Rw H 1 sx (strs R.sg))(RQ:∀j∈ak tx,j≠p/\j∉ak x)(Ga:∀j∈ak sx,j≠p/\j∉ak x)(hl:l.length<=10000000):
  ∃x' H',cK (zf 64) [.ptr p 0,.agg (rv dx R.st tx sx)] H=some (.tuple [],H')/\EO H' p x' (l++zQ R)/\EW H H' p x x':=by
 have aC:=hw.st;have htn:=hw.tn;have Nr:=hw.sn;have o1:=aD H (rv dx R.st tx sx) 75 0;have k1:=aP H (rv dx R.st tx sx) 75 0;have n1:(al H (rv dx R.st tx sx) 75 0).next=H.next+1:=rfl;have aO:bx 75 (.agg (rv dx R.st tx sx)) H=some (H.next,al H (rv dx R.st tx sx) 75 0):=iz zzy;generalize al H (rv dx R.st tx sx) 75 0=H1 at*
 have C8:=hE.c.1;have Et:=hE.o.rw.lt;have arC:=ht.1.lt;have Ye:=hs.lt;have w1:IntKind.wrap .u64 R.st=(R.st.toNat:Nat):=by rw[<-afJ aC.1,wrap_u64 zzz];omega
 have e1:cellAt H1 H.next 1=some (zi R.st):=k1.cellAt rfl;have b1:=nU (n:=R.st.toNat) zzz;obtain⟨x1,H2,u1,u2,u3⟩:=Al (hE.au o1) (n:=R.st.toNat) zzz zzz;have N1:H.next∉p::ak x:=λq=>(aal.1 q).elim (λe=>zzz) λq=>by have:=Et _ q;omega
 have k2:=k1.out u3.o N1;have e2:cellAt H2 H.next 2=some tx:=k2.cellAt rfl;have PE:=(ht.au o1).out u3.o λj hj q=>(aal.1 q).elim (RQ j hj).1 (RQ j hj).2;have om:=(hs.au o1).out u3.o λj hj q=>(aal.1 q).elim (Ga j hj).1 (Ga j hj).2;have aN:=PE.len zzx;rw[AA] at aN;have b2:=yH (f:=vI) (c:=140) (l:=R.rs) λt ht=>SD (hw.ts t ht);obtain⟨x2,H3,v1,v2,v3⟩:=alG (b:=H.next) (dx:=dx) (sx:=sx) hw.ts zzz R.rs 0 H2 x1 _ (abg _) aaM PE u2 (λj hj=>⟨(RQ j hj).1,λq=>(u3.w j q).elim (RQ j hj).2 λz=>by have:=arC j hj;omega⟩) (by simp only[aah];omega);rw[show (((0:Nat):Int))=0 from rfl] at v1;have l2:=u3.o.1;have N2:H.next∉p::ak x1:=λq=>(aal.1 q).elim (λe=>zzz) λq=>(u3.w _ q).elim (λz=>by have:=Et _ z;omega) λz=>zzz;have k3:=k2.out v3.o N2;have e3:cellAt H3 H.next 3=some sx:=k3.cellAt rfl;have qb:∀j∈ak sx,j≠p/\j∉ak x1:=λj hj=>⟨(Ga j hj).1,λq=>(u3.w j q).elim (Ga j hj).2 λz=>by have:=Ye j hj;omega⟩;have Cn:=om.out v3.o λj hj q=>(aal.1 q).elim (qb j hj).1 (qb j hj).2;have hls:=Cn.gX;rw[gQ] at hls;have w2:IntKind.wrap .u64 ((R.sg.length:Nat):Int)=(R.sg.length:Nat):=wrap_u64 zzz;have b3:=nU (n:=R.sg.length) zzz;obtain⟨x3,H4,y1,y2,y3⟩:=Al v2 (n:=R.sg.length) zzz (by simp only[aah];omega);have l3:=v3.o.1;have N3:H.next∉p::ak x2:=λq=>(aal.1 q).elim (λe=>zzz) λq=>(v3.w _ q).elim (λz=>N2 (.tail _ z)) λz=>zzz;have k4:=k3.out y3.o N3;have e4:cellAt H4 H.next 3=some sx:=k4.cellAt rfl;have vC:∀j∈ak sx,j≠p/\j∉ak x2:=λj hj=>⟨(Ga j hj).1,λq=>(v3.w j q).elim (qb j hj).2 λz=>by have:=Ye j hj;omega⟩;have Ka:=Cn.out y3.o λj hj q=>(aal.1 q).elim (vC j hj).1 (vC j hj).2;have ahy:=Ka.gX;rw[gQ] at ahy;obtain⟨x4,H5,z1,z2,z3⟩:=aia hw.sg zzz R.sg 0 H4 x3 _ (abg _) aaM Ka y2 (λj hj=>⟨(Ga j hj).1,λq=>(y3.w j q).elim (vC j hj).2 λz=>by have:=Ye j hj;omega⟩) (by simp only[aah];omega);rw[show (((0:Nat):Int))=0 from rfl] at z1;have W:=((u3.trans v3).trans y3).trans z3;refine⟨x4,H5,axB ?_,?_,⟨(o1.mono (S':=p::ak x) λj hj=>by cases hj).then W.o λj hj=>.inl hj,λj hj=>(W.w j hj).imp id λz=>zzz⟩⟩;·unfold acF;simp(disch:=try exact zqz)only[aO,e1,w1,u1,e2,aN,v1,e3,hls,w2,y1,e4,ahy,z1,ar,aq,zz0,simprocAttr]
 ·have e:l++ei R.st.toNat++(R.rs.map vI).flatten++ei R.sg.length++(R.sg.map ml).flatten=l++zQ R:=by unfold zQ;simp only[abC]
  rw[<-e];exact z2
structure Wr (Z:Hp)(N:Nat)(H:Hp)(b p:Nat)(a:SA)(S:SS)(x:AV)(l:Str):Prop where
 s:SV N H a S
 c:Cs H b (fc a S) 50 0
 e:EO H p x l
 bn:N<=b
 pb:b<p
 xb:∀j∈ak x,b<j
 z:jZ N Z H
section
variable {H:Hp}{l:Str}{x:AV}
theorem Wr.step {Z:Hp}{N b p:Nat}{H':Hp}{a:SA}{S:SS}{x':AV}{l':Str}(h:Wr Z N H b p a S x l)(k:EO H' p x' l')(w:EW H H' p x x'):Wr Z N H' b p a S x' l':=by have hp:=h.pb;have hb:=h.bn;have mN:=h.c.1;refine⟨h.s.out w.o λj hj=>(aal.1 hj).elim (λe=>zzz) λq=>by have:=h.xb j q;omega,h.c.out w.o λq=>(aal.1 q).elim (λe=>zzz) λq=>by have:=h.xb _ q;omega,k,h.bn,h.pb,λj hj=>(w.w j hj).elim (h.xb j) λz=>zzz,h.z.trans ⟨_,w.o,λj hj=>(aal.1 hj).elim (λe=>zzz) λq=>by have:=h.xb j q;omega⟩⟩
def wI (x:Str×Str):Str:=ml x.1++ml x.2
theorem adW {Z:Hp}{N b p:Nat}{a:SA}{S:SS}(hle:S.aM.length=S.nms.length)(h1:∀s∈S.nms,s.length<=100)(h2:∀s∈S.aM,s.length<=2000)(hn:S.nms.length<=1000):∀(r:List (Str×Str)) (i:Nat) (H:Hp) (x:AV) (l:Str),i<=S.nms.length->(S.nms.zip S.aM).drop i=r->Wr Z N H b p a S x l->l.length+r.length*2200<=8000000->
  ∃x' H',(∀EL:K.Fn 2,QS JN GO cK EL (.ptr b 0) (.ptr p 0) a.nx (zi (S.nms.length:Nat)) (zi (i:Nat)) H=EL (.ptr b 0) (.ptr p 0) H')/\Wr Z N H' b p a S x' (l++(r.map wI).flatten)
 |[],i,H,x,l,hi,h,hW,hl=>by
  have hz:(S.nms.zip S.aM).length=S.nms.length:=by rw[aiM,hle,ajN]
  obtain rfl:=drop_nil zzz h;refine⟨x,H,λEL=>?_,by rw[aiO,List.flatten_nil,ac4];exact hW⟩;rw[anU,hz];simp only[aaP,dA,zz0,simprocAttr]
 |y::r,i,H,x,l,hi,h,hW,hl=>by
  have hz:(S.nms.zip S.aM).length=S.nms.length:=by rw[aiM,hle,ajN]
  obtain⟨g1,g2,g3⟩:=dU h;rw[hz] at g1;have es:=dD g1 zzz;obtain⟨y1,y2⟩:=DM g2;have l1:=h1 _ (aab y1);have l2:=h2 _ (aab y2);have k1:=rB (s:=y.1) zzz;have k2:=rB (s:=y.2) zzz;rw[aau] at hl;unfold ml at k1 k2;simp only[aah] at k1 k2;obtain⟨q,q1,q2⟩:=hW.s.n.gh (i:=i) (v:=.str y.1) (mP y1) .i64;obtain⟨x1,H1,u1,u2,u3⟩:=FD hW.e (s:=y.1) zzz zzz;have W1:=hW.step u2 u3;have e2:cellAt H1 b 2=some a.tx:=W1.c.cellAt rfl;obtain⟨q',q3,q4⟩:=W1.s.t.gh (i:=i) (v:=.str y.2) (mP y2) .i64;obtain⟨x2,H2,v1,v2,v3⟩:=FD u2 (s:=y.2) zzz (by simp only[aah];omega);have W2:=W1.step v2 v3;obtain⟨x',H',i1,i2⟩:=adW hle h1 h2 hn r (i+1) H2 x2 _ g1 g3 W2 (by simp only[aah];omega);refine⟨x',H',λEL=>?_,?_⟩;·rw[anU];simp(disch:=try exact zqz)only[aaP,aQ g1,q1,q2,u1,e2,q3,q4,v1,es,i1,ar,aq,zz0,simprocAttr]
  ·have e:l++(ei y.1.length++y.1)++(ei y.2.length++y.2)++(r.map wI).flatten=l++((y::r).map wI).flatten:=by rw[abo,agF];unfold wI ml;simp only[abC]
   rw[<-e];exact i2
theorem aCG {R:Rn}{dx tx sx:AV}(hv:(rv dx R.st tx sx).all aW=true)(H:Hp):st 4 (.ptr H.next 0) (.agg (rv dx R.st tx sx)) (al H [.ah,(zi 0),.ah,.ah] 75 0)=some (al H (rv dx R.st tx sx) 75 0):=gy hv rfl rfl zzx rfl
def xd (x:Rn×Str):Str:=ml x.2++zQ x.1
theorem aoO {Z:Hp}{N b p:Nat}{a:SA}{S:SS}(hle:S.fG.length=S.rs.length)(h1:∀s∈S.fG,s.length<=100)(h2:∀R∈S.rs,okW R)(hn:S.rs.length<=1000):∀(r:List (Rn×Str)) (i:Nat) (H:Hp) (x:AV) (l:Str),i<=S.rs.length->(S.rs.zip S.fG).drop i=r->Wr Z N H b p a S x l->l.length+r.length*27000<=9000000->
  ∃x' H',(∀Ak:K.Fn 2,ZV JN GO cK Ak (.ptr b 0) (.ptr p 0) a.rx (zi (S.rs.length:Nat)) (zi (i:Nat)) H=Ak (.ptr b 0) (.ptr p 0) H')/\Wr Z N H' b p a S x' (l++(r.map xd).flatten)
 |[],i,H,x,l,hi,h,hW,hl=>by
  have hz:(S.rs.zip S.fG).length=S.rs.length:=by rw[aiM,hle,ajN]
  obtain rfl:=drop_nil zzz h;refine⟨x,H,λAk=>?_,by rw[aiO,List.flatten_nil,ac4];exact hW⟩;rw[af5,hz];simp only[Zx,dA,zz0,simprocAttr]
 |y::r,i,H,x,l,hi,h,hW,hl=>by
  have hz:(S.rs.zip S.fG).length=S.rs.length:=by rw[aiM,hle,ajN]
  obtain⟨g1,g2,g3⟩:=dU h;rw[hz] at g1;have es:=dD g1 zzz;obtain⟨y1,y2⟩:=DM g2;have hR:=h2 _ (aab y1);have l2:=h1 _ (aab y2);have k2:=rB (s:=y.2) zzz;have k3:=axQ hR;rw[aau] at hl;unfold ml at k2;simp only[aah] at k2;obtain⟨ra,Cd⟩:∃ra,a.ras[i]?=some ra:=⟨_,aai (by rw[hW.s.len];exact g1)⟩;have hv:=hW.s.v i ra y.1 Cd y1;have BW:(List.zipWith iB a.ras S.rs)[i]?=some (iB ra y.1):=by rw[adf,Cd,y1]
  obtain⟨m,o,q1,q2,q3,q4,q5⟩:=hW.s.r.at zzx BW;unfold iB at q4;have aC:=aCG (R:=y.1) (dx:=ra.dx) (tx:=ra.tx) (sx:=ra.sx) (by simp[hv.d.row.one,hv.t.one,hv.s.one,iV]) H;have o1:=aD H (rv ra.dx y.1.st ra.tx ra.sx) 75 0;have c1:=aP H (rv ra.dx y.1.st ra.tx ra.sx) 75 0;generalize bw:al H (rv ra.dx y.1.st ra.tx ra.sx) 75 0=H1 at*
  have DP:Wr Z N H1 b p a S x l:=⟨hW.s.au o1,hW.c.out o1 zzy,hW.e.au o1,hW.bn,hW.pb,hW.xb,hW.z.trans (jZ.Md o1)⟩;have e4:cellAt H1 b 4=some a.ox:=DP.c.cellAt rfl;obtain⟨q,q6,q7⟩:=DP.s.o.gh (i:=i) (v:=.str y.2) (mP y2) .i64;obtain⟨x1,H2,u1,u2,u3⟩:=FD DP.e (s:=y.2) zzz zzz;have Et:=DP.e.o.rw.lt;have C8:=hW.e.c.1;have XS:=hW.e.o.rw.lt;have c2:=c1.out u3.o λq=>(aal.1 q).elim (λe=>zzz) λq=>by have:=XS _ q;omega
  have k4:av H2 H.next 0 4=some (rv ra.dx y.1.st ra.tx ra.sx):=c2.av 4 0 zzy;have W2:=DP.step u2 u3;have vY:=W2.s.v i ra y.1 Cd y1;have iL:∀j∈ra.fp,j<N:=λj hj=>W2.s.b j (.inr (.inr (.inr (.inr (.inr (ae8.2 ⟨ra,aab Cd,hj⟩))))));have mN:=hW.bn;have hpb:=hW.pb;have ad8:∀j∈ra.fp,j≠p/\j∉ak x1:=λj hj=>⟨λe=>by have:=iL j hj;omega,λq=>by have:=W2.xb j q;have:=iL j hj;omega⟩;obtain⟨x2,H3,v1,v2,v3⟩:=aDM (dx:=ra.dx) u2 hR vY.t vY.s (λj hj=>ad8 j (aaw _ (aaG _ hj))) (λj hj=>ad8 j (aaw _ (aaw _ hj))) (by simp only[aah];omega);have W3:=W2.step v2 v3;obtain⟨x',H',i1,i2⟩:=aoO hle h1 h2 hn r (i+1) H3 x2 _ g1 g3 W3 (by simp only[aah];omega);refine⟨x',H',λAk=>?_,?_⟩;·rw[af5];simp(disch:=try exact zqz)only[Zx,aQ g1,q1,q4,aC,bw,e4,q6,q7,u1,k4,v1,es,i1,ar,aq,zz0,simprocAttr]
  ·have e:l++(ei y.2.length++y.2)++zQ y.1++(r.map xd).flatten=l++((y::r).map xd).flatten:=by rw[abo,agF];unfold xd ml;simp only[abC]
   rw[<-e];exact i2
def yM (x:Ke):Str:=ml x.1.1++(ml x.1.2++ei x.2.toNat)
theorem aqY (y:Ke)(H:Hp):st 3 (.ptr H.next 0) (.agg (cl y)) (al H [(.str []),(.str []),(zi 0)] 82 0)=some (al H (cl y) 82 0):=gy rfl rfl rfl zzx rfl
theorem agb {Z:Hp}{N b p:Nat}{a:SA}{S:SS}(h1:∀y∈S.ks,y.1.1.length<=100/\y.1.2.length<=100/\0<=y.2/\y.2<=1000)(hn:S.ks.length<=1000):∀(r:List Ke) (i:Nat) (H:Hp) (x:AV) (l:Str),i<=S.ks.length->S.ks.drop i=r->Wr Z N H b p a S x l->l.length+r.length*300<=10000000->
  ∃x' H',(∀D9:K.Fn 1,OY JN GO cK D9 (.ptr p 0) a.kx (zi (S.ks.length:Nat)) (zi (i:Nat)) H=D9 (.ptr p 0) H')/\Wr Z N H' b p a S x' (l++(r.map yM).flatten)
 |[],i,H,x,l,hi,h,hW,hl=>by obtain rfl:=drop_nil hi h;refine⟨x,H,λD9=>?_,by rw[aiO,List.flatten_nil,ac4];exact hW⟩;rw[adZ];simp only[aaU,dA,zz0,simprocAttr]
 |y::r,i,H,x,l,hi,h,hW,hl=>by
  obtain⟨g1,g2,g3⟩:=dU h;have es:=dD g1 zzz;obtain⟨a1,a2,a3,a4⟩:=h1 y (aab g2);have k1:=rB (s:=y.1.1) zzz;have k2:=rB (s:=y.1.2) zzz;have k3:=nU (n:=y.2.toNat) zzz;rw[aau] at hl;unfold ml at k1 k2;simp only[aah] at k1 k2;obtain⟨m,o,q1,q2,q3,q4,q5⟩:=hW.s.k.at (c:=cl y) zzx (by rw[acd,g2];rfl);have aC:=aqY y H;have o1:=aD H (cl y) 82 0;have c1:=aP H (cl y) 82 0;generalize bw:al H (cl y) 82 0=H1 at*
  have DP:Wr Z N H1 b p a S x l:=⟨hW.s.au o1,hW.c.out o1 zzy,hW.e.au o1,hW.bn,hW.pb,hW.xb,hW.z.trans (jZ.Md o1)⟩;have C8:=hW.e.c.1;have XS:=hW.e.o.rw.lt;have f0:cellAt H1 H.next 0=some (.str y.1.1):=c1.cellAt rfl;obtain⟨x1,H2,u1,u2,u3⟩:=FD DP.e (s:=y.1.1) zzz zzz;have N1:H.next∉p::ak x:=λq=>(aal.1 q).elim (λe=>zzz) λq=>by have:=XS _ q;omega
  have c2:=c1.out u3.o N1;have f1:cellAt H2 H.next 1=some (.str y.1.2):=c2.cellAt rfl;have l1:=c1.1;have N2:H.next∉p::ak x1:=λq=>(aal.1 q).elim (λe=>zzz) λq=>(u3.w _ q).elim (λz=>N1 (.tail _ z)) λz=>zzz;obtain⟨x2,H3,v1,v2,v3⟩:=FD u2 (s:=y.1.2) zzz (by simp only[aah];omega);have c3:=c2.out v3.o N2;have f2:cellAt H3 H.next 2=some (zi y.2):=c3.cellAt rfl;have w1:IntKind.wrap .u64 y.2=(y.2.toNat:Nat):=by rw[<-afJ a3,wrap_u64 zzz];omega
  obtain⟨x3,H4,z1,z2,z3⟩:=Al v2 (n:=y.2.toNat) zzz (by simp only[aah];omega);have W4:=((DP.step u2 u3).step v2 v3).step z2 z3;obtain⟨x',H',i1,i2⟩:=agb h1 hn r (i+1) H4 x3 _ g1 g3 W4 (by simp only[aah];omega);refine⟨x',H',λD9=>?_,?_⟩;·rw[adZ];simp(disch:=try exact zqz)only[aaU,aQ g1,q1,q4,aC,bw,f0,u1,f1,v1,f2,w1,z1,es,i1,ar,aq,zz0,simprocAttr]
  ·have e:l++(ei y.1.1.length++y.1.1)++(ei y.1.2.length++y.1.2)++ei y.2.toNat++(r.map yM).flatten=l++((y::r).map yM).flatten:=by rw[abo,agF];unfold yM ml;simp only[abC]
   rw[<-e];exact i2
theorem SZ {p:Nat}(h:EO H p x l){v i:Nat}(hi:i<4)(hl:l.length<16000000):
  ∃x' H',(∀vW:K.Fn 1,HQ JN GO cK vW (.ptr p 0) (.int .u32 (v:Nat)) (zi (i:Nat)) H=HQ JN GO cK vW (.ptr p 0) (.int .u32 (v:Nat)) (zi ((i+1:Nat):Int)) H')/\EO H' p x' (l++[v / 2^(8*i)%256])/\EW H H' p x x':=by
 obtain⟨x1,H1,H2,a1,a2,a3,a4⟩:=h.push (v / 2^(8*i)%256) zzz;have b1:=a1 H.next rfl;have d:decide (((i:Nat):Int)<4)=true:=zz3 zzz;have e0:cellAt H p 0=some x:=h.c.cellAt rfl;have o1:=aD H [.int .u8 ((v / 2^(8*i)%256:Nat):Int)] 5 0;have e1:cellAt (al H [.int .u8 ((v / 2^(8*i)%256:Nat):Int)] 5 0) p 0=some x:=(h.c.out o1 zzy).cellAt rfl;have m:IntKind.wrap .i64 (8*((i:Nat):Int))=((8*i:Nat):Int):=by rw[wrap_i64 zzz zzz];omega
 have s:sP (.int .u32 ((v:Nat):Int)) (zi ((8*i:Nat):Int))=some (.int .u32 ((v / 2^(8*i):Nat):Int)):=by have:=OK (k:=.u32) (j:=.i64) (a:=v) (b:=8*i);rw[show min (8*i) (IntKind.bits .u32)=8*i from amM (by show 8*i<=32;omega)] at this;exact this
 have w:=wrap_u8 (v / 2^(8*i));have es:IntKind.wrap .i64 (((i:Nat):Int)+1)=((i+1:Nat):Int):=by rw[wrap_i64 zzz zzz];omega
 have hs:=lG h.o.rw;refine⟨x1,H2,λvW=>?_,a3,a4⟩;rw[anI];simp(disch:=try exact zqz)only[abI,d,e0,m,s,w,b1,a2,e1,eP hs,es,ar,aq,zz0,simprocAttr]
theorem at0 {p v:Nat}(vW:K.Fn 1):HQ JN GO cK vW (.ptr p 0) (.int .u32 (v:Nat)) (zi ((4:Nat):Int)) H=vW (.ptr p 0) H:=by have d:decide (((4:Nat):Int)<4)=false:=zzx;rw[anI];simp(disch:=try exact zqz)only[abI,d,ar,aq,zz0,simprocAttr]
def Iu (v:Nat):Str:=[v / 2^(8*0)%256]++([v / 2^(8*1)%256]++([v / 2^(8*2)%256]++[v / 2^(8*3)%256]))
theorem ar3 {p:Nat}(h:EO H p x l)(v:Nat)(hl:l.length<15000000):
  ∃x' H',(∀vW:K.Fn 1,HQ JN GO cK vW (.ptr p 0) (.int .u32 (v:Nat)) (zi 0) H=vW (.ptr p 0) H')/\EO H' p x' (l++Iu v)/\EW H H' p x x':=by
 obtain⟨x1,H1,a1,b1,c1⟩:=SZ h (v:=v) (i:=0) zzz zzz;obtain⟨x2,H2,a2,b2,c2⟩:=SZ b1 (v:=v) (i:=1) zzz (by rw[aah];simp;omega);obtain⟨x3,H3,a3,b3,c3⟩:=SZ b2 (v:=v) (i:=2) zzz (by simp only[aah];simp;omega);obtain⟨x4,H4,a4,b4,c4⟩:=SZ b3 (v:=v) (i:=3) zzz (by simp only[aah];simp;omega);refine⟨x4,H4,λj=>?_,by unfold Iu;rw[<-abC,<-abC,<-abC];exact b4,((c1.trans c2).trans c3).trans c4⟩;have z:=a1 j;rw[show (((0:Nat):Int))=0 from rfl] at z;rw[z,a2 j,a3 j,a4 j];exact at0 j
end
end
theorem Y4:∀(l:List (Str×Str)) (f f':Fm),kG f l=some f'->f'.nms=f.nms++l.map (·.1)/\f'.aM=f.aM++l/\f'.ck=f.ck
 |[],f,f',h=>by cases h;simp
 |x::r,f,f',h=>by
  unfold kG at h;split at h
  ·rename_i hc;obtain⟨a,b,c⟩:=Y4 r _ _ h;have:(mY f x.1 x.2).1={f with nms:=f.nms++[x.1],aM:=f.aM++[(x.1,lr (aF x.2).1)]}:=by
    have h2:=hc.2.2;unfold mY at h2⊢;split at h2;·cases h2
    ·rename_i n1;rw[zz1 n1];split at h2;·rename_i n2;exact absurd h2 n2
     ·rename_i n2;rw[zz1 n2];split at h2;·cases h2
      ·rename_i n3;rw[zz1 n3]
   rw[this,hc.2.1] at a b c;exact⟨by rw[a];simp,by rw[b];simp,c⟩
  ·cases h
theorem aa2:∀(l:List Ke) (f f':Fm),ou f l=some f'->f'.ks=f.ks++l/\f'.nms=f.nms/\f'.aM=f.aM/\f'.aw=f.aw/\f'.ck=f.ck
 |[],f,f',h=>by cases h;simp
 |x::r,f,f',h=>by
  have h':(bif p9 f x then ou {f with ks:=f.ks++[x]} r else none)=some f':=h;cases hk:p9 f x with
  |false=>rw[hk] at h';cases h'
  |true=>
   rw[hk] at h';obtain⟨a,b,c,d,e⟩:=aa2 r _ _ h';exact⟨by rw[a];simp,b,c,d,e⟩
theorem aBJ {l:List (Str×Str)}(fN:(l.map (·.1)).Nodup){x:Str×Str}(h:x∈l):ey l x.1=some x.2:=by
 cases hg:ey l x.1 with
 |none=>exact absurd rfl (KJ hg x h)|some t=>
  obtain⟨a,b,rfl,h3⟩:=Vv hg;rcases aaQ.1 h with hx|hx;·exact absurd rfl (h3 x hx)
  ·rcases aal.1 hx with hx|hx;·rw[hx]
   ·rw[acZ,abo,aet,ajD] at fN;exact absurd (abN.2 ⟨x,hx,rfl⟩) fN.2.1.1
theorem ahU:∀(l:List (Rn×Str)) (f f':Fm),mf f l=some f'->(∀x∈l,x.1.rs.length<=1000/\x.1.sg.length<=1000)->∀x∈l,Sm x.1
 |[],f,f',h,hb,x,hx=>by cases hx
 |y::r,f,f',h,hb,x,hx=>by
  unfold mf at h;split at h
  ·rename_i hc;rcases aal.1 hx with rfl|hx;·have lP:=Ur hc.2;obtain⟨z1,z2⟩:=aci f x.2;obtain⟨b1,b2⟩:=hb x (.head _);exact⟨by rw[lP];omega,by rw[lP];exactλt ht=>by have:=z2 t ht;omega,b1,zzz⟩
   ·exact ahU r _ _ h (λz hz=>hb z (.tail _ hz)) x hx
  ·cases h
theorem aEi {S:SS}{f:Fm}(h:oY S=some f)(fN:(f.aM.map (·.1)).Nodup)(hb:∀R∈S.rs,R.rs.length<=1000/\R.sg.length<=1000):gJ f=S/\(∀x∈f.aw,Sm x.1)/\f.aw.length<=64/\f.ks.length<=128/\f.nms.length=S.nms.length:=by
 unfold oY at h;cases qY:rX S with
 |true=>rw[qY] at h;cases h
 |false=>
  rw[qY] at h;have h':((kG {qh with ck:=S.ck} (S.nms.zip S.aM)).bind λf=>(mf f (S.rs.zip S.fG)).bind λf=>ou f S.ks)=some f:=h;obtain⟨f1,h1,h'⟩:=aaC.1 h';obtain⟨f2,h2,h3⟩:=aaC.1 h';obtain⟨a1,a2,a3⟩:=Y4 _ _ _ h1;obtain⟨r1,r2⟩:=Tf _ _ _ h1;obtain⟨b1,b2,b3,b4,b5⟩:=SF _ _ _ h2;obtain⟨c1,c2,c3,c4,c5⟩:=aa2 _ _ _ h3;unfold rX at qY;simp only[ahp,ak2,zz5,decide_eq_false_iff_not] at qY;obtain⟨_,_,g3,g4,g5,g6⟩:=qY;have e1:(S.nms.zip S.aM).map (·.1)=S.nms:=by rw[List.map_fst_zip];omega
  have e2:(S.rs.zip S.fG).map (·.1)=S.rs:=by rw[List.map_fst_zip];omega
  have e3:(S.rs.zip S.fG).map (·.2)=S.fG:=by rw[List.map_snd_zip];omega
  have e4:(S.nms.zip S.aM).map (·.2)=S.aM:=by rw[List.map_snd_zip];omega
  have n1:f.nms=S.nms:=by rw[c2,b3,a1,e1];rfl
  have n2:f.aM=S.nms.zip S.aM:=by rw[c3,b4,a2];rfl
  have n3:f.aw=S.rs.zip S.fG:=by rw[c4,b2,r1];rfl
  have n4:f.ks=S.ks:=by rw[c1,b1,r2];rfl
  have n5:f.ck=S.ck:=by rw[c5,b5,a3]
  have n6:f.nms.map (iy f)=S.aM:=by
   rw[n1]
   conv=>lhs;rw[<-e1]
   conv=>rhs;rw[<-e4]
   rw[amb];refine alV λx hx=>?_;show (ey f.aM x.1).getD []=x.2;rw[aBJ fN (by rw[n2];exact hx)];rfl
  refine⟨?_,?_,by rw[n3,aiM];omega,by rw[n4];omega,by rw[n1]⟩;·unfold gJ;rw[n6,n5,n1,n3,n4,e2,e3]
  ·rw[n3];exact ahU _ _ _ h2 λx hx=>hb x.1 (am8 hx).1
theorem SV.mono {N M:Nat}{H:Hp}{a:SA}{S:SS}(h:SV N H a S)(hm:N<=M):SV M H a S:=⟨h.n,h.t,h.r,h.v,h.len,h.o,h.k,λj hj=>ac2 (h.b j hj) hm⟩
end
theorem aFs (r:Str):∀(n k v:Nat),n*2^(7*k)<2^64->(0<k->0<n)->k<=9->rC k v (ei n++r)=some ((v+n*2^(7*k))%2^64,r):=by
 intro n;induction n using Nat.strongRecOn with
 |_ n ih=>
  intro k v hn h0 hk;by_cases hs:n<128
  ·rw[JC hs,List.singleton_append,rC,zz1 zzz,zz1 zzz,zz1 ?_,ahT hs];rintro (⟨q,z⟩|⟨q,z⟩);·have:=h0 z;omega
   ·obtain rfl:k=9:=zzz;have:2*2^(7*9)<=n*2^(7*9):=adS _ z;omega
  ·have h8:k<=8:=by
    rcases alD k 9 with q|q;·omega
    ·obtain rfl:k=9:=zzz;have:2*2^(7*9)<=n*2^(7*9):=adS _ zzz;omega
   have e:2^(7*(k+1))=128*2^(7*k):=by rw[show 7*(k+1)=7*k+7 by omega,Nat.pow_add,anH]
   have hle:n / 128*2^(7*(k+1))+n%128*2^(7*k)=n*2^(7*k):=by rw[e,<-Nat.mul_assoc,<-afB];congr 1;omega
   rw[LX hs,List.cons_append,rC,zz1 zzz,zz2 zzz,ih (n / 128) zzz (k+1) _ zzz (λ_=>zzz) zzz];rw[show (n%128+128)%128=n%128 by omega];congr 2;rw[<-hle];omega
theorem G7 {n:Nat}(h:n<2^64)(r:Str):aY (ei n++r) false=(n,r,false):=by
 have:=aFs r n 0 0 (by simpa using h) (λq=>absurd q zzx) zzz;unfold aY;rw[this];have e:(0+n*2^(7*0))%2^64=n:=by rw[Nat.mul_zero,Nat.pow_zero,adV,adn];exact ahT h
 rw[e]
section
variable {e:Ev}{f:Fm}{i m:Nat}
theorem DN {n:Nat}(h:n<=m)(h2:n<=2147483647)(r:Str):eS (ei n++r) false m=(n,r,false):=by
 unfold eS;rw[G7 zzz];rw[zz1];rintro (q|q|q);·cases q
 ·exact absurd q (by show ¬m<n;omega)
 ·exact absurd q (by show ¬2147483647<n;omega)
theorem E9 {s:Str}(h:s.length<=m)(h2:s.length<2^64)(r:Str):gp (ml s++r) false m=(s,r,false):=by
 unfold gp ml;rw[abC,G7 h2];rw[zz1];·show ((s++r).take s.length,(s++r).drop s.length,false)=_;rw[List.take_left,List.drop_left]
 ·rintro (q|q|q);·cases q
  ·exact absurd q (by show ¬m<s.length;omega)
  ·exact absurd q (by show ¬(s++r).length<s.length;rw[aah];omega)
def rN {α:Type}(f:Str×Bool->α×Str×Bool):Nat->Str×Bool->List α×Str×Bool
 |0,s=>([],s)|n+1,s=>((f s).1::(rN f n (f s).2).1,(rN f n (f s).2).2)
theorem II {α:Type}(f:Str×Bool->α×Str×Bool):∀(n:Nat) (s:Str×Bool),(rN f n s).1.length=n
 |0,_=>rfl|n+1,s=>by show (rN f n (f s).2).1.length+1=_;rw[II f n]
theorem Jn {α:Type}{f:Str×Bool->α×Str×Bool}{g:α->Str}:∀(l:List α) (r:Str),(∀a∈l,∀r,f (g a++r,false)=(a,r,false))->rN f l.length ((l.map g).flatten++r,false)=(l,r,false)
 |[],r,_=>rfl|a::l,r,h=>by show ((f _).1::(rN f l.length (f _).2).1,(rN f l.length (f _).2).2)=_;rw[abo,agF,abC,h a (.head _),Jn l r λb hb=>h b (.tail _ hb)]
theorem I1 (l:Str)(b:Bool)(m:Nat):(eS l b m).1<=m:=by
 unfold eS;split;·exact abg _
 ·rename_i h;exact Nat.le_of_not_lt λq=>h (.inr (.inl q))
noncomputable def rT (s:Str×Bool):RT×Str×Bool:=
 let a:=eS s.1 s.2 255;let b:=eS a.2.1 a.2.2 255;let c:=aY b.2.1 b.2.2;let d:=gp c.2.1 c.2.2 64
 (⟨(a.1:Nat),(b.1:Nat),gu c.1,d.1⟩,d.2)
noncomputable def getM (D:List Tk)(s:Str×Bool):Rn×Str×Bool:=
 let a:=eS s.1 s.2 255;let t:=rN rT D.length a.2;let c:=eS t.2.1 t.2.2 16;let g:=rN (λs=>gp s.1 s.2 16) c.1 c.2
 (⟨D,(a.1:Nat),t.1,g.1⟩,g.2)
def Bh (l:List (Str×Str))(s:Str):Str:=(ey l s).getD []
def rD (s:Str×Bool):(Str×Str)×Str×Bool:=
 let a:=gp s.1 s.2 16;let b:=gp a.2.1 a.2.2 1024
 ((a.1,b.1),b.2)
noncomputable def rQ (l:List (Str×Str))(s:Str×Bool):(Rn×Str)×Str×Bool:=
 let a:=gp s.1 s.2 16;let g:=getM (aF (Bh l a.1)).1 a.2
 ((g.1,a.1),g.2)
def rY (s:Str×Bool):Ke×Str×Bool:=
 let a:=gp s.1 s.2 16;let b:=gp a.2.1 a.2.2 16;let c:=eS b.2.1 b.2.2 64
 (((a.1,b.1),((c.1:Nat):Int)),c.2)
noncomputable def wU (s:Str×Bool):SS×Str×Bool:=
 let c:=aY s.1 s.2;let n:=eS c.2.1 c.2.2 16;let d:=rN rD n.1 n.2;let m:=eS d.2.1 d.2.2 64;let q:=rN (rQ d.1) m.1 m.2;let k:=eS q.2.1 q.2.2 128;let y:=rN rY k.1 k.2
 (⟨gu c.1,d.1.map (·.1),d.1.map (·.2),q.1.map (·.1),q.1.map (·.2),y.1⟩,y.2)
def Ao (f:Fm):Str:=ei (2*f.ck.toNat)++(ei f.nms.length++(((f.nms.zip (f.nms.map (iy f))).map wI).flatten++(ei f.aw.length++((f.aw.map xd).flatten++(ei f.ks.length++(f.ks.map yM).flatten)))))
def uD (f:Fm)(off:Nat):Str:=ei (2*off)++Ao f
def nc (f:Fm)(off:Nat):Str:=uD f off++Iu (RE (uD f off))
theorem auL {t:RT}(h:Sn t)(hd:t.iT.length<=64)(r:Str):rT (vI t++r,false)=(t,r,false):=by obtain⟨⟨a1,a2⟩,⟨b1,b2⟩,⟨c1,c2⟩,d⟩:=h;unfold rT vI;simp only[abC];rw[DN zzz zzz];simp only;rw[DN zzz zzz];simp only;rw[G7 zzz];simp only;rw[E9 hd zzz,UL zzz];simp only[afJ a1,afJ b1,afJ c1]
structure Pu (R:Rn):Prop where
 w:okW R
 d:∀t∈R.rs,t.iT.length<=64
 len:R.rs.length=R.ts.length
 n:R.rs.length<=16
 sn:R.sg.length<=16
 sg:∀s∈R.sg,s.length<=16
theorem aGR {R:Rn}(h:Pu R)(r:Str):getM R.ts (zQ R++r,false)=(R,r,false):=by have hs:=h.w.st;have hn:=h.sn;unfold getM zQ;simp only[abC];rw[DN zzz zzz];simp only;rw[<-h.len,Jn R.rs _ λt ht r=>auL (h.w.ts t ht) (h.d t ht) r];simp only;rw[DN zzz zzz];simp only;rw[Jn (f:=λs:Str×Bool=>gp s.1 s.2 16) R.sg _ λs hs r=>E9 (h.sg s hs) (by have:=h.sg s hs;omega) r];simp only[afJ hs.1]
theorem aEt {x:Str×Str}(h1:x.1.length<=16)(h2:x.2.length<=1024)(r:Str):rD (wI x++r,false)=(x,r,false):=by unfold rD wI;rw[abC,E9 h1 zzz];simp only;rw[E9 h2 zzz]
theorem ayt {l:List (Str×Str)}{x:Rn×Str}(h:Pu x.1)(h1:x.2.length<=16)(hp:(aF (Bh l x.2)).1=x.1.ts)(r:Str):rQ l (xd x++r,false)=(x,r,false):=by unfold rQ xd;rw[abC,E9 h1 zzz];simp only;rw[hp,aGR h]
theorem apI {x:Ke}(h1:x.1.1.length<=16)(h2:x.1.2.length<=16)(h3:0<=x.2)(h4:x.2<=64)(r:Str):rY (yM x++r,false)=(x,r,false):=by unfold rY yM;rw[abC,E9 h1 zzz];simp only;rw[abC,E9 h2 zzz];simp only;rw[DN zzz zzz];simp only[afJ h3]
def bB (s:Str):Prop:=∀c∈s,c<256
def DB (R:Rn):Prop:=∀r∈R.rs,bB r.iT
structure FB (f:Fm):Prop where
 r:∀x∈f.aw,DB x.1
 k:∀x∈f.ks,bB x.1.2
theorem fb0:FB qh:=⟨λx hx=>(by cases hx),λx hx=>(by cases hx)⟩
theorem xH:DB tA:=λr hr=>by cases hr
theorem SC {R:Rn}(h:DB R){u:RT}(hu:bB u.iT):∀r∈R.rs.set i u,bB r.iT:=λr hr=>(mem_set hr).elim (h r) λq=>q▸hu
theorem abn {R:Rn}(h:DB R):DB (jx R):=by
 intro r hr;obtain⟨i,hi⟩:=ab2 hr;have hz:(List.zipWith (lB R.rs R.sg) R.ts R.rs)[i]?=some r:=hi;rw[adf] at hz;cases ht:R.ts[i]? with
 |none=>rw[ht] at hz;cases hz
 |some t=>
  cases hq:R.rs[i]? with
  |none=>rw[ht,hq] at hz;cases hz
  |some q=>
   rw[ht,hq] at hz;obtain rfl:=ab0 hz;have:=h q (aab hq);unfold lB;split<;>exact this
theorem acJ {R:Rn}(h:DB R){t:RT}(ht:R.rs[i]?=some t)(d:Tk)(now:Int):DB (nu R i t d now):=by have hu:bB t.iT:=h t (aab ht);unfold nu;split<;>exact SC h hu
theorem asb {R:Rn}(h:DB R)(i:Nat)(now:Int):DB (lR now R i):=by
 unfold lR;split
 ·rename_i t d ht hd;have hu:bB t.iT:=h t (aab ht);split;·exact h
  ·split;·exact acJ h ht d now
   ·split;·exact SC h hu
    ·exact h
 ·exact h
theorem amu (now:Int):∀(m i:Nat) (R:Rn),DB R->DB (zt now m i R)
 |0,i,R,h=>h|m+1,i,R,h=>amu now m (i+1) _ (asb h i now)
theorem awy {R:Rn}(h:DB R)(he:bB e.dt)(ck:Int):DB (nW R e ck).1:=by
 unfold nW;split
 ·unfold qj;split
  ·split
   ·rename_i t d ht hd;split
    ·split;·exact SC h (h t (aab ht))
     ·exact xH
    ·exact xH
   ·exact xH
  ·exact xH
 ·split
  ·unfold rU;split;·exact abn (SC h he)
   ·exact xH
  ·split
   ·unfold zZ;split
    ·split;·rename_i t d ht hd;exact acJ h ht d ck
     ·exact xH
    ·exact xH
   ·split
    ·unfold vi;split;·exact xH
     ·split;·exact xH
      ·split;·exact abn (R:={R with sg:=R.sg++[e.nm]}) h
       ·exact xH
    ·unfold yV;split;·exact xH
     ·exact h
theorem aCq (ts:List Tk):DB (bh ts).1:=by
 unfold bh;split;·refine abn λr hr=>?_;obtain⟨_,rfl⟩:=List.mem_replicate.1 hr;intro c hc;cases hc
 ·exact xH
theorem aeY (h:FB f)(h1:bB e.dt)(h2:bB e.ky):FB (yU f e).1:=by
 unfold yU;split
 ·split
  ·unfold mY;split;·exact h
   ·split;·exact h
    ·split;·exact h
     ·exact⟨h.r,h.k⟩
  ·split
   ·unfold GZ;split;·exact h
    ·split;·exact h
     ·split;·exact h
      ·split;·exact h
       ·split;·exact h
        ·refine⟨λx hx=>?_,λx hx=>?_⟩
         ·rcases aaQ.1 hx with q|q;·exact h.r x q
          ·rw[No] at q;subst q;exact aCq _
         ·have wu:x∈(if e.ky=[] then f.ks else f.ks++[((e.nm,e.ky),e.rn)]):=hx;split at wu;·exact h.k x wu
          ·rcases aaQ.1 wu with q|q;·exact h.k x q
           ·rw[No] at q;subst q;exact h2
   ·split
    ·unfold GQ;split;·exact h
     ·refine⟨λx hx=>?_,h.k⟩;obtain⟨y,hy,rfl⟩:=abN.1 hx;exact amu _ _ _ _ (h.r y hy)
    ·split;·exact h
     ·split;·exact h
      ·unfold FG;split;·exact h
       ·rename_i x hx;split
        ·refine⟨λy hy=>?_,h.k⟩;rcases adT hy with q|q;·exact h.r y q
         ·subst q;exact awy (h.r x (aab hx)) h1 _
        ·exact h
 ·exact h
structure okM (f:Fm):Prop where
 nm:∀s∈f.nms,s.length<=16/\bB s/\(iy f s).length<=1024/\bB (iy f s)
 rn:∀x∈f.aw,Pu x.1/\x.2∈f.nms/\(aF (iy f x.2)).1=x.1.ts/\DB x.1/\∀s∈x.1.sg,bB s
 ks:∀y∈f.ks,y.1.1∈f.nms/\y.1.2.length<=16/\bB y.1.2/\0<=y.2/\y.2<=64
 nn:f.nms.length<=16
 nr:f.aw.length<=64
 nk:f.ks.length<=128
 ck:0<=f.ck/\f.ck<=1099511627776
 sm:∀x∈f.aw,Sm x.1
theorem aim {s:Str}(h:ui s=true):s.length<=16/\bB s:=⟨(Ti h).2.1,λc hc=>(QD c ((Ti h).2.2 c hc)).2.2.2.2⟩
theorem Tg {t:Str}(h:(aF t).2=0):bB (lr (aF t).1)/\t.length<=1024/\∀k∈(aF t).1,k.on.length<=16/\bB k.on:=by
 obtain⟨g1,hF,_,_,_,g6,_⟩:=Qi h;refine⟨λz hz=>?_,g6,λk hk=>?_⟩
 ·unfold lr at hz;rw[zz2 g1] at hz;rcases QL hz with rfl|⟨s,hs,hb⟩;·decide
  ·obtain⟨t,ht,rfl⟩:=abN.1 hs;exact (ZQ hF ht z hb).2
 ·rcases hF.on k hk with q|⟨q1,q2⟩;·rw[q];exact⟨zzy,λc hc=>by cases hc⟩
  ·exact⟨q1,λc hc=>(QD c (q2 c hc)).2.2.2.2⟩
theorem TM {s t:Str}(h:ey f.aM s=some t):iy f s=t:=by unfold iy;rw[h];rfl
theorem Ml (h:FI f)(hb:FB f):okM f:=by
 have rR:∀{s t:Str},ey f.aM s=some t->s∈f.nms:=λhs=>by rw[<-h.nt];exact abN.2 ⟨_,Fi hs,rfl⟩
 refine⟨λs hs=>?_,λx hx=>?_,λy hy=>?_,h.nn,h.nr,by have:=h.nk;have:=h.nr;omega,h.ck,λx hx=>(h.run x hx).1.i0.ok.sm⟩;·rw[<-h.nt] at hs;obtain⟨x,hx,rfl⟩:=abN.1 hs;obtain⟨a,b,c⟩:=h.tx x hx;obtain⟨u,v⟩:=aim a;obtain⟨w1,w2,_⟩:=Tg b;rw[TM (ZB (by rw[h.nt];exact h.nd) hx)];exact⟨u,v,w2,by rw[c] at w1;exact w1⟩
 ·obtain⟨hr,t,ht,hp⟩:=h.run x hx;obtain⟨a,b,c⟩:=h.tx _ (Fi ht);have sw:=(Tg b).2.2;have rM:∀s∈x.1.sg,s.length<=16/\bB s:=λs hs=>by obtain⟨_,k,hk,rfl⟩:=hr.sk s hs;exact sw k (by rw[hp];exact hk)
  have n2:=hr.i0.n2;have g:=hr.sg;have st:=hr.st;have bd:=hr.i0.bd.t;have tr:∀r∈x.1.rs,0<=r.tr/\r.tr<=255:=λr dH=>by obtain⟨i,hi⟩:=ab2 dH;have aX:=(aac.1 hi).1;have ht:x.1.ts[i]?=some (x.1.ts[i]'(by rw[<-hr.i0.ok.len];exact aX)):=aai _;have u:=hr.i0.tr i _ r ht hi;have v:=hr.i0.td _ (aab ht);omega
  refine⟨⟨⟨zzz,λr dH=>?_,zzz,λs hs=>by have:=(rM s hs).1;omega,zzz⟩,λr dH=>(hr.ti r dH).dt,hr.i0.ok.len,n2,g,λs hs=>(rM s hs).1⟩,rR ht,by rw[TM ht];exact hp,hb.r x hx,λs hs=>(rM s hs).2⟩;have ti:=hr.ti r dH;exact⟨by have:=ti.ph;omega,tr r dH,by have:=ti.tl;omega,by have:=ti.dt;omega⟩
 ·obtain⟨a,b,⟨z,c1,c2⟩,d,e⟩:=h.kk y hy;have:=h.nr;obtain⟨_,t,ht,_⟩:=h.run z (aab c1);exact⟨by rw[<-c2];exact rR ht,e,hb.k y hy,zzz,zzz⟩
theorem ak1:∀(l:List (Str×Str)) (f f':Fm),kG f l=some f'->∀x∈l,ui x.1=true/\(aF x.2).2=0/\lr (aF x.2).1=x.2
 |[],f,f',h,x,hx=>by cases hx
 |y::r,f,f',h,x,hx=>by
  unfold kG at h;split at h
  ·rename_i hc;rcases aal.1 hx with rfl|hx
   ·refine⟨hc.1,?_,hc.2.1⟩;have h2:=hc.2.2;unfold mY at h2;split at h2;·cases h2
    ·split at h2;·rename_i n2;exact absurd h2 n2
     ·rename_i n2;exact ai8.1 n2
   ·exact ak1 r _ _ h x hx
  ·cases h
theorem akB:∀(l:List (Rn×Str)) (f f':Fm),mf f l=some f'->∀x∈l,∃t,ey f.aM x.2=some t/\wB x.1 (aF t).1=true
 |[],f,f',h,x,hx=>by cases hx
 |y::r,f,f',h,x,hx=>by
  unfold mf at h;split at h
  ·rename_i hc;rcases aal.1 hx with rfl|hx;·obtain⟨t,ht⟩:=aiN.1 hc.1;refine⟨t,ht,?_⟩;have:=hc.2;unfold tT at this;rw[ht] at this;exact this
   ·exact akB r _ _ h x hx
  ·cases h
theorem aez:∀(l:List Ke) (f f':Fm),ou f l=some f'->∀y∈l,1<=y.2/\y.2<=(f.aw.length:Int)/\y.1.2.length<=16/\∃x∈f.aw,x.2=y.1.1
 |[],f,f',h,x,hx=>by cases hx
 |z::r,f,f',h,y,hy=>by
  have h':(bif p9 f z then ou {f with ks:=f.ks++[z]} r else none)=some f':=h;cases hk:p9 f z with
  |false=>rw[hk] at h';cases h'
  |true=>
   rw[hk] at h';rcases aal.1 hy with rfl|hy
   ·unfold p9 at hk;simp only[aam,zz5] at hk;obtain⟨a,b,c,d,e,_⟩:=hk;refine⟨a,b,e,?_⟩;cases hq:f.aw[(y.2-1).toNat]? with
    |none=>rw[hq] at c;simp at c|some x=>
     rw[hq] at c;exact⟨x,aab hq,by simpa using c⟩
   ·exact aez r _ _ h' y hy
theorem ard {S:SS}(h:oY S=some f)(fN:(f.aM.map (·.1)).Nodup)(hb:∀R∈S.rs,R.rs.length<=16/\R.sg.length<=16/\DB R)(hn:S.nms.length<=16)(hk:∀y∈S.ks,bB y.1.2):okM f:=by
 obtain⟨p1,p2,p3,p4,p5⟩:=aEi h fN λR hR=>by have:=hb R hR;omega
 unfold oY at h;cases qY:rX S with
 |true=>rw[qY] at h;cases h
 |false=>
  rw[qY] at h;have h':((kG {qh with ck:=S.ck} (S.nms.zip S.aM)).bind λf=>(mf f (S.rs.zip S.fG)).bind λf=>ou f S.ks)=some f:=h;obtain⟨f1,h1,h'⟩:=aaC.1 h';obtain⟨f2,h2,h3⟩:=aaC.1 h';obtain⟨a1,a2,a3⟩:=Y4 _ _ _ h1;obtain⟨r1,r2⟩:=Tf _ _ _ h1;obtain⟨b1,b2,b3,b4,b5⟩:=SF _ _ _ h2;obtain⟨c1,c2,c3,c4,c5⟩:=aa2 _ _ _ h3;unfold rX at qY;simp only[ahp,ak2,zz5,decide_eq_false_iff_not] at qY;obtain⟨g1,g2,g3,g4,g5,g6⟩:=qY;have n1:f.nms=(S.nms.zip S.aM).map (·.1):=by rw[c2,b3,a1];rfl
  have n2:f.aM=S.nms.zip S.aM:=by rw[c3,b4,a2];rfl
  have n3:f.aw=S.rs.zip S.fG:=by rw[c4,b2,r1];rfl
  have n4:f.ks=S.ks:=by rw[c1,b1,r2];rfl
  have n5:f.ck=S.ck:=by rw[c5,b5,a3]
  have t1:f1.aM=f.aM:=by rw[c3,b4]
  have hT:=ak1 _ _ _ h1;have rR:∀{s t:Str},ey f.aM s=some t->s∈f.nms:=λhs=>by rw[n1,<-n2];exact abN.2 ⟨_,Fi hs,rfl⟩
  have iU:∀x∈f.aw,∃t,ey f.aM x.2=some t/\wB x.1 (aF t).1=true:=λx hx=>by rw[n3] at hx;rw[<-t1];exact akB _ _ _ h2 x hx
  refine⟨λs hs=>?_,λx hx=>?_,λy hy=>?_,zzz,p3,p4,by rw[n5];omega,p2⟩;·rw[n1,<-n2] at hs;obtain⟨x,hx,rfl⟩:=abN.1 hs;obtain⟨a,b,c⟩:=hT x (by rw[<-n2];exact hx);obtain⟨u,v⟩:=aim a;obtain⟨w1,w2,_⟩:=Tg b;rw[TM (ZB fN hx)];exact⟨u,v,w2,by rw[c] at w1;exact w1⟩
  ·obtain⟨t,ht,hm⟩:=iU x hx;obtain⟨a,b,c⟩:=hT _ (by rw[<-n2];exact Fi ht);have lP:=Ur hm;unfold wB at hm;simp only[aam,zz5] at hm;obtain⟨m1,m2,m3,m4,m5,m6⟩:=hm;unfold np at m2;simp only[aam,zz5] at m2;have wu:=hx;rw[n3] at wu;obtain⟨u1,u2,u3⟩:=hb x.1 (am8 wu).1;have hg:=IA b;have sw:=(Tg b).2.2;have rM:∀s∈x.1.sg,s.length<=16/\bB s:=λs hs=>by
    obtain⟨i,hi⟩:=ab2 hs;have aX:=(aac.1 hi).1;have:=adP.1 m6 (uy (aF t).1 x.1.sg s i) (aab (i:=i) (by rw[adf,hi,List.getElem?_range aX]));unfold uy at this;simp only[id_eq,aam,List.any_eq_true] at this;obtain⟨_,_,k,hk,q⟩:=this;have q':k.on=s:=by simpa using q
    rw[<-q'];exact sw k hk
   refine⟨⟨⟨zzz,λr hr=>?_,zzz,λs hs=>by have:=(rM s hs).1;omega,zzz⟩,λr hr=>?_,by rw[lP];exact m3,u1,u2,λs hs=>(rM s hs).1⟩,rR ht,by rw[TM ht];exact lP.symm,u3,λs hs=>(rM s hs).2⟩
   all_goals
    obtain⟨i,hi⟩:=ab2 hr;have aX:=(aac.1 hi).1;have hk:(aF t).1[i]?=some ((aF t).1[i]'(by rw[<-m3];exact aX)):=aai _;have q:=adP.1 m5 (Ag ((aF t).1[i]'(by rw[<-m3];exact aX)) r) (aab (i:=i) (by rw[adf,hi,hk]));unfold Ag np at q;simp only[id_eq,aam,zz5,akk,decide_eq_false_iff_not] at q;obtain⟨q1,q2,q3,q4,q5,_⟩:=q;have o3:=(hg.2.2.2.2.2 _ (aab hk)).2;unfold uL at o3;simp only[ahp,ak2,aam,zz5] at o3
    first|omega|exact⟨zzz,zzz,zzz,zzz⟩
  ·obtain⟨a,b,c,x,hx,hy2⟩:=aez _ _ _ h3 y (by rw[<-n4];exact hy);have e:f2.aw=f.aw:=c4.symm;rw[e] at b hx;obtain⟨t,ht,_⟩:=iU x hx;exact⟨by rw[<-hy2];exact rR ht,c,hk y (by rw[<-n4];exact hy),zzz,zzz⟩
theorem xI:∀n:Nat,bB (ei n):=by
 intro n;induction n using Nat.strongRecOn with
 |_ n ih=>
  by_cases hs:n<128;·rw[JC hs];intro c hc;rw[No] at hc;omega
  ·rw[LX hs];intro c hc;rcases aal.1 hc with rfl|q;·omega
   ·exact ih (n / 128) zzz c q
theorem pV {a b:Str}(h:bB a)(k:bB b):bB (a++b):=λc hc=>(aaQ.1 hc).elim (h c) (k c)
theorem Nu {α:Type}{g:α->Str}{l:List α}(h:∀a∈l,bB (g a)):bB (l.map g).flatten:=λc hc=>by obtain⟨m,hm,hc⟩:=ah8.1 hc;obtain⟨a,ha,rfl⟩:=abN.1 hm;exact h a ha c hc
theorem Fc {s:Str}(h:bB s):bB (ml s):=pV (xI _) h
theorem ayo (h:okM f):bB (Ao f):=by
 refine pV (xI _) (pV (xI _) (pV (Nu λx hx=>?_) (pV (xI _) (pV (Nu λx hx=>?_) (pV (xI _) (Nu λx hx=>?_))))));·obtain⟨i,hi⟩:=ab2 hx;obtain⟨a,b⟩:=DM hi;rw[acd,aag] at b;obtain⟨s,hs,e⟩:=b;rw[a] at hs;cases hs;obtain⟨_,q1,_,q2⟩:=h.nm x.1 (aab a);exact pV (Fc q1) (by rw[<-e];exact Fc q2)
 ·obtain⟨_,a,_,c,d⟩:=h.rn x hx;exact pV (Fc (h.nm _ a).2.1) (pV (xI _) (pV (Nu λt ht=>pV (xI _) (pV (xI _) (pV (xI _) (Fc (c t ht))))) (pV (xI _) (Nu λs hs=>Fc (d s hs)))))
 ·obtain⟨a,_,b,_⟩:=h.ks x hx;exact pV (Fc (h.nm _ a).2.1) (pV (Fc b) (xI _))
theorem afP (h:okM f)(off:Nat):bB (uD f off):=pV (xI _) (ayo h)
theorem agW {R:Rn}(h:Pu R):(zQ R).length<=4100:=by have e1:=nU (n:=R.st.toNat) (by have:=h.w.st;omega);have e2:=yH (f:=vI) (c:=140) (l:=R.rs) λt ht=>SD (h.w.ts t ht);have e3:=nU (n:=R.sg.length) (by have:=h.sn;omega);have e4:=yH (f:=ml) (c:=26) (l:=R.sg) λs hs=>afi (rB (by have:=h.sg s hs;omega)) (by have:=h.sg s hs;omega);have:=h.n;have:=h.sn;unfold zQ;simp only[aah];omega
theorem aA4 (h:okM f):(Ao f).length<=400000:=by
 have ck:=h.ck;have n1:=h.nn;have n2:=h.nr;have n3:=h.nk;have a1:=nU (n:=2*f.ck.toNat) zzz;have a2:=nU (n:=f.nms.length) zzz;have a3:=nU (n:=f.aw.length) zzz;have a4:=nU (n:=f.ks.length) zzz;have b1:=yH (f:=wI) (c:=1060) (l:=f.nms.zip (f.nms.map (iy f))) λx hx=>by obtain⟨i,hi⟩:=ab2 hx;obtain⟨a,b⟩:=DM hi;rw[acd,aag] at b;obtain⟨s,hs,e⟩:=b;rw[a] at hs;cases hs;obtain⟨q1,_,q2,_⟩:=h.nm x.1 (aab a);rw[e] at q2;have u1:=rB (s:=x.1) zzz;have u2:=rB (s:=x.2) zzz;unfold wI;rw[aah];omega
 rw[aiM,abF,ajN] at b1;have b2:=yH (f:=xd) (c:=4200) (l:=f.aw) λx hx=>by obtain⟨a,b,_⟩:=h.rn x hx;have u1:=rB (s:=x.2) (by have:=(h.nm _ b).1;omega);have u2:=agW a;have:=(h.nm _ b).1;unfold xd;rw[aah];omega
 have b3:=yH (f:=yM) (c:=70) (l:=f.ks) λy hy=>by obtain⟨a,b,_,c,d⟩:=h.ks y hy;have u0:=(h.nm _ a).1;have u1:=rB (s:=y.1.1) zzz;have u2:=rB (s:=y.1.2) zzz;have u3:=nU (n:=y.2.toNat) zzz;unfold yM;simp only[aah];omega
 unfold Ao;simp only[aah];omega
theorem anK (h:okM f){off:Nat}(ho:off<2^62):(uD f off).length<=400010:=by have:=aA4 h;have:=nU (n:=2*off) zzz;unfold uD;rw[aah];omega
theorem ahX (g:Str->Str):∀(l:List Str) (s:Str),s∈l->Bh (l.zip (l.map g)) s=g s
 |a::l,s,h=>by
  unfold Bh ey;rw[abo,aml,List.find?_cons];by_cases q:a=s;·subst q;simp
  ·have e:(a==s)=false:=by simpa using q
   rw[e];exact ahX g l s ((aal.1 h).elim (λz=>absurd z.symm q) id)
theorem Y3 (h:okM f)(X:Str):wU (Ao f++X,false)=(gJ f,X,false):=by
 have ck:=h.ck;have n1:=h.nn;have n2:=h.nr;have n3:=h.nk;have hz:(f.nms.zip (f.nms.map (iy f))).length=f.nms.length:=by rw[aiM,abF,ajN]
 unfold wU Ao;simp only[abC];rw[G7 zzz];simp only;rw[DN zzz zzz];simp only;have s1:=λr=>Jn (f:=rD) (g:=wI) (f.nms.zip (f.nms.map (iy f))) r λx hx r=>by obtain⟨i,hi⟩:=ab2 hx;obtain⟨a,b⟩:=DM hi;rw[acd,aag] at b;obtain⟨s,hs,e⟩:=b;rw[a] at hs;cases hs;obtain⟨q1,_,q2,_⟩:=h.nm x.1 (aab a);exact aEt q1 (by rw[<-e];exact q2) r
 rw[hz] at s1;rw[s1];simp only;rw[DN zzz zzz];simp only;rw[Jn (f:=rQ (f.nms.zip (f.nms.map (iy f)))) (g:=xd) f.aw _ λx hx r=>by obtain⟨a,b,c,_⟩:=h.rn x hx;exact ayt a (h.nm _ b).1 (by rw[ahX _ _ _ b];exact c) r];simp only;rw[DN zzz zzz];simp only;rw[Jn (f:=rY) (g:=yM) f.ks _ λy hy r=>by obtain⟨a,b,_,c,d⟩:=h.ks y hy;exact apI (h.nm _ a).1 b c d r];have e1:(f.nms.zip (f.nms.map (iy f))).map (·.1)=f.nms:=List.map_fst_zip (by rw[abF];exact aaq _);have e2:(f.nms.zip (f.nms.map (iy f))).map (·.2)=f.nms.map (iy f):=List.map_snd_zip (by rw[abF];exact aaq _);simp only[e1,e2,UL (n:=f.ck.toNat) zzz,afJ ck.1];rfl
end
theorem VX (v:Nat):(Iu v).length=4:=rfl
theorem azK (v:Nat):bB (Iu v):=λc hc=>by unfold Iu at hc;simp only[aaQ,No] at hc;rcases hc with rfl|rfl|rfl|rfl<;>exact ama _ zzx
theorem EC {f:Fm}(h:okM f)(off:Nat):bB (nc f off):=pV (afP h off) (azK _)
theorem MF {H:Hp}{p:Nat}{a:FA}{f:Fm}(h:FL H p a f)(hm:okM f){off:Nat}(ho:off<=17592186044415):
  ∃x H',cK (zf 26) [.ptr p 0,zi (off:Nat)] H=some (x,H')/\Ow H' 5 1 x (bs (nc f off))/\Out [] H H'/\∀j∈ak x,H.next<=j:=by
 have ck:=hm.ck;have q1:=hm.nn;have q2:=hm.nr;have q3:=hm.nk;obtain⟨sa,q,H1,s1,s2,s3⟩:=apR h zzz zzz zzz hm.sm;have n1:=s3.1;have S1:=s2.sv;have o2:=aD H1 (fc sa (gJ f)) 50 0;have c2:=aP H1 (fc sa (gJ f)) 50 0;have m2:(al H1 (fc sa (gJ f)) 50 0).next=H1.next+1:=rfl;have aC:st 6 (.ptr H1.next 0) (.agg (fc sa (gJ f))) (al H1 [(zi 0),.ah,.ah,.ah,.ah,.ah] 50 0)=some (al H1 (fc sa (gJ f)) 50 0):=gy (by simp[fc,S1.n.one,S1.t.one,S1.r.one,S1.o.one,S1.k.one,iV]) rfl rfl zzx rfl;generalize bF:al H1 (fc sa (gJ f)) 50 0=H2 at*
 have o3:=aD H2 [.ah] 115 0;have c3:=aP H2 [.ah] 115 0;generalize jg:al H2 [.ah] 115 0=H3 at*
 have W3:Wr H1 H1.next H3 H1.next H2.next sa (gJ f) .ah []:=⟨S1.au (o2.trans o3),c2.out o3 zzy,⟨c3,.nil,by simp[ak]⟩,aaq _,zzz,λj hj=>by simp[ak] at hj,jZ.Md (o2.trans o3)⟩;have u1:=nU (n:=2*off) zzz;have u2:=nU (n:=2*f.ck.toNat) zzz;have u3:=nU (n:=f.nms.length) zzz;have u4:=nU (n:=f.aw.length) zzz;have u5:=nU (n:=f.ks.length) zzz;obtain⟨x4,H4,a1,a2,a3⟩:=abU W3.e (n:=off) zzz (by simp;omega);have W4:=W3.step a2 a3;have e4:cellAt H4 H1.next 0=some (zi ((f.ck.toNat:Nat):Int)):=by rw[afJ ck.1];exact W4.c.cellAt rfl
 obtain⟨x5,H5,b1,b2,b3⟩:=abU a2 (n:=f.ck.toNat) zzz (by simp;omega);have W5:=W4.step b2 b3;have e5:cellAt H5 H1.next 1=some sa.nx:=W5.c.cellAt rfl;have l5:=W5.s.n.gX;rw[gQ] at l5;have w5:IntKind.wrap .u64 ((f.nms.length:Nat):Int)=(f.nms.length:Nat):=wrap_u64 zzz;obtain⟨x6,H6,y1,y2,y3⟩:=Al b2 (n:=f.nms.length) zzz (by simp;omega);have W6:=W5.step y2 y3;have e6:cellAt H6 H1.next 1=some sa.nx:=W6.c.cellAt rfl;have hz:((gJ f).nms.zip (gJ f).aM).length=f.nms.length:=by show (f.nms.zip (f.nms.map (iy f))).length=_;rw[aiM,abF,ajN]
 have AQ:((gJ f).rs.zip (gJ f).fG)=f.aw:=abE f.aw;have Jr:(gJ f).rs.length=f.aw.length:=by show (f.aw.map (·.1)).length=_;rw[abF]
 have L6:([]++ei (2*off)++ei (2*f.ck.toNat)++ei f.nms.length).length<=30:=by simp;omega
 obtain⟨x7,H7,g1,W7⟩:=adW (S:=gJ f) (by show (f.nms.map (iy f)).length=f.nms.length;rw[abF]) (λs hs=>by have:=(hm.nm s hs).1;omega) (λs hs=>by obtain⟨t,ht,rfl⟩:=abN.1 hs;have:=(hm.nm t ht).2.2.1;omega) (by show f.nms.length<=1000;omega) _ 0 H6 x6 _ (abg _) aaM W6 (by rw[hz];omega);rw[show (((0:Nat):Int))=0 from rfl] at g1;have L7:=yH (f:=wI) (c:=1060) (l:=(gJ f).nms.zip (gJ f).aM) λx hx=>by obtain⟨i,hi⟩:=ab2 hx;obtain⟨a,b⟩:=DM hi;have b:(f.nms.map (iy f))[i]?=some x.2:=b;rw[acd,aag] at b;obtain⟨s,hs,e⟩:=b;have a:f.nms[i]?=some x.1:=a;rw[a] at hs;cases hs;obtain⟨q1,_,q2,_⟩:=hm.nm x.1 (aab a);rw[e] at q2;have u1:=rB (s:=x.1) zzz;have u2:=rB (s:=x.2) zzz;unfold wI;rw[aah];omega
 rw[hz] at L7;have e7:cellAt H7 H1.next 3=some sa.rx:=W7.c.cellAt rfl;have l7:=W7.s.r.len zzx;rw[aey,W7.s.len,ajN,Jr] at l7;have w7:IntKind.wrap .u64 ((f.aw.length:Nat):Int)=(f.aw.length:Nat):=wrap_u64 zzz;obtain⟨x8,H8,i1,i2,i3⟩:=Al W7.e (n:=f.aw.length) zzz (by rw[aah];omega);have W8:=W7.step i2 i3;have e8:cellAt H8 H1.next 3=some sa.rx:=W8.c.cellAt rfl;obtain⟨x9,H9,j1,W9⟩:=aoO (S:=gJ f) (by rw[Jr];show (f.aw.map (·.2)).length=_;rw[abF]) (λs hs=>by
  obtain⟨x,hx,rfl⟩:=abN.1 hs;have:=(hm.nm _ (hm.rn x hx).2.1).1;omega) (λR hR=>by
  obtain⟨x,hx,rfl⟩:=abN.1 hR;exact (hm.rn x hx).1.w) (by rw[Jr];omega) _ 0 H8 x8 _ (abg _) aaM W8 (by rw[AQ];simp only[aah] at L6⊢;omega)
 rw[show (((0:Nat):Int))=0 from rfl,Jr] at j1;rw[AQ] at W9;have L9:=yH (f:=xd) (c:=4200) (l:=f.aw) λx hx=>by obtain⟨a,b,_⟩:=hm.rn x hx;have u1:=rB (s:=x.2) (by have:=(hm.nm _ b).1;omega);have u2:=agW a;have:=(hm.nm _ b).1;unfold xd;rw[aah];omega
 have e9:cellAt H9 H1.next 5=some sa.kx:=W9.c.cellAt rfl;have l9:=W9.s.k.len zzx;rw[abF] at l9;have l9:aG sa.kx=some (zi (f.ks.length:Nat)):=l9;have w9:IntKind.wrap .u64 ((f.ks.length:Nat):Int)=(f.ks.length:Nat):=wrap_u64 zzz;obtain⟨cw,mz,k1,k2,k3⟩:=Al W9.e (n:=f.ks.length) zzz (by simp only[aah] at L6⊢;omega);have W10:=W9.step k2 k3;have e10:cellAt mz H1.next 5=some sa.kx:=W10.c.cellAt rfl;obtain⟨bZ,K8,r1,N8⟩:=agb (S:=gJ f) (λy hy=>by obtain⟨a,b,_,c,d⟩:=hm.ks y hy;have:=(hm.nm _ a).1;exact⟨zzz,zzz,c,zzz⟩) (by show f.ks.length<=1000;omega) _ 0 mz cw _ (abg _) aaM W10 (by show _+f.ks.length*300<=_;simp only[aah] at L6⊢;omega);rw[show (((0:Nat):Int))=0 from rfl] at r1;have ax1:[]++ei (2*off)++ei (2*f.ck.toNat)++ei f.nms.length++(((gJ f).nms.zip (gJ f).aM).map wI).flatten++ei f.aw.length++(f.aw.map xd).flatten++ei f.ks.length++((gJ f).ks.map yM).flatten=uD f off:=by unfold uD Ao;simp only[abC,afV];rfl
 rw[ax1] at N8;have e11:cellAt K8 H2.next 0=some bZ:=N8.e.c.cellAt rfl;have jj:=anK hm (off:=off) zzz;have t1:=arw zzz (afP hm off) N8.e.o.rw;obtain⟨bL,H12,v1,v2,v3⟩:=ar3 N8.e (RE (uD f off)) zzz;have W12:=N8.step v2 v3;have e12:cellAt H12 H2.next 0=some bL:=v2.c.cellAt rfl;refine⟨bL,H12,aod ?_,v2.o,?_,λj hj=>by have:=W12.xb j hj;omega⟩;·have d1:decide (((off:Nat):Int)<0)=false:=zz4 zzz;have d2:decide ((17592186044415:Int)<((off:Nat):Int))=false:=zz4 zzz;have g1':∀j,QS JN GO cK j (.ptr H1.next 0) (.ptr H2.next 0) sa.nx (zi (f.nms.length:Nat)) (zi 0) H6=j (.ptr H1.next 0) (.ptr H2.next 0) H7:=g1;have Bg:∀j,OY JN GO cK j (.ptr H2.next 0) sa.kx (zi (f.ks.length:Nat)) (zi 0) mz=j (.ptr H2.next 0) K8:=r1;have l5':aG sa.nx=some (zi (f.nms.length:Nat)):=l5;unfold XG;simp(disch:=try exact zqz)only[d1,d2,s1,aC,bF,jg,a1,e4,b1,e5,l5',w5,y1,e6,g1',e7,l7,w7,i1,e8,j1,e9,l9,w9,k1,e10,Bg,e11,t1,v1,e12,d2,ar,aq,zz0,simprocAttr]
 ·obtain⟨T,t1,t2⟩:=W12.z;exact fh s3 t1 λj hj=>by have:=t2 j hj;omega
theorem aqG {H:Hp}{p:Nat}{off:Int}(ho:off<0\/17592186044415<off):cK (zf 26) [.ptr p 0,zi off] H=some (.ah,H):=by
 refine aod ?_;unfold XG;by_cases h:off<0;·have d1:decide (off<0)=true:=zz3 h;simp(disch:=try exact zqz)only[d1,ar,aq,zz0,simprocAttr]
 ·have d1:decide (off<0)=false:=zz4 h;have d2:decide ((17592186044415:Int)<off)=true:=zz3 zzz;simp(disch:=try exact zqz)only[d1,d2,ar,aq,zz0,simprocAttr]
structure Sl where
 o:Nat
 es:Nat
 ty:Nat
 x:AV
 L:List (List AV)
def pg (q:Nat)(K:List Nat)(S:List Sl):List (List Nat):=[q]::K::S.map (λs=>ak s.x)
structure OB (N:Nat)(H:Hp)(q:Nat)(F:List AV)(el:Nat)(K:List Nat)(S:List Sl):Prop where
 c:Cs H q F el 0
 ow:∀(i:Nat) (s:Sl),S[i]?=some s->OL H s.ty s.es s.x s.L/\F[s.o]?=some s.x/\0<s.es
 od:(S.map (·.o)).Nodup
 dj:(pg q K S).Pairwise Dj
 fr:∀l∈pg q K S,∀j∈l,N<=j/\j<H.next
section
variable {F:List AV}{H H':Hp}{K:List Nat}{N el i:Nat}{S:List Sl}
theorem OB.nq {q:Nat}(h:OB N H q F el K S):N<=q/\q<H.next:=h.fr [q] (.head _) q (.head _)
theorem V7 {q:Nat}{s:Sl}(h:S[i]?=some s):(pg q K S)[i+2]?=some (ak s.x):=by show (S.map λs=>ak s.x)[i]?=_;rw[acd,h];rfl
theorem OB.more {q:Nat}{K':List Nat}{T:List Nat}(h:OB N H q F el K S)(k:Out T H H')(hT:∀j∈T,j<N)(hK:∀j∈K',j∈K\/(H.next<=j/\j<H'.next)):OB N H' q F el K' S:=by
 have hn:=k.1;have ne:∀l∈pg q K S,∀j∈l,j∉T:=λl hl j hj z=>by have:=h.fr l hl j hj;have:=hT j z;omega
 have hq:=h.nq;have hKq:∀j∈K',N<=j/\j<H'.next:=λj hj=>(hK j hj).elim (λz=>by have:=h.fr K (.tail _ (.head _)) j z;omega) λz=>zzz;have hd:=h.dj;unfold pg at hd;rw[List.pairwise_cons,List.pairwise_cons] at hd;obtain⟨d1,d2,d3⟩:=hd;refine⟨h.c.out k (ne _ (.head _) q (.head _)),λi s hs=>?_,h.od,?_,λl hl j hj=>?_⟩;·obtain⟨a,b,c⟩:=h.ow i s hs;exact⟨a.out k (ne _ (aab (V7 hs))),b,c⟩
 ·unfold pg;rw[List.pairwise_cons,List.pairwise_cons];refine⟨λl hl=>?_,λl hl j hj z=>?_,d3⟩
  ·rcases aal.1 hl with rfl|hl;·intro j hj z;rw[No] at hj;subst hj;exact (hK _ z).elim (d1 K (.head _) _ (.head _)) λz=>zzz
   ·exact d1 l (.tail _ hl)
  ·exact (hK j hj).elim (λw=>d2 l hl j w z) λw=>by have:=h.fr l (.tail _ (.tail _ hl)) j z;omega
 ·unfold pg at hl;rcases aal.1 hl with rfl|hl;·rw[No] at hj;subst hj;omega
  ·rcases aal.1 hl with rfl|hl;·exact hKq j hj
   ·have:=h.fr l (.tail _ (.tail _ hl)) j hj;omega
theorem OB.au {q:Nat}(h:OB N H q F el K S)(k:Out [] H H'):OB N H' q F el K S:=h.more k (λj hj=>by cases hj) λj hj=>.inl hj
def VB (N:Nat)(K:List Nat)(H H':Hp):Prop:=∃T,Out T H H'/\∀j∈T,N<=j/\j∉K
theorem VB.n (h:VB N K H H'):jZ N H H':=by obtain⟨T,a,b⟩:=h;exact⟨T,a,λj hj=>(b j hj).1⟩
theorem OB.push {q:Nat}(h:OB N H q F el K S){s:Sl}(hs:S[i]?=some s){vs z:List AV}(hv:vs.all aW=true)(hn:vs.length=s.es)(hl:(s.L.length+1)*s.es<=16777216):
  ∃x' H1 H2,(∀j,j=H.next->c8 s.ty s.es z false s.x (.slice j 0 1 1 true s.es) (al H vs s.ty 0)=some (x',H1))/\st 1 (.ptr q s.o) x' H1=some H2/\OB N H2 q (F.set s.o x') el K (S.set i ⟨s.o,s.es,s.ty,x',s.L++[vs]⟩)/\VB N K H H2:=by
 obtain⟨w1,w2,w3⟩:=h.ow i s hs;obtain⟨x',H1,p1,p2,p3,p4,p5⟩:=OL.push (el2:=s.ty) (z:=z) w1 hv hn w3 hl;have hS:=V7 (q:=q) (K:=K) hs;have h0:(pg q K S)[0]?=some [q]:=rfl;have sep:∀{j:Nat} {l:List Nat},i+2≠j->(pg q K S)[j]?=some l->∀y∈l,y∉ak s.x:=λlM hj=>(zp h.dj lM hS hj).symm;have hq:=h.nq;have hqs:q∉ak s.x:=sep zzz h0 q (.head _);have hqx:q∉ak x':=λe=>(p4 q e).elim hqs λe=>zzz;have hF:s.o<F.length:=(aac.1 w2).1;obtain⟨H2,s1,s2,s3,s4⟩:=eV (h.c.out p3 hqs) zzx (o:=s.o) hF p5;have n1:=p3.1;have mO:pg q K (S.set i ⟨s.o,s.es,s.ty,x',s.L++[vs]⟩)=(pg q K S).set (i+2) (ak x'):=by unfold pg;rw[List.set_cons_succ,List.set_cons_succ,List.map_set]
 have aX:i<S.length:=(aac.1 hs).1;refine⟨x',H1,H2,p1,s1,⟨s2,λk t ht=>?_,?_,?_,λl q8 j hj=>?_⟩,⟨ak s.x++[q],(p3.mono λj hj=>aaG _ hj).trans (s3.mono λj hj=>aaw _ hj),λj hj=>?_⟩⟩
 ·by_cases hk:i=k;·subst hk;rw[ae0 aX] at ht;cases ht;refine⟨p2.out s3 λj hj e=>by rw[No] at e;subst e;exact hqx hj,?_,w3⟩;show (F.set s.o x')[s.o]?=some x';rw[ae0 hF]
  ·rw[aji hk] at ht;obtain⟨a,b,c⟩:=h.ow k t ht;have hT:=V7 (q:=q) (K:=K) ht;have ho:s.o≠t.o:=λe=>by
    have kL:=(aac.1 ht).1;have e1:(S.map (·.o))[i]?=some s.o:=by rw[acd,hs];rfl
    have e2:(S.map (·.o))[k]?=some s.o:=by rw[acd,ht,e];rfl
    obtain⟨i1,i2⟩:=aac.1 e1;obtain⟨k1,k2⟩:=aac.1 e2;have od:=akW.1 h.od;rcases Nat.lt_or_gt_of_ne hk with z|z;·exact od i k i1 k1 z (i2.trans k2.symm)
    ·exact od k i k1 i1 z (k2.trans i2.symm)
   refine⟨(a.out p3 (sep zzz hT)).out s3 λj hj e=>?_,?_,c⟩;·rw[No] at e;subst e;exact zp h.dj (i:=0) (j:=k+2) zzz h0 hT _ (.head _) hj
   ·rw[aji ho];exact b
 ·rw[List.map_set];have e1:(S.map (·.o))[i]?=some s.o:=by rw[acd,hs];rfl
  have:(S.map (·.o)).set i s.o=S.map (·.o):=by
   apply aj8;intro k;by_cases hk:i=k;·subst hk;rw[ae0 (by rw[abF];exact aX),e1]
   ·rw[aji hk]
  rw[this];exact h.od
 ·rw[mO];exact KK h.dj hS (λm hm j hj=>(h.fr m hm j hj).2) p4
 ·rw[mO] at q8;have:=s3.1;rcases adT q8 with z|rfl;·have:=h.fr l z j hj;omega
  ·have:=p2.rl.1.lt j hj;refine⟨(p4 j hj).elim (λz=>(h.fr _ (aab hS) j z).1) λz=>zzz,zzz⟩
 ·have hK:(pg q K S)[1]?=some K:=rfl;rcases aaQ.1 hj with z|z;·exact⟨(h.fr _ (aab hS) j z).1,λw=>sep zzz hK j w z⟩
  ·rw[No] at z;subst z;exact⟨hq.1,zp h.dj (i:=0) (j:=1) zzx h0 hK _ (.head _)⟩
end
def eF (N p:Nat)(H H':Hp):Prop:=∃T,Out T H H'/\∀j∈T,N<=j\/j=p
theorem eF.refl (N p:Nat)(H:Hp):eF N p H H:=⟨[],Out.refl _ _,λj hj=>by cases hj⟩
section
variable {H H':Hp}{N:Nat}{x x':AV}
theorem eF.trans {p:Nat}{H'':Hp}(h:eF N p H H')(k:eF N p H' H''):eF N p H H'':=by obtain⟨T,t1,t2⟩:=h;obtain⟨U,u1,u2⟩:=k;exact⟨T++U,(t1.mono λj hj=>aaG _ hj).trans (u1.mono λj hj=>aaw _ hj),λj hj=>(aaQ.1 hj).elim (t2 j) (u2 j)⟩
theorem eF.n {p:Nat}(h:jZ N H H'):eF N p H H':=by obtain⟨T,a,b⟩:=h;exact⟨T,a,λj hj=>.inl (b j hj)⟩
theorem eF.p {N p:Nat}{H H':Hp}(h:Out [p] H H'):eF N p H H':=⟨_,h,λj hj=>.inr (by simpa using hj)⟩
theorem eF.nx {p:Nat}(h:eF N p H H'):H.next<=H'.next:=by obtain⟨T,t,_⟩:=h;exact t.1
theorem eF.down {p:Nat}(h:eF N p H H')(hn:H.next<=N):Out [p] H H':=by obtain⟨T,t,u⟩:=h;exact⟨t.1,λj hj hs=>t.2 j hj λq=>(u j q).elim (λz=>zzz) λz=>hs (by rw[z];exact .head _)⟩
structure EJ (N:Nat)(H:Hp)(p:Nat)(x:AV)(s:Str×Bool):Prop where
 e:EI H p x s.1 s.2
 p:p<N
 x:∀j∈ak x,j<N
theorem EJ.step {p:Nat}{s s':Str×Bool}(h:EJ N H p x s)(k:EI H' p x' s'.1 s'.2)(w:ER H H' p x x'):EJ N H' p x' s':=⟨k,h.p,λj hj=>h.x j (w.w j hj)⟩
theorem EJ.vn {p:Nat}{s:Str×Bool}(h:EJ N H p x s)(k:jZ N H H'):EJ N H' p x s:=by obtain⟨T,t,u⟩:=k;exact⟨h.e.out t (λz=>by have:=u p z;have:=h.p;omega) λj hj z=>by have:=u j z;have:=h.x j hj;omega,h.p,h.x⟩
theorem OB.er {q:Nat}{F:List AV}{el:Nat}{K:List Nat}{S:List Sl}{p:Nat}(h:OB N H q F el K S)(k:ER H H' p x x')(hp:p<N):OB N H' q F el K S:=
 h.more k.o (λj hj=>by rw[No] at hj;omega) λj hj=>.inl hj
def fJ (l:List Str):List (List AV):=l.map λs=>[.str s]
theorem aaT (l:List Str):(fJ l).flatten=strs l:=aoM .str l
theorem aik {N p b0 q:Nat}{dx sx st:AV}{Kp:List Nat}{G:List (List AV)}{m:Nat}(hm:m<=1000):∀(n i:Nat) (H:Hp) (x tx:AV) (s:Str×Bool) (L:List RT),i+n=m->L.length=i->OB N H q [dx,st,tx,sx] 75 Kp [⟨2,4,132,tx,eG L⟩,⟨3,1,9,sx,G⟩]->EJ N H p x s->
  ∃x' ax H',(∀fM:K.Fn 3,Ve JN GO cK fM (.ptr p 0) (.ptr b0 0) (.ptr q 0) (zi (m:Nat)) (zi (i:Nat)) H=fM (.ptr p 0) (.ptr b0 0) (.ptr q 0) H')/\
   OB N H' q [dx,st,ax,sx] 75 Kp [⟨2,4,132,ax,eG (L++(rN rT n s).1)⟩,⟨3,1,9,sx,G⟩]/\EJ N H' p x' (rN rT n s).2/\(∀j∈ak x',j∈ak x)/\eF N p H H'
 |0,i,H,x,tx,s,L,hi,hL,hO,hE=>by obtain rfl:i=m:=zzz;refine⟨x,tx,H,λfM=>?_,by rw[show (rN rT 0 s).1=[] from rfl,ac4];exact hO,hE,λj hj=>hj,eF.refl _ _ _⟩;rw[aeO];simp only[Z7,dA,zz0,simprocAttr]
 |n+1,i,H,x,tx,s,L,hi,hL,hO,hE=>by
  have h1:i<m:=zzz;have es:=dD h1 zzz;have k0:cellAt H q 2=some tx:=hO.c.cellAt rfl;obtain⟨x1,H1,a1,a2,a3⟩:=Eg hE.e 255;rw[show ((255:Nat):Int)=255 from rfl] at a1;have E1:EJ N H1 p x1 (eS s.1 s.2 255).2:=hE.step a2 a3;have O1:=hO.er a3 hE.p;obtain⟨x2,H2,b1,b2,b3⟩:=Eg E1.e 255;rw[show ((255:Nat):Int)=255 from rfl] at b1;have E2:EJ N H2 p x2 (eS (eS s.1 s.2 255).2.1 (eS s.1 s.2 255).2.2 255).2:=E1.step b2 b3;have O2:=O1.er b3 hE.p;generalize ha:eS s.1 s.2 255=A at*
  generalize hb:eS A.2.1 A.2.2 255=B at*
  obtain⟨x3,H3,c1,c2,c3⟩:=VJ E2.e;have E3:EJ N H3 p x3 (aY B.2.1 B.2.2).2:=E2.step c2 c3;have O3:=O2.er c3 hE.p;generalize hc:aY B.2.1 B.2.2=C at*
  obtain⟨x4,H4,d1,d2,d3⟩:=FE E3.e (m:=64) zzz;rw[show ((64:Nat):Int)=64 from rfl] at d1;have E4:EJ N H4 p x4 (gp C.2.1 C.2.2 64).2:=E3.step d2 d3;have O4:=O3.er d3 hE.p;generalize hd:gp C.2.1 C.2.2 64=D at*
  have hT:rT s=(⟨(A.1:Nat),(B.1:Nat),gu C.1,D.1⟩,D.2):=by unfold rT;simp only[ha,hb,hc,hd]
  have f1:fl [(zi 0),(zi 0),(zi 0),(.str [])] [(0,1,zi (A.1:Nat)),(1,1,zi (B.1:Nat)),(2,1,zi (gu C.1)),(3,1,.str D.1)]=some [zi (A.1:Nat),zi (B.1:Nat),zi (gu C.1),.str D.1]:=rfl;have f2:fl [(zi 0),(zi 0),(zi 0),(.str [])] [(0,4,.agg [zi (A.1:Nat),zi (B.1:Nat),zi (gu C.1),.str D.1])]=some [zi (A.1:Nat),zi (B.1:Nat),zi (gu C.1),.str D.1]:=rfl;have cB:aA H4 [zi (A.1:Nat),zi (B.1:Nat),zi (gu C.1),.str D.1] 132 0=some (H4.next,al H4 [zi (A.1:Nat),zi (B.1:Nat),zi (gu C.1),.str D.1] 132 0):=eA zzy;have O5:=O4.au (aD H4 [zi (A.1:Nat),zi (B.1:Nat),zi (gu C.1),.str D.1] 132 0);have k1:cellAt H1 q 2=some tx:=O1.c.cellAt rfl;have k2:cellAt H2 q 2=some tx:=O2.c.cellAt rfl;have k3:cellAt H3 q 2=some tx:=O3.c.cellAt rfl;have k4:cellAt H4 q 2=some tx:=O4.c.cellAt rfl;have k5:cellAt (al H4 [zi (A.1:Nat),zi (B.1:Nat),zi (gu C.1),.str D.1] 132 0) q 2=some tx:=O5.c.cellAt rfl;obtain⟨ax,H5,H6,p1,p2,p3,p4⟩:=O4.push (i:=0) (s:=⟨2,4,132,tx,eG L⟩) rfl (vs:=[zi (A.1:Nat),zi (B.1:Nat),zi (gu C.1),.str D.1]) (z:=[(zi 0),(zi 0),(zi 0),(.str [])]) rfl rfl (by show ((eG L).length+1)*4<=_;rw[AA,hL];omega);have fX:=p1 H4.next rfl;have hrt:eG L++[[zi (A.1:Nat),zi (B.1:Nat),zi (gu C.1),.str D.1]]=eG (L++[⟨(A.1:Nat),(B.1:Nat),gu C.1,D.1⟩]):=by simp[eG,dQ]
  have O6:OB N H6 q [dx,st,ax,sx] 75 Kp [⟨2,4,132,ax,eG (L++[⟨(A.1:Nat),(B.1:Nat),gu C.1,D.1⟩])⟩,⟨3,1,9,sx,G⟩]:=by rw[<-hrt];exact p3
  have E6:=E4.vn p4.n;obtain⟨x',tx2,H',i1,i2,i3,i4,i5⟩:=aik (b0:=b0) hm n (i+1) H6 x4 ax D.2 (L++[⟨(A.1:Nat),(B.1:Nat),gu C.1,D.1⟩]) zzz (by rw[aah,hL];rfl) O6 E6;have iU:rN rT (n+1) s=(⟨(A.1:Nat),(B.1:Nat),gu C.1,D.1⟩::(rN rT n D.2).1,(rN rT n D.2).2):=by show ((rT s).1::_,_)=_;rw[hT]
  have ot:=lG (hO.ow 0 _ rfl).1.1.rw;refine⟨x',tx2,H',λfM=>?_,by rw[iU];simpa using i2,by rw[iU];exact i3,λj hj=>a3.w j (b3.w j (c3.w j (d3.w j (i4 j hj)))),((((eF.p a3.o).trans (eF.p b3.o)).trans (eF.p c3.o)).trans (eF.p d3.o)).trans ((eF.n p4.n).trans i5)⟩;rw[aeO];simp(disch:=try exact zqz)only[Z7,aQ h1,k0,a1,b1,c1,d1,f1,f2,cB,fX,p2,k1,k2,k3,k4,k5,eP ot,es,i1,ar,aq,zz0,simprocAttr]
theorem ai1 {N p b0 q:Nat}{dx tx st:AV}{Kp:List Nat}{G:List (List AV)}{m:Nat}(hm:m<=1000):∀(n i:Nat) (H:Hp) (x sx:AV) (s:Str×Bool) (L:List Str),i+n=m->L.length=i->OB N H q [dx,st,tx,sx] 75 Kp [⟨2,4,132,tx,G⟩,⟨3,1,9,sx,fJ L⟩]->EJ N H p x s->
  ∃x' az H',(∀ED:K.Fn 2,aan JN GO cK ED (.ptr p 0) (.ptr b0 0) (.ptr q 0) (zi (m:Nat)) (zi (i:Nat)) H=ED (.ptr b0 0) (.ptr q 0) H')/\
   OB N H' q [dx,st,tx,az] 75 Kp [⟨2,4,132,tx,G⟩,⟨3,1,9,az,fJ (L++(rN (λs=>gp s.1 s.2 16) n s).1)⟩]/\EJ N H' p x' (rN (λs=>gp s.1 s.2 16) n s).2/\(∀j∈ak x',j∈ak x)/\eF N p H H'
 |0,i,H,x,sx,s,L,hi,hL,hO,hE=>by obtain rfl:i=m:=zzz;refine⟨x,sx,H,λED=>?_,by rw[show (rN (λs:Str×Bool=>gp s.1 s.2 16) 0 s).1=[] from rfl,ac4];exact hO,hE,λj hj=>hj,eF.refl _ _ _⟩;rw[anS];simp only[VQ,dA,zz0,simprocAttr]
 |n+1,i,H,x,sx,s,L,hi,hL,hO,hE=>by
  have h1:i<m:=zzz;have es:=dD h1 zzz;have k0:cellAt H q 3=some sx:=hO.c.cellAt rfl;obtain⟨x4,H4,d1,d2,d3⟩:=FE hE.e (m:=16) zzz;rw[show ((16:Nat):Int)=16 from rfl] at d1;have E4:EJ N H4 p x4 (gp s.1 s.2 16).2:=hE.step d2 d3;have O4:=hO.er d3 hE.p;generalize hd:gp s.1 s.2 16=D at*
  have f1:fl [(.str [])] [(0,1,.str D.1)]=some [.str D.1]:=rfl;have cB:aA H4 [.str D.1] 9 0=some (H4.next,al H4 [.str D.1] 9 0):=eA zzy;have O5:=O4.au (aD H4 [.str D.1] 9 0);have k4:cellAt H4 q 3=some sx:=O4.c.cellAt rfl;have k5:cellAt (al H4 [.str D.1] 9 0) q 3=some sx:=O5.c.cellAt rfl;obtain⟨az,H5,H6,p1,p2,p3,p4⟩:=O4.push (i:=1) (s:=⟨3,1,9,sx,fJ L⟩) rfl (vs:=[.str D.1]) (z:=[(.str [])]) rfl rfl (by show ((fJ L).length+1)*1<=_;unfold fJ;rw[abF,hL];omega);have fX:=p1 H4.next rfl;have hrt:fJ L++[[.str D.1]]=fJ (L++[D.1]):=by simp[fJ]
  have O6:OB N H6 q [dx,st,tx,az] 75 Kp [⟨2,4,132,tx,G⟩,⟨3,1,9,az,fJ (L++[D.1])⟩]:=by rw[<-hrt];exact p3
  have E6:=E4.vn p4.n;obtain⟨x',xD,H',i1,i2,i3,i4,i5⟩:=ai1 (b0:=b0) hm n (i+1) H6 x4 az D.2 (L++[D.1]) zzz (by rw[aah,hL];rfl) O6 E6;have iU:rN (λs:Str×Bool=>gp s.1 s.2 16) (n+1) s=(D.1::(rN (λs:Str×Bool=>gp s.1 s.2 16) n D.2).1,(rN (λs:Str×Bool=>gp s.1 s.2 16) n D.2).2):=by rw[<-hd];rfl
  have ot:=lG (hO.ow 1 _ rfl).1.1.rw;refine⟨x',xD,H',λED=>?_,by rw[iU];simpa using i2,by rw[iU];exact i3,λj hj=>d3.w j (i4 j hj),(eF.p d3.o).trans ((eF.n p4.n).trans i5)⟩;rw[anS];simp(disch:=try exact zqz)only[VQ,aQ h1,k0,d1,f1,cB,fX,p2,k4,k5,eP ot,es,i1,ar,aq,zz0,simprocAttr]
theorem afH (t:Str):(aF t).1.length<=16:=by
 by_cases h:(aF t).2=0;·exact (IA h).2.2.1
 ·rw[Pk h];exact abg _
theorem aCm {p:Nat}{s:Str×Bool}(hE:EI H p x s.1 s.2)(hg:Gl H)(eE:11<=p)(text:Str):
  ∃x' dx xs tx sx H',cK (zf 105) [.ptr p 0,.str text] H=some (.agg (rv dx (getM (aF text).1 s).1.st tx sx),H')/\RV H' dx xs tx sx (getM (aF text).1 s).1/\EI H' p x' (getM (aF text).1 s).2.1 (getM (aF text).1 s).2.2/\(∀j∈ak x',j∈ak x)/\Out [p] H H'/\∀j∈pj dx xs tx sx,H.next<=j:=by
 have C8:=hE.c.1;have dC:=hE.r.lt;have o1:=aD H zR 75 0;have c1:=aP H zR 75 0;have n1:(al H zR 75 0).next=H.next+1:=rfl;have sF:aA H [.ah,(zi 0),.ah,.ah] 75 0=some (H.next,al H zR 75 0):=eA zzy;generalize bw:al H zR 75 0=H1 at*
 obtain⟨dx,xs,H2,s1,s2,s3,s4⟩:=PC (text:=text) (hg.au o1);have eU:=s2.row.one;have smd:same (.agg [dx]) (.agg [dx])=true:=by show yf _ _=true;unfold yf;rw[ami s2.row.1];rfl
 have n2:=s3.1;have o3:=aD H2 [dx] 72 0;have c3:=aP H2 [dx] 72 0;have n3:(al H2 [dx] 72 0).next=H2.next+1:=rfl;have aC:st 1 (.ptr H2.next 0) (.agg [dx]) (al H2 [.ah] 72 0)=some (al H2 [dx] 72 0):=gy (by simp[eU]) rfl rfl zzx rfl;generalize jg:al H2 [dx] 72 0=H3 at*
 have k3:av H3 H2.next 0 1=some [dx]:=c3.av 1 0 zzy;have e3:=((hE.au o1).au s3).au o3;obtain⟨x4,H4,a1,a2,a3⟩:=Eg e3 255;rw[show ((255:Nat):Int)=255 from rfl] at a1;generalize ha:eS s.1 s.2 255=A at*
 have n4:=a3.o.1;have c4:=c3.out a3.o (by simp;omega);have k4:av H4 H2.next 0 1=some [dx]:=c4.av 1 0 zzy;have f1:fl [.ah,(zi 0),.ah,.ah] [(0,1,.agg [dx]),(1,1,zi (A.1:Nat))]=some (rv dx (A.1:Nat) .ah .ah):=by rw[z8 (l:=[dx]) (n:=1) rfl zzy,yW rfl zzy,pW];rfl
 have yt:aA H4 [.ah,(zi 0),.ah,.ah] 75 0=some (H4.next,al H4 [.ah,(zi 0),.ah,.ah] 75 0):=eA zzy;have xe:st 4 (.ptr H4.next 0) (.agg (rv dx (A.1:Nat) .ah .ah)) (al H4 [.ah,(zi 0),.ah,.ah] 75 0)=some (al H4 (rv dx (A.1:Nat) .ah .ah) 75 0):=gy (by simp[eU,iV];decide) rfl rfl zzx rfl;have o5:=aD H4 (rv dx (A.1:Nat) .ah .ah) 75 0;have c5:=aP H4 (rv dx (A.1:Nat) .ah .ah) 75 0;have n5:(al H4 (rv dx (A.1:Nat) .ah .ah) 75 0).next=H4.next+1:=rfl;generalize hA5:al H4 (rv dx (A.1:Nat) .ah .ah) 75 0=H5 at*
 have k5:cellAt H5 H2.next 0=some dx:=(c4.out o5 zzy).cellAt rfl;have l5:=s2.aG;have ZZ:∀j∈ak x,j<H4.next:=λj hj=>by have:=dC j hj;omega
 have O5:OB H4.next H5 H4.next [dx,zi (A.1:Nat),.ah,.ah] 75 [] [⟨2,4,132,.ah,eG []⟩,⟨3,1,9,.ah,fJ []⟩]:=by
  refine⟨c5,λi s hs=>?_,zzx,?_,λl hl j hj=>?_⟩
  ·match i,hs with
   |0,hs=>cases hs;exact⟨OL.nil _ _ _,rfl,by show 0<4;omega⟩|1,hs=>cases hs;exact⟨OL.nil _ _ _,rfl,by show 0<1;omega⟩|i+2,hs=>simp at hs
  ·simp[pg,Dj,ak]
  ·simp only[pg,ak,abo,aiO,aal,ajX,or_false] at hl;rcases hl with rfl|rfl|rfl|rfl;·rw[No] at hj;omega
   ·cases hj
   ·cases hj
   ·cases hj
 have E5:EJ H4.next H5 p x4 A.2:=⟨a2.au o5,zzz,λj hj=>ZZ j (a3.w j hj)⟩;have hDn:=afH text;obtain⟨x6,tx,H6,g1,g2,g3,g4,g5⟩:=aik (b0:=H.next) zzz (aF text).1.length 0 H5 x4 .ah A.2 [] (adn _) rfl O5 E5;rw[show (((0:Nat):Int))=0 from rfl] at g1;rw[afV] at g2;generalize ht:rN rT (aF text).1.length A.2=B at*
 obtain⟨x7,H7,b1,b2,b3⟩:=Eg g3.e 16;rw[show ((16:Nat):Int)=16 from rfl] at b1;have E7:EJ H4.next H7 p x7 (eS B.2.1 B.2.2 16).2:=g3.step b2 b3;have O7:=g2.er b3 g3.p;have hC:=I1 B.2.1 B.2.2 16;generalize hc:eS B.2.1 B.2.2 16=C at*
 obtain⟨x8,sx,H8,i1,i2,i3,i4,i5⟩:=ai1 (b0:=H.next) zzz C.1 0 H7 x7 .ah C.2 [] (adn _) rfl O7 E7;rw[show (((0:Nat):Int))=0 from rfl] at i1;rw[afV] at i2;have k8:av H8 H4.next 0 4=some [dx,zi (A.1:Nat),tx,sx]:=i2.c.av 4 0 zzy;have hQ:eF H4.next p H5 H8:=(g5.trans (eF.p b3.o)).trans i5;have hn8:=hQ.nx;obtain⟨U,u1,u2⟩:=hQ;have ja:H.next∉U:=λz=>(u2 _ z).elim (λw=>zzz) λw=>zzz;have cb:=((((c1.out s3 zzy).out o3 zzy).out a3.o (by simp;omega)).out o5 zzy).out u1 ja;obtain⟨T2,D2⟩:=i2.ow 0 _ rfl;obtain⟨T3,D3⟩:=i2.ow 1 _ rfl;have T2:OL H8 132 4 tx (eG B.1):=T2;have T3:OL H8 9 1 sx (fJ (rN (λs=>gp s.1 s.2 16) C.1 C.2).1):=T3;obtain⟨H9,t1,t2,t3,t4⟩:=iE (n:=4) (vs:=[dx,zi (A.1:Nat),tx,sx]) cb rfl rfl (by simp[eU,T2.rl.one,T3.rl.one,iV]);have k9:av H9 H.next 0 4=some [dx,zi (A.1:Nat),tx,sx]:=t2.av 4 0 zzy;have hM:getM (aF text).1 s=(⟨(aF text).1,(A.1:Nat),B.1,(rN (λs=>gp s.1 s.2 16) C.1 C.2).1⟩,(rN (λs=>gp s.1 s.2 16) C.1 C.2).2):=by unfold getM;simp only[ha,ht,hc]
 have fr:=i2.fr;have ftx:∀j∈ak tx,H4.next<=j:=λj hj=>(fr _ (aab (i:=2) rfl) j hj).1;have fsx:∀j∈ak sx,H4.next<=j:=λj hj=>(fr _ (aab (i:=3) rfl) j hj).1;have ne:∀j,H4.next<=j->j∉[H.next]:=λj hj z=>by rw[No] at z;omega
 rw[hM];have rd8:RD H8 dx xs (aF text).1:=(((s2.au o3).out a3.o λj hj z=>by rw[No] at z;have:=s4 j hj;omega).au o5).out u1 λj hj z=>by have h2:=s2.lt j hj;have h4:=s4 j hj;exact (u2 j z).elim (λw=>zzz) λw=>zzz
 refine⟨x8,dx,xs,tx,sx,H9,avR ?_,⟨rd8.out t3 λj hj z=>by rw[No] at z;have:=s4 j hj;omega,T2.rl.out t3 λj hj=>ne j (ftx j hj),?_⟩,i3.e.out t3 (by simp;omega) λj hj z=>by rw[No] at z;have:=dC j (a3.w j (g4 j (b3.w j (i4 j hj))));omega,λj hj=>a3.w j (g4 j (b3.w j (i4 j hj))),?_,λj hj=>?_⟩;·unfold aje;simp(disch:=try exact zqz)only[sF,s1,aC,jg,k3,a1,f1,yt,xe,k4,eP smd,k5,l5,g1,b1,i1,k8,t1,k9,ar,aq,zz0,simprocAttr]
 ·have:=T3.1.rw.out t3 λj hj=>ne j (fsx j hj);rw[aaT] at this;exact this
 ·refine⟨zzz,λj hj hs=>?_⟩;have aE:j∉U:=λz=>(u2 j z).elim (λw=>zzz) λw=>hs (by rw[w];exact .head _);rw[t3.2 j zzz (λz=>by rw[No] at z;omega),u1.2 j zzz aE,o5.2 j zzz zzy,a3.o.2 j zzz hs,o3.2 j zzz zzy,s3.2 j zzz zzy,o1.2 j hj zzy]
 ·rcases aaQ.1 hj with z|z;·have:=s4 j z;omega
  ·rcases aaQ.1 z with z|z;·have:=ftx j z;omega
   ·have:=fsx j z;omega
end
theorem afh (s:Str):∀L:List (Str×Str),match (L.map (·.1)).findIdx? (λa=>s==a) with
  |some i=>∃x,L[i]?=some x/\x.2=Bh L s|none=>Bh L s=[]
 |[]=>rfl|y::L=>by
  have ih:=afh s L;unfold Bh ey at ih⊢;rw[abo,ajP,List.find?_cons];by_cases h:s=y.1
  ·have e1:(s==y.1)=true:=by simp[h]
   have e2:(y.1==s)=true:=by simp[h]
   rw[e1,e2];exact⟨y,rfl,rfl⟩
  ·have e1:(s==y.1)=false:=by simpa using h
   have e2:(y.1==s)=false:=by simpa using λq=>h q.symm
   rw[e1,e2];cases hf:(L.map (·.1)).findIdx? (λa=>s==a) with
   |none=>rw[hf] at ih;exact ih|some i=>rw[hf] at ih;exact ih
abbrev OS (N:Nat)(H:Hp)(q:Nat)(ck:Int)(a:SA)(L:List (Str×Str))(Q:List (Rn×Str))(Y:List Ke):Prop:=
 OB N H q [zi ck,a.nx,a.tx,a.rx,a.ox,a.kx] 50 (a.ras.flatMap RA.fp) [⟨1,1,9,a.nx,fJ (L.map (·.1))⟩,⟨2,1,9,a.tx,fJ (L.map (·.2))⟩,⟨3,4,75,a.rx,List.zipWith iB a.ras (Q.map (·.1))⟩,⟨4,1,9,a.ox,fJ (Q.map (·.2))⟩,⟨5,3,82,a.kx,Y.map cl⟩]
theorem ZP (l:List Str):(fJ l).length=l.length:=by unfold fJ;rw[abF]
theorem X7 (l:List Str)(s:Str):fJ l++[[.str s]]=fJ (l++[s]):=by simp[fJ]
theorem aeR {N p b0 q m:Nat}{ck:Int}(hm:m<=1000){Q:List (Rn×Str)}{Y:List Ke}:∀(n i:Nat) (H:Hp) (x:AV) (a:SA) (s:Str×Bool) (L:List (Str×Str)),i+n=m->L.length=i->OS N H q ck a L Q Y->EJ N H p x s->
  ∃x' a' H',(∀bA:K.Fn 3,aaV JN GO cK bA (.ptr p 0) (.ptr b0 0) (.ptr q 0) (zi (m:Nat)) (zi (i:Nat)) H=bA (.ptr p 0) (.ptr b0 0) (.ptr q 0) H')/\
   OS N H' q ck a' (L++(rN rD n s).1) Q Y/\EJ N H' p x' (rN rD n s).2/\(∀j∈ak x',j∈ak x)/\eF N p H H'/\a'.ras=a.ras
 |0,i,H,x,a,s,L,hi,hL,hO,hE=>by obtain rfl:i=m:=zzz;refine⟨x,a,H,λbA=>?_,by rw[show (rN rD 0 s).1=[] from rfl,ac4];exact hO,hE,λj hj=>hj,eF.refl _ _ _,rfl⟩;rw[am2];simp only[aaA,dA,zz0,simprocAttr]
 |n+1,i,H,x,a,s,L,hi,hL,hO,hE=>by
  have h1:i<m:=zzz;have es:=dD h1 zzz;have k0:cellAt H q 1=some a.nx:=hO.c.cellAt rfl;obtain⟨x1,H1,a1,a2,a3⟩:=FE hE.e (m:=16) zzz;rw[show ((16:Nat):Int)=16 from rfl] at a1;have E1:EJ N H1 p x1 (gp s.1 s.2 16).2:=hE.step a2 a3;have O1:=hO.er a3 hE.p;generalize ha:gp s.1 s.2 16=A at*
  have f1:fl [(.str [])] [(0,1,.str A.1)]=some [.str A.1]:=rfl;have sF:aA H1 [.str A.1] 9 0=some (H1.next,al H1 [.str A.1] 9 0):=eA zzy;have k1:cellAt H1 q 1=some a.nx:=O1.c.cellAt rfl;have k1':cellAt (al H1 [.str A.1] 9 0) q 1=some a.nx:=(O1.au (aD H1 [.str A.1] 9 0)).c.cellAt rfl;obtain⟨gV,H2,H3,p1,p2,p3,p4⟩:=O1.push (i:=0) (s:=⟨1,1,9,a.nx,fJ (L.map (·.1))⟩) rfl (vs:=[.str A.1]) (z:=[(.str [])]) rfl rfl (by show ((fJ (L.map (·.1))).length+1)*1<=_;rw[ZP,abF,hL];omega);have fX:=p1 H1.next rfl;have E3:=E1.vn p4.n;have k3:cellAt H3 q 2=some a.tx:=p3.c.cellAt rfl;obtain⟨x4,H4,d1,d2,d3⟩:=FE E3.e (m:=1024) zzz;rw[show ((1024:Nat):Int)=1024 from rfl] at d1;have E4:EJ N H4 p x4 (gp A.2.1 A.2.2 1024).2:=E3.step d2 d3;have O4:=p3.er d3 hE.p;generalize hd:gp A.2.1 A.2.2 1024=D at*
  have f4:fl [(.str [])] [(0,1,.str D.1)]=some [.str D.1]:=rfl;have yt:aA H4 [.str D.1] 9 0=some (H4.next,al H4 [.str D.1] 9 0):=eA zzy;have k4:cellAt H4 q 2=some a.tx:=O4.c.cellAt rfl;have k4':cellAt (al H4 [.str D.1] 9 0) q 2=some a.tx:=(O4.au (aD H4 [.str D.1] 9 0)).c.cellAt rfl;obtain⟨ax,H5,H6,r1,r2,r3,r4⟩:=O4.push (i:=1) (s:=⟨2,1,9,a.tx,fJ (L.map (·.2))⟩) rfl (vs:=[.str D.1]) (z:=[(.str [])]) rfl rfl (by show ((fJ (L.map (·.2))).length+1)*1<=_;rw[ZP,abF,hL];omega);have Bg:=r1 H4.next rfl;have E6:=E4.vn r4.n;have O6:OS N H6 q ck {a with nx:=gV,tx:=ax} (L++[(A.1,D.1)]) Q Y:=by
   have e1:fJ ((L++[(A.1,D.1)]).map (·.1))=fJ (L.map (·.1))++[[.str A.1]]:=by rw[X7,acZ];rfl
   have e2:fJ ((L++[(A.1,D.1)]).map (·.2))=fJ (L.map (·.2))++[[.str D.1]]:=by rw[X7,acZ];rfl
   unfold OS;rw[e1,e2];exact r3
  obtain⟨x',a',H',i1,i2,i3,i4,i5,i6⟩:=aeR (b0:=b0) hm n (i+1) H6 x4 {a with nx:=gV,tx:=ax} D.2 (L++[(A.1,D.1)]) zzz (by rw[aah,hL];rfl) O6 E6;have iU:rN rD (n+1) s=((A.1,D.1)::(rN rD n D.2).1,(rN rD n D.2).2):=by
   have:rD s=((A.1,D.1),D.2):=by unfold rD;simp only[ha,hd]
   show ((rD s).1::_,_)=_;rw[this]
  have vM:=lG (hO.ow 0 _ rfl).1.1.rw;have om:=lG (hO.ow 1 _ rfl).1.1.rw;refine⟨x',a',H',λbA=>?_,by rw[iU];simpa using i2,by rw[iU];exact i3,λj hj=>a3.w j (d3.w j (i4 j hj)),(((eF.p a3.o).trans (eF.n p4.n)).trans (eF.p d3.o)).trans ((eF.n r4.n).trans i5),i6⟩;rw[am2];simp(disch:=try exact zqz)only[aaA,aQ h1,k0,a1,f1,sF,fX,p2,k1,k1',eP vM,k3,d1,f4,yt,Bg,r2,k4,k4',eP om,es,i1,ar,aq,zz0,simprocAttr]
def VS (H:Hp)(ras:List RA)(Rs:List Rn):Prop:=∀(i:Nat) (r:RA) (R:Rn),ras[i]?=some r->Rs[i]?=some R->RV H r.dx r.xs r.tx r.sx R
section
variable {H:Hp}{Rs:List Rn}{ras:List RA}
theorem VS.out {H':Hp}{T:List Nat}(h:VS H ras Rs)(k:Out T H H')(hT:∀j∈T,j∉ras.flatMap RA.fp):VS H' ras Rs:=λi r R hr hR=>(h i r R hr hR).out k λj hj z=>hT j z (ae8.2 ⟨r,aab hr,hj⟩)
theorem VS.snoc (h:VS H ras Rs)(hl:ras.length=Rs.length){r:RA}{R:Rn}(hR:RV H r.dx r.xs r.tx r.sx R):VS H (ras++[r]) (Rs++[R]):=λi r' R' h1 h2=>by
 rcases alD i ras.length with q|q;·rw[abi q] at h1;rw[abi zzz] at h2;exact h i r' R' h1 h2
 ·rw[abm q] at h1;rw[abm zzz] at h2;have:i-ras.length=0:=by have:=(aac.1 h1).1;rw[List.length_singleton] at this;omega
  rw[this] at h1;rw[show i-Rs.length=0 by omega] at h2;cases h1;cases h2;exact hR
theorem ahR {N p b0 q m:Nat}{ck:Int}(hm:m<=1000)(eE:11<=p)(hN:11<=N){L:List (Str×Str)}(hLn:L.length<=1000){Y:List Ke}:∀(n i:Nat) (H:Hp) (x:AV) (a:SA) (s:Str×Bool) (Q:List (Rn×Str)),i+n=m->Q.length=i->OS N H q ck a L Q Y->EJ N H p x s->Gl H->a.ras.length=i->VS H a.ras (Q.map (·.1))->
  ∃x' a' H',(∀vq:K.Fn 3,aaH JN GO cK vq (.ptr p 0) (.ptr b0 0) (.ptr q 0) (zi (m:Nat)) (zi (i:Nat)) H=vq (.ptr p 0) (.ptr b0 0) (.ptr q 0) H')/\
   OS N H' q ck a' L (Q++(rN (rQ L) n s).1) Y/\EJ N H' p x' (rN (rQ L) n s).2/\(∀j∈ak x',j∈ak x)/\eF N p H H'/\a'.ras.length=m/\VS H' a'.ras ((Q++(rN (rQ L) n s).1).map (·.1))
 |0,i,H,x,a,s,Q,hi,hQ,hO,hE,hg,hr,hv=>by obtain rfl:i=m:=zzz;refine⟨x,a,H,λvq=>?_,by rw[show (rN (rQ L) 0 s).1=[] from rfl,ac4];exact hO,hE,λj hj=>hj,eF.refl _ _ _,hr,by rw[show (rN (rQ L) 0 s).1=[] from rfl,ac4];exact hv⟩;rw[ad0];simp only[Qh,dA,zz0,simprocAttr]
 |n+1,i,H,x,a,s,Q,hi,hQ,hO,hE,hg,hr,hv=>by
  have h1:i<m:=zzz;have es:=dD h1 zzz;have hNn:=hO.nq;obtain⟨x1,H1,a1,a2,a3⟩:=FE hE.e (m:=16) zzz;rw[show ((16:Nat):Int)=16 from rfl] at a1;have E1:EJ N H1 p x1 (gp s.1 s.2 16).2:=hE.step a2 a3;have O1:=hO.er a3 hE.p;generalize ha:gp s.1 s.2 16=A at*
  have n1:=a3.o.1;have k1:cellAt H1 q 1=some a.nx:=O1.c.cellAt rfl;have k2:cellAt H1 q 2=some a.tx:=O1.c.cellAt rfl;have r1:=(O1.ow 0 _ rfl).1.1.rw;have r2:=(O1.ow 1 _ rfl).1.1.rw;simp only[aaT] at r1 r2;have ix:=Qk r1 (by rw[abF];omega) A.1;have P7:=afh A.1 L;have k4:cellAt H1 q 4=some a.ox:=O1.c.cellAt rfl;have f1:fl [(.str [])] [(0,1,.str A.1)]=some [.str A.1]:=rfl;have sF:aA H1 [.str A.1] 9 0=some (H1.next,al H1 [.str A.1] 9 0):=eA zzy;obtain⟨oU,H2,H3,p1,p2,p3,p4⟩:=O1.push (i:=3) (s:=⟨4,1,9,a.ox,fJ (Q.map (·.2))⟩) rfl (vs:=[.str A.1]) (z:=[(.str [])]) rfl rfl (by show ((fJ (Q.map (·.2))).length+1)*1<=_;rw[ZP,abF,hQ];omega);have fX:=p1 H1.next rfl;have E3:=E1.vn p4.n;have k3:cellAt H3 q 3=some a.rx:=p3.c.cellAt rfl;have Q3:=p4.n;obtain⟨T3,t1,t2⟩:=p4;have n3:=t1.1;have wq:=hg.out a3.o (by simp;omega);have Hm:=wq.out t1 λj hj=>by have:=t2 j hj;omega
  obtain⟨x4,dx,xs,tx,sx,H4,g1,g2,g3,g4,g5,g6⟩:=aCm E3.e Hm eE (Bh L A.1);generalize hG:getM (aF (Bh L A.1)).1 A.2=G at*
  have n4:=g5.1;have rlt:=g2.lt;have E4:EJ N H4 p x4 G.2:=⟨g3,hE.p,λj hj=>E3.x j (g4 j hj)⟩;have O4:OB N H4 q [zi ck,a.nx,a.tx,a.rx,oU,a.kx] 50 ((a.ras++[RA.mk dx xs tx sx]).flatMap RA.fp) [⟨1,1,9,a.nx,fJ (L.map (·.1))⟩,⟨2,1,9,a.tx,fJ (L.map (·.2))⟩,⟨3,4,75,a.rx,List.zipWith iB a.ras (Q.map (·.1))⟩,⟨4,1,9,oU,fJ (Q.map (·.2))++[[.str A.1]]⟩,⟨5,3,82,a.kx,Y.map cl⟩]:=
   p3.more g5 (λj hj=>by rw[No] at hj;have:=hE.p;omega) λj hj=>by
    rw[flatMap_push] at hj;rcases aaQ.1 hj with z|z;·exact .inl z
    ·exact .inr ⟨g6 j z,rlt j z⟩
  have k5:cellAt H4 q 3=some a.rx:=O4.c.cellAt rfl;have f4:fl [.ah,(zi 0),.ah,.ah] [(0,4,.agg (rv dx G.1.st tx sx))]=some (rv dx G.1.st tx sx):=by rw[z8 (l:=rv dx G.1.st tx sx) (n:=4) rfl zzy,pW];rfl
  have M3:(rv dx G.1.st tx sx).all aW=true:=by simp[g2.d.row.one,g2.t.one,g2.s.one,iV]
  have yt:aA H4 (rv dx G.1.st tx sx) 75 0=some (H4.next,al H4 (rv dx G.1.st tx sx) 75 0):=eA zzy;have k6:cellAt (al H4 (rv dx G.1.st tx sx) 75 0) q 3=some a.rx:=(O4.au (aD H4 (rv dx G.1.st tx sx) 75 0)).c.cellAt rfl;obtain⟨cn,H5,H6,u1,u2,u3,u4⟩:=O4.push (i:=2) (s:=⟨3,4,75,a.rx,List.zipWith iB a.ras (Q.map (·.1))⟩) rfl (vs:=rv dx G.1.st tx sx) (z:=[.ah,(zi 0),.ah,.ah]) M3 rfl (by show ((List.zipWith iB a.ras (Q.map (·.1))).length+1)*4<=_;rw[aey,hr];omega);have Rp:=u1 H4.next rfl;have E6:=E4.vn u4.n;have Q6:=u4.n;obtain⟨T6,v1,v2⟩:=u4;have n6:=v1.1;have fS:a.ras.length=(Q.map (·.1)).length:=by rw[abF];omega
  have BW:List.zipWith iB (a.ras++[RA.mk dx xs tx sx]) ((Q++[(G.1,A.1)]).map (·.1))=List.zipWith iB a.ras (Q.map (·.1))++[rv dx G.1.st tx sx]:=by rw[acZ,List.zipWith_append fS];rfl
  have O6:OS N H6 q ck {a with rx:=cn,ox:=oU,ras:=a.ras++[⟨dx,xs,tx,sx⟩]} L (Q++[(G.1,A.1)]) Y:=by
   have e2:fJ ((Q++[(G.1,A.1)]).map (·.2))=fJ (Q.map (·.2))++[[.str A.1]]:=by rw[X7,acZ];rfl
   unfold OS;rw[e2,BW];exact u3
  have iS:∀j∈[p],j∉a.ras.flatMap RA.fp:=λj hj z=>by rw[No] at hj;have:=(hO.fr _ (.tail _ (.head _)) j z).1;have:=hE.p;omega
  have v4:VS H4 a.ras (Q.map (·.1)):=((hv.out a3.o iS).out t1 λj hj=>(t2 j hj).2).out g5 iS;have v6:VS H6 (a.ras++[⟨dx,xs,tx,sx⟩]) ((Q++[(G.1,A.1)]).map (·.1)):=by rw[acZ];exact (v4.snoc fS g2).out v1 λj hj=>(v2 j hj).2
  have Yo:=(Hm.out g5 (by simp;omega)).out v1 λj hj=>by have:=(v2 j hj).1;omega
  obtain⟨x',a',H',i1,i2,i3,i4,i5,i6,i7⟩:=ahR (b0:=b0) hm eE hN hLn n (i+1) H6 x4 {a with rx:=cn,ox:=oU,ras:=a.ras++[⟨dx,xs,tx,sx⟩]} G.2 (Q++[(G.1,A.1)]) zzz (by rw[aah,hQ];rfl) O6 E6 Yo (by rw[aah,hr];rfl) v6;have iU:rN (rQ L) (n+1) s=((G.1,A.1)::(rN (rQ L) n G.2).1,(rN (rQ L) n G.2).2):=by
   have:rQ L s=((G.1,A.1),G.2):=by unfold rQ;simp only[ha,hG]
   show ((rQ L s).1::_,_)=_;rw[this]
  have vM:=lG (hO.ow 2 _ rfl).1.1.rw;refine⟨x',a',H',λvq=>?_,by rw[iU];simpa using i2,by rw[iU];exact i3,λj hj=>a3.w j (g4 j (i4 j hj)),(((eF.p a3.o).trans (eF.n Q3)).trans (eF.p g5)).trans ((eF.n Q6).trans i5),i6,by rw[iU];simpa using i7⟩;rw[ad0];cases hf:(L.map (·.1)).findIdx? (λa=>A.1==a) with
  |none=>
   rw[hf] at P7 ix;have hz:Bh L A.1=[]:=P7;rw[hz] at g1;have ix':cK (zf 104) [a.nx,.str A.1] H1=some (zi (-1),H1):=ix;have d0:decide ((0:Int) <= -1)=false:=zzx;simp(disch:=try exact zqz)only[Qh,aQ h1,a1,k1,ix',d0,k4,f1,sF,fX,p2,k3,g1,f4,yt,Rp,u2,k5,k6,eP vM,es,i1,ar,aq,zz0,simprocAttr]
  |some z=>
   rw[hf] at P7 ix;obtain⟨w,w1,w2⟩:=P7;rw[<-w2] at g1;obtain⟨b,b1,b2⟩:=r2.gh (i:=z) (v:=.str w.2) (mP (by rw[acd,w1];rfl)) .i64;have ix':cK (zf 104) [a.nx,.str A.1] H1=some (zi (z:Nat),H1):=ix;have d0:decide ((0:Int)<=((z:Nat):Int))=true:=zz3 zzz;simp(disch:=try exact zqz)only[Qh,aQ h1,a1,k1,ix',d0,k2,b1,b2,k4,f1,sF,fX,p2,k3,g1,f4,yt,Rp,u2,k5,k6,eP vM,es,i1,ar,aq,zz0,simprocAttr]
theorem al0 {N p q m:Nat}{ck:Int}(hm:m<=1000){L:List (Str×Str)}{Q:List (Rn×Str)}:∀(n i:Nat) (H:Hp) (x:AV) (a:SA) (s:Str×Bool) (Y:List Ke),i+n=m->Y.length=i->OS N H q ck a L Q Y->EJ N H p x s->VS H a.ras (Q.map (·.1))->∀b0:Nat,
  ∃x' a' H',(∀Bt:K.Fn 2,Xf JN GO cK Bt (.ptr p 0) (.ptr b0 0) (.ptr q 0) (zi (m:Nat)) (zi (i:Nat)) H=Bt (.ptr b0 0) (.ptr q 0) H')/\
   OS N H' q ck a' L Q (Y++(rN rY n s).1)/\EJ N H' p x' (rN rY n s).2/\(∀j∈ak x',j∈ak x)/\eF N p H H'/\a'.ras=a.ras/\VS H' a.ras (Q.map (·.1))
 |0,i,H,x,a,s,Y,hi,hY,hO,hE,hv,b0=>by obtain rfl:i=m:=zzz;refine⟨x,a,H,λBt=>?_,by rw[show (rN rY 0 s).1=[] from rfl,ac4];exact hO,hE,λj hj=>hj,eF.refl _ _ _,rfl,hv⟩;rw[ahk];simp only[WH,dA,zz0,simprocAttr]
 |n+1,i,H,x,a,s,Y,hi,hY,hO,hE,hv,b0=>by
  have h1:i<m:=zzz;have es:=dD h1 zzz;have k0:cellAt H q 5=some a.kx:=hO.c.cellAt rfl;obtain⟨x1,H1,a1,a2,a3⟩:=FE hE.e (m:=16) zzz;rw[show ((16:Nat):Int)=16 from rfl] at a1;have E1:EJ N H1 p x1 (gp s.1 s.2 16).2:=hE.step a2 a3;have O1:=hO.er a3 hE.p;generalize ha:gp s.1 s.2 16=A at*
  obtain⟨x2,H2,b1,b2,b3⟩:=FE E1.e (m:=16) zzz;rw[show ((16:Nat):Int)=16 from rfl] at b1;have E2:EJ N H2 p x2 (gp A.2.1 A.2.2 16).2:=E1.step b2 b3;have O2:=O1.er b3 hE.p;generalize hb:gp A.2.1 A.2.2 16=B at*
  obtain⟨x3,H3,c1,c2,c3⟩:=Eg E2.e 64;rw[show ((64:Nat):Int)=64 from rfl] at c1;have E3:EJ N H3 p x3 (eS B.2.1 B.2.2 64).2:=E2.step c2 c3;have O3:=O2.er c3 hE.p;generalize hc:eS B.2.1 B.2.2 64=C at*
  have f1:fl [(.str []),(.str [])] [(0,1,.str A.1),(1,1,.str B.1)]=some [.str A.1,.str B.1]:=rfl;have f2:fl [(.str []),(.str []),(zi 0)] [(0,2,.agg [.str A.1,.str B.1]),(2,1,zi (C.1:Nat))]=some (cl ((A.1,B.1),(C.1:Nat))):=rfl;have f3:fl [(.str []),(.str []),(zi 0)] [(0,3,.agg (cl ((A.1,B.1),(C.1:Nat))))]=some (cl ((A.1,B.1),(C.1:Nat))):=rfl;have cB:aA H3 (cl ((A.1,B.1),(C.1:Nat))) 82 0=some (H3.next,al H3 (cl ((A.1,B.1),(C.1:Nat))) 82 0):=eA (by simp[cl]);have k1:cellAt H1 q 5=some a.kx:=O1.c.cellAt rfl;have k2:cellAt H2 q 5=some a.kx:=O2.c.cellAt rfl;have k3:cellAt H3 q 5=some a.kx:=O3.c.cellAt rfl;have k4:cellAt (al H3 (cl ((A.1,B.1),(C.1:Nat))) 82 0) q 5=some a.kx:=(O3.au (aD H3 (cl ((A.1,B.1),(C.1:Nat))) 82 0)).c.cellAt rfl;obtain⟨S8,H4,H5,p1,p2,p3,p4⟩:=O3.push (i:=4) (s:=⟨5,3,82,a.kx,Y.map cl⟩) rfl (vs:=cl ((A.1,B.1),(C.1:Nat))) (z:=[(.str []),(.str []),(zi 0)]) rfl rfl (by show ((Y.map cl).length+1)*3<=_;rw[abF,hY];omega);have fX:=p1 H3.next rfl;have E5:=E3.vn p4.n;have Q5:=p4.n;obtain⟨T5,t1,t2⟩:=p4;have O5:OS N H5 q ck {a with kx:=S8} L Q (Y++[((A.1,B.1),((C.1:Nat):Int))]):=by unfold OS;rw[acZ];exact p3
  have iS:∀j∈[p],j∉a.ras.flatMap RA.fp:=λj hj z=>by rw[No] at hj;have:=(hO.fr _ (.tail _ (.head _)) j z).1;have:=hE.p;omega
  have v5:=(((hv.out a3.o iS).out b3.o iS).out c3.o iS).out t1 λj hj=>(t2 j hj).2;obtain⟨x',a',H',i1,i2,i3,i4,i5,i6,i7⟩:=al0 hm n (i+1) H5 x3 {a with kx:=S8} C.2 (Y++[((A.1,B.1),((C.1:Nat):Int))]) zzz (by rw[aah,hY];rfl) O5 E5 v5 b0;have iU:rN rY (n+1) s=(((A.1,B.1),((C.1:Nat):Int))::(rN rY n C.2).1,(rN rY n C.2).2):=by
   have:rY s=(((A.1,B.1),((C.1:Nat):Int)),C.2):=by unfold rY;simp only[ha,hb,hc]
   show ((rY s).1::_,_)=_;rw[this]
  have vM:=lG (hO.ow 4 _ rfl).1.1.rw;refine⟨x',a',H',λBt=>?_,by rw[iU];simpa using i2,by rw[iU];exact i3,λj hj=>a3.w j (b3.w j (c3.w j (i4 j hj))),(((eF.p a3.o).trans (eF.p b3.o)).trans (eF.p c3.o)).trans ((eF.n Q5).trans i5),i6,i7⟩;rw[ahk];simp(disch:=try exact zqz)only[WH,aQ h1,k0,a1,b1,f1,c1,f2,f3,cB,fX,p2,k1,k2,k3,k4,eP vM,es,i1,ar,aq,zz0,simprocAttr]
theorem auo {p:Nat}{x:AV}{s:Str×Bool}(hE:EI H p x s.1 s.2)(hg:Gl H)(eE:11<=p):
  ∃x' a H',cK (zf 68) [.ptr p 0] H=some (.agg (fc a (wU s).1),H')/\SV H'.next H' a (wU s).1/\EI H' p x' (wU s).2.1 (wU s).2.2/\(∀j∈ak x',j∈ak x)/\Out [p] H H':=by
 have C8:=hE.c.1;have dC:=hE.r.lt;have o1:=aD H zS 50 0;have c1:=aP H zS 50 0;have n1:(al H zS 50 0).next=H.next+1:=rfl;have sF:aA H [(zi 0),.ah,.ah,.ah,.ah,.ah] 50 0=some (H.next,al H zS 50 0):=eA zzy;generalize bw:al H zS 50 0=H1 at*
 obtain⟨x2,H2,a1,a2,a3⟩:=VJ (hE.au o1);generalize ha:aY s.1 s.2=A at*
 have n2:=a3.o.1;have f2:fl [(zi 0),.ah,.ah,.ah,.ah,.ah] [(0,1,zi (gu A.1))]=some [zi (gu A.1),.ah,.ah,.ah,.ah,.ah]:=rfl;have acg:aA H2 [(zi 0),.ah,.ah,.ah,.ah,.ah] 50 0=some (H2.next,al H2 [(zi 0),.ah,.ah,.ah,.ah,.ah] 50 0):=eA zzy;have HL:st 6 (.ptr H2.next 0) (.agg [zi (gu A.1),.ah,.ah,.ah,.ah,.ah]) (al H2 [(zi 0),.ah,.ah,.ah,.ah,.ah] 50 0)=some (al H2 [zi (gu A.1),.ah,.ah,.ah,.ah,.ah] 50 0):=gy rfl rfl rfl zzx rfl;have o3:=aD H2 [zi (gu A.1),.ah,.ah,.ah,.ah,.ah] 50 0;have c3:=aP H2 [zi (gu A.1),.ah,.ah,.ah,.ah,.ah] 50 0;have n3:(al H2 [zi (gu A.1),.ah,.ah,.ah,.ah,.ah] 50 0).next=H2.next+1:=rfl;generalize jg:al H2 [zi (gu A.1),.ah,.ah,.ah,.ah,.ah] 50 0=H3 at*
 have ZZ:∀j∈ak x2,j<H2.next:=λj hj=>by have:=dC j (a3.w j hj);omega
 have O3:OS H2.next H3 H2.next (gu A.1) ⟨.ah,.ah,.ah,.ah,.ah,[]⟩ [] [] []:=by
  refine⟨c3,λi s hs=>?_,zzx,?_,λl hl j hj=>?_⟩
  ·match i,hs with
   |0,hs=>cases hs;exact⟨OL.nil _ _ _,rfl,by show 0<1;omega⟩|1,hs=>cases hs;exact⟨OL.nil _ _ _,rfl,by show 0<1;omega⟩|2,hs=>cases hs;exact⟨OL.nil _ _ _,rfl,by show 0<4;omega⟩|3,hs=>cases hs;exact⟨OL.nil _ _ _,rfl,by show 0<1;omega⟩|4,hs=>cases hs;exact⟨OL.nil _ _ _,rfl,by show 0<3;omega⟩|i+5,hs=>simp at hs
  ·simp[pg,Dj,ak]
  ·simp only[pg,ak,abo,aiO,List.flatMap_nil,aal,ajX,or_false] at hl;rcases hl with rfl|rfl|rfl|rfl|rfl|rfl|rfl;·rw[No] at hj;omega
   all_goals cases hj
 have E3:EJ H2.next H3 p x2 A.2:=⟨a2.au o3,zzz,ZZ⟩;obtain⟨x4,H4,b1,b2,b3⟩:=Eg E3.e 16;rw[show ((16:Nat):Int)=16 from rfl] at b1;have E4:EJ H2.next H4 p x4 (eS A.2.1 A.2.2 16).2:=E3.step b2 b3;have O4:=O3.er b3 E3.p;have hB:=I1 A.2.1 A.2.2 16;generalize hb:eS A.2.1 A.2.2 16=B at*
 obtain⟨x5,s5,H5,d1,d2,d3,d4,d5,d6⟩:=aeR (b0:=H.next) zzz B.1 0 H4 x4 _ B.2 [] (adn _) rfl O4 E4;rw[show (((0:Nat):Int))=0 from rfl] at d1;rw[afV] at d2;have hLn:=II rD B.1 B.2;generalize hL:rN rD B.1 B.2=L at*
 obtain⟨x6,H6,e1,e2,e3⟩:=Eg d3.e 64;rw[show ((64:Nat):Int)=64 from rfl] at e1;have E6:EJ H2.next H6 p x6 (eS L.2.1 L.2.2 64).2:=d3.step e2 e3;have O6:=d2.er e3 E3.p;have hC:=I1 L.2.1 L.2.2 64;generalize hc:eS L.2.1 L.2.2 64=C at*
 have r5:s5.ras=[]:=d6;have ajL:eF H2.next p H3 H6:=((eF.p b3.o).trans d5).trans (eF.p e3.o);have Yo:Gl H6:=by obtain⟨U,u1,u2⟩:=ajL;exact (((hg.au o1).out a3.o (by simp;omega)).au o3).out u1 λj hj=>(u2 j hj).elim (λz=>zzz) λz=>zzz
 obtain⟨x7,s7,H7,g1,g2,g3,g4,g5,g6,g7⟩:=ahR (b0:=H.next) zzz eE zzz zzz C.1 0 H6 x6 s5 C.2 [] (adn _) rfl O6 E6 Yo (by rw[r5];rfl) (λi r R hr=>by rw[r5] at hr;simp at hr);rw[show (((0:Nat):Int))=0 from rfl] at g1;rw[afV] at g2 g7;have hQn:=II (rQ L.1) C.1 C.2;generalize hQ:rN (rQ L.1) C.1 C.2=Q at*
 obtain⟨x8,H8,i1,i2,i3⟩:=Eg g3.e 128;rw[show ((128:Nat):Int)=128 from rfl] at i1;have E8:EJ H2.next H8 p x8 (eS Q.2.1 Q.2.2 128).2:=g3.step i2 i3;have O8:=g2.er i3 E3.p;have hD:=I1 Q.2.1 Q.2.2 128;generalize hd:eS Q.2.1 Q.2.2 128=D at*
 have v8:=g7.out i3.o λj hj z=>by rw[No] at hj;have:=(g2.fr _ (.tail _ (.head _)) j z).1;have:=E3.p;omega
 obtain⟨x9,s9,H9,j1,j2,j3,j4,j5,j6,j7⟩:=al0 zzz D.1 0 H8 x8 s7 D.2 [] (adn _) rfl O8 E8 v8 H.next;rw[show (((0:Nat):Int))=0 from rfl] at j1;rw[afV] at j2;generalize hY:rN rY D.1 D.2=Y at*
 have hR:wU s=(⟨gu A.1,L.1.map (·.1),L.1.map (·.2),Q.1.map (·.1),Q.1.map (·.2),Y.1⟩,Y.2):=by unfold wU;simp only[ha,hb,hL,hc,hQ,hd,hY]
 rw[hR];have aos:eF H2.next p H3 H9:=(((ajL.trans g5).trans (eF.p i3.o)).trans j5);have n9:=aos.nx;have k9:av H9 H2.next 0 6=some [zi (gu A.1),s9.nx,s9.tx,s9.rx,s9.ox,s9.kx]:=j2.c.av 6 0 zzy;obtain⟨U,u1,u2⟩:=aos;have ja:H.next∉U:=λz=>(u2 _ z).elim (λw=>zzz) λw=>zzz;have cb:=(((c1.out a3.o (by simp;omega)).out o3 zzy).out u1 ja);have w0:=(j2.ow 0 _ rfl).1;have w1:=(j2.ow 1 _ rfl).1;have w2:=(j2.ow 2 _ rfl).1;have w3:=(j2.ow 3 _ rfl).1;have w4:=(j2.ow 4 _ rfl).1;simp only at w0 w1 w2 w3 w4;obtain⟨mz,t1,t2,t3,t4⟩:=iE (n:=6) (vs:=[zi (gu A.1),s9.nx,s9.tx,s9.rx,s9.ox,s9.kx]) cb rfl rfl (by simp[w0.rl.one,w1.rl.one,w2.rl.one,w3.rl.one,w4.rl.one,iV]);have uA:av mz H.next 0 6=some [zi (gu A.1),s9.nx,s9.tx,s9.rx,s9.ox,s9.kx]:=t2.av 6 0 zzy;have n10:=t3.1;have ne:∀{l:List Nat},l∈pg H2.next (s9.ras.flatMap RA.fp) [⟨1,1,9,s9.nx,fJ (L.1.map (·.1))⟩,⟨2,1,9,s9.tx,fJ (L.1.map (·.2))⟩,⟨3,4,75,s9.rx,List.zipWith iB s9.ras (Q.1.map (·.1))⟩,⟨4,1,9,s9.ox,fJ (Q.1.map (·.2))⟩,⟨5,3,82,s9.kx,Y.1.map cl⟩]->∀j∈l,j∉[H.next]:=λhl j hj z=>by rw[No] at z;have:=j2.fr _ hl j hj;omega
 have lt:∀{l:List Nat},l∈pg H2.next (s9.ras.flatMap RA.fp) [⟨1,1,9,s9.nx,fJ (L.1.map (·.1))⟩,⟨2,1,9,s9.tx,fJ (L.1.map (·.2))⟩,⟨3,4,75,s9.rx,List.zipWith iB s9.ras (Q.1.map (·.1))⟩,⟨4,1,9,s9.ox,fJ (Q.1.map (·.2))⟩,⟨5,3,82,s9.kx,Y.1.map cl⟩]->∀j∈l,j<mz.next:=λhl j hj=>by have:=j2.fr _ hl j hj;omega
 have M:∀i l,(pg H2.next (s9.ras.flatMap RA.fp) [⟨1,1,9,s9.nx,fJ (L.1.map (·.1))⟩,⟨2,1,9,s9.tx,fJ (L.1.map (·.2))⟩,⟨3,4,75,s9.rx,List.zipWith iB s9.ras (Q.1.map (·.1))⟩,⟨4,1,9,s9.ox,fJ (Q.1.map (·.2))⟩,⟨5,3,82,s9.kx,Y.1.map cl⟩])[i]?=some l->(∀j∈l,j∉[H.next])/\∀j∈l,j<mz.next:=λi l hl=>⟨ne (aab hl),lt (aab hl)⟩;have sv:SV mz.next mz s9 ⟨gu A.1,L.1.map (·.1),L.1.map (·.2),Q.1.map (·.1),Q.1.map (·.2),Y.1⟩:=by
  have a0:=w0.1.rw.out t3 (M 2 _ rfl).1;have a1:=w1.1.rw.out t3 (M 3 _ rfl).1;have a3:=w3.1.rw.out t3 (M 5 _ rfl).1;rw[aaT] at a0 a1 a3;refine⟨a0,a1,w2.rl.out t3 (M 4 _ rfl).1,?_,?_,a3,w4.rl.out t3 (M 6 _ rfl).1,λj hj=>?_⟩;·rw[j6];refine j7.out t3 λj hj z=>?_;rw[<-j6] at z;exact (M 1 _ rfl).1 j z hj
  ·rw[j6,g6];show _=(Q.1.map (·.1)).length;rw[abF,hQn]
  ·rcases hj with q|q|q|q|q|q;·exact (M 2 _ rfl).2 j q
   ·exact (M 3 _ rfl).2 j q
   ·exact (M 4 _ rfl).2 j q
   ·exact (M 5 _ rfl).2 j q
   ·exact (M 6 _ rfl).2 j q
   ·exact (M 1 _ rfl).2 j q
 have hx9:∀j∈ak x9,j∈ak x:=λj hj=>a3.w j (b3.w j (d4 j (e3.w j (g4 j (i3.w j (j4 j hj))))));refine⟨x9,s9,mz,au3 ?_,sv,j3.e.out t3 (by simp;omega) (λj hj z=>by rw[No] at z;have:=dC j (hx9 j hj);omega),hx9,?_⟩;·unfold afg;have k9':av H9 H2.next 0 6=some (fc s9 ⟨gu A.1,L.1.map (·.1),L.1.map (·.2),Q.1.map (·.1),Q.1.map (·.2),Y.1⟩):=k9;have Zi:st 6 (.ptr H.next 0) (.agg (fc s9 ⟨gu A.1,L.1.map (·.1),L.1.map (·.2),Q.1.map (·.1),Q.1.map (·.2),Y.1⟩)) H9=some mz:=t1;have ayW:av mz H.next 0 6=some (fc s9 ⟨gu A.1,L.1.map (·.1),L.1.map (·.2),Q.1.map (·.1),Q.1.map (·.2),Y.1⟩):=uA;simp(disch:=try exact zqz)only[sF,a1,f2,acg,HL,jg,b1,d1,e1,g1,i1,j1,k9',Zi,ayW,ar,aq,zz0,simprocAttr]
 ·refine⟨zzz,λj hj hs=>?_⟩;have aE:j∉U:=λz=>(u2 j z).elim (λw=>zzz) λw=>hs (by rw[w];exact .head _);rw[t3.2 j zzz (λz=>by rw[No] at z;omega),u1.2 j zzz aE,o3.2 j zzz zzy,a3.o.2 j zzz hs,o1.2 j hj zzy]
end
theorem acU:∀(l:Str) (k v v':Nat) (r:Str),bB l->rC k v l=some (v',r)->bB r
 |[],k,v,v',r,h,e=>by rw[rC] at e;cases e
 |b::l,k,v,v',r,h,e=>by
  have hl:bB l:=λc hc=>h c (.tail _ hc);rw[rC] at e;split at e;·cases e
  ·split at e;·exact acU l _ _ _ _ hl e
   ·split at e;·cases e
    ·cases e;exact hl
theorem LU {s:Str×Bool}(h:bB s.1):bB (aY s.1 s.2).2.1:=by
 unfold aY;cases hr:rC 0 0 s.1 with
 |none=>intro c hc;cases hc
 |some x=>exact acU _ _ _ _ _ h hr
theorem Ec {s:Str×Bool}(h:bB s.1)(m:Nat):bB (eS s.1 s.2 m).2.1:=by
 unfold eS;split;·intro c hc;cases hc
 ·exact LU h
theorem CR {s:Str×Bool}(h:bB s.1)(m:Nat):bB (gp s.1 s.2 m).2.1/\bB (gp s.1 s.2 m).1:=by
 have:=LU h;unfold gp;split;·exact⟨λc hc=>(by cases hc),λc hc=>by cases hc⟩
 ·exact⟨λc hc=>this c (List.mem_of_mem_drop hc),λc hc=>this c (List.mem_of_mem_take hc)⟩
theorem Ij {α:Type}{f:Str×Bool->α×Str×Bool}{Q:α->Prop}(h:∀s:Str×Bool,bB s.1->bB (f s).2.1/\Q (f s).1):∀(n:Nat) (s:Str×Bool),bB s.1->bB (rN f n s).2.1/\∀a∈(rN f n s).1,Q a
 |0,s,hs=>⟨hs,λa ha=>by cases ha⟩|n+1,s,hs=>by obtain⟨a,b⟩:=h s hs;obtain⟨c,d⟩:=Ij h n (f s).2 a;exact⟨c,λx hx=>(aal.1 hx).elim (λe=>e▸b) (d x)⟩
theorem aDU (s:Str×Bool)(h:bB s.1):bB (rT s).2.1/\bB (rT s).1.iT:=by have a:=Ec h 255;have b:=Ec (s:=(eS s.1 s.2 255).2) a 255;have c:=LU (s:=(eS (eS s.1 s.2 255).2.1 (eS s.1 s.2 255).2.2 255).2) b;exact CR (s:=(aY _ _).2) c 64
theorem awh {D:List Tk}(hD:D.length<=16)(s:Str×Bool)(h:bB s.1):bB (getM D s).2.1/\((getM D s).1.rs.length<=16/\(getM D s).1.sg.length<=16/\DB (getM D s).1):=by
 have a:=Ec h 255;obtain⟨b1,b2⟩:=Ij (Q:=λr:RT=>bB r.iT) aDU D.length (eS s.1 s.2 255).2 a;have c:=Ec b1 16;obtain⟨d1,d2⟩:=Ij (f:=λs:Str×Bool=>gp s.1 s.2 16) (Q:=λ_=>True) (λs h=>⟨(CR h 16).1,trivial⟩) (eS (rN rT D.length (eS s.1 s.2 255).2).2.1 (rN rT D.length (eS s.1 s.2 255).2).2.2 16).1 _ c;refine⟨d1,?_,?_,b2⟩;·show (rN rT D.length _).1.length<=16;rw[II];exact hD
 ·show (rN _ _ _).1.length<=16;rw[II];exact I1 _ _ _
theorem awP (s:Str×Bool)(h:bB s.1):(wU s).1.nms.length<=16/\(∀R∈(wU s).1.rs,R.rs.length<=16/\R.sg.length<=16/\DB R)/\∀y∈(wU s).1.ks,bB y.1.2:=by
 have a:=LU h;have b:=Ec a 16;obtain⟨c,_⟩:=Ij (f:=rD) (Q:=λ_=>True) (λs h=>⟨(CR (CR h 16).1 1024).1,trivial⟩) (eS (aY s.1 s.2).2.1 (aY s.1 s.2).2.2 16).1 _ b;have d:=Ec c 64;obtain⟨e,e2⟩:=Ij (f:=rQ (rN rD (eS (aY s.1 s.2).2.1 (aY s.1 s.2).2.2 16).1 (eS (aY s.1 s.2).2.1 (aY s.1 s.2).2.2 16).2).1) (Q:=λx:Rn×Str=>x.1.rs.length<=16/\x.1.sg.length<=16/\DB x.1) (λs h=>awh (afH _) _ (CR h 16).1) _ _ d;have f:=Ec e 128;obtain⟨_,g⟩:=Ij (f:=rY) (Q:=λy:Ke=>bB y.1.2) (λs h=>⟨Ec (CR (CR h 16).1 16).1 64,(CR (CR h 16).1 16).2⟩) _ _ f;refine⟨?_,λR hR=>?_,g⟩;·show ((rN rD _ _).1.map (·.1)).length<=16;rw[abF,II];exact I1 _ _ _
 ·obtain⟨x,hx,rfl⟩:=abN.1 hR;exact e2 x hx
section
variable {H:Hp}{f:Fm}{off:Nat}{x:AV}
theorem aq7 {l:List AV}(hx:Rw H 1 x l)(ho:∀v∈l,aW v=true)(hl:l.length<=16777216):
  ∃y H',cK (zf 66) [x] H=some (y,H')/\Ow H' 5 1 y l/\Out [] H H'/\(∀j∈ak y,H.next<=j):=by
 have hu:P.underlying 52=some (.slice 5):=Tryz.underlying52;by_cases h0:x=.ah
 ·subst h0;have:l=[]:=by cases hx;rfl
  subst this;refine⟨.ah,H,akp ?_,.nil,Out.refl _ _,λj hj=>by simp[ak] at hj⟩;unfold aa3;simp only[Kv,nw,HP hu,zz0,simprocAttr]
 ·obtain⟨y,H',h1,h2,h3,h4⟩:=JK (el:=5) (el2:=5) (z:=[(.int .u8 0)]) hx ho zzx hl;refine⟨y,H',akp ?_,h2,h3,h4⟩;have hq:∃i o n c ex es',x=.slice i o n c ex es':=by
   cases hx with
   |nil=>exact absurd rfl h0|emp=>exact⟨_,_,_,_,_,_,rfl⟩|mk _ _ _ _=>exact⟨_,_,_,_,_,_,rfl⟩
  obtain⟨i,o,n,c,ex,es',rfl⟩:=hq;unfold aa3;have cB:aA H [] 5 0=some (H.next,al H [] 5 0):=eA zzy;simp only[JZ,nw,I2 hu,pW,cB,h1,zz0,simprocAttr]
theorem acr {y:AV}{l m:Str}(hx:Rw H 1 x (bs l))(hl:bB l)(hy:Rw H 1 y (bs m))(hm:bB m):cK (zf 70) [x,y] H=some (.bool (l==m),H):=by have a:=zw hx hl;have b:=zw hy hm;refine aCV ?_;unfold afk;simp(disch:=try exact zqz)only[a,b,ar,aq,zz0,simprocAttr]
noncomputable def tu (b:Str):Int:=gu (aY (b.take (b.length-4)) false).1
noncomputable def Hs (b:Str):SS×Str×Bool:=wU (aY (b.take (b.length-4)) false).2
noncomputable def ql (b:Str):Option (Fm×Nat):=
 if b.length<4\/1048576<b.length then none else match oY (Hs b).1 with
 |none=>none|some f=>if ((Hs b).2.2=false/\(Hs b).2.1=[])/\(0<=tu b/\tu b<=17592186044415)/\nc f (tu b).toNat=b then some (f,(tu b).toNat) else none
theorem awZ (l:Str):∀v∈bs l,aW v=true:=λv hv=>by obtain⟨_,_,rfl⟩:=abN.1 hv;rfl
theorem aqN {b:Str}(hx:Rw H 1 x (bs b))(hb:bB b)(hg:Gl H)(hn:11<=H.next):
  ∃p a H',cK (zf 27) [x] H=(match ql b with|none=>some (.tuple [.dE,zi 0,zi 2],H')|some r=>some (.tuple [.ptr p 0,zi (r.2:Nat),zi 0],H'))/\Out [] H H'/\
   ∀r,ql b=some r->FL H' p a r.1/\okM r.1/\(∀j∈own p a,H.next<=j)/\∀j∈bq.cY a,H.next<=j:=by
 have fU:=hx.gX;rw[nC] at fU;by_cases h4:b.length<4
 ·have e:ql b=none:=by unfold ql;rw[zz2 (.inl h4)]
  have d1:decide (((b.length:Nat):Int)<4)=true:=zz3 zzz;rw[e];refine⟨0,⟨0,0,0,.ah,.ah,.ah,[]⟩,H,GP ?_,Out.refl _ _,λr h=>by cases h⟩;unfold Eo;simp(disch:=try exact zqz)only[fU,d1,ar,aq,zz0,simprocAttr]
 have d1:decide (((b.length:Nat):Int)<4)=false:=zz4 zzz;by_cases h5:1048576<b.length
 ·have e:ql b=none:=by unfold ql;rw[zz2 (.inr h5)]
  have d2:decide ((1048576:Int)<((b.length:Nat):Int))=true:=zz3 zzz;rw[e];refine⟨0,⟨0,0,0,.ah,.ah,.ah,[]⟩,H,GP ?_,Out.refl _ _,λr h=>by cases h⟩;unfold Eo;simp(disch:=try exact zqz)only[fU,d1,d2,ar,aq,zz0,simprocAttr]
 have d2:decide ((1048576:Int)<((b.length:Nat):Int))=false:=zz4 zzz;have w1:IntKind.wrap .i64 (((b.length:Nat):Int)-4)=((b.length-4:Nat):Int):=by rw[wrap_i64 zzz zzz];omega
 obtain⟨y,y1,y2,y3⟩:=Ar (n:=b.length) hx (by rw[nC,adV]) zzx (a:=0) (b:=b.length-4) (lo:=none) (hi:=some (zi ((b.length-4:Nat):Int))) (abg _) zzz (Bd.no 0) (Bd.yes _ _ _);have e0:((bs b).drop (0*1)).take ((b.length-4-0)*1)=bs (b.take (b.length-4)):=by rw[ahD,aaM,adV,agN];unfold bs;rw[List.map_take]
 rw[e0] at y2;have ns:(b.take (b.length-4)).length<=1048576:=by rw[ad9];omega
 have RX:bB (b.take (b.length-4)):=λc hc=>hb c (List.mem_of_mem_take hc);have arV:tu b=gu (aY (b.take (b.length-4)) false).1:=rfl;have Nr:Hs b=wU (aY (b.take (b.length-4)) false).2:=rfl;obtain⟨cx,H1,c1,c2,c3,c4⟩:=aq7 y2 (awZ _) (by rw[nC];omega);generalize b.take (b.length-4)=c at*
 have n1:=c3.1;have f1:fl [.ah,(.bool false)] [(0,1,cx)]=some [cx,.bool false]:=by rw[yW c2.rw.one zzy,pW];rfl
 have sF:aA H1 [.ah,(.bool false)] 126 0=some (H1.next,al H1 [.ah,(.bool false)] 126 0):=eA zzy;have xn:st 2 (.ptr H1.next 0) (.agg [cx,.bool false]) (al H1 [.ah,(.bool false)] 126 0)=some (al H1 [cx,.bool false] 126 0):=gy (by simp[c2.rw.one,Y0]) rfl rfl zzx rfl;have o2:=aD H1 [cx,.bool false] 126 0;have a2:=aP H1 [cx,.bool false] 126 0;have n2:(al H1 [cx,.bool false] 126 0).next=H1.next+1:=rfl;have avC:=c2.rw.lt;generalize bF:al H1 [cx,.bool false] 126 0=H2 at*
 have E2:EI H2 H1.next cx c false:=⟨a2,(c2.rw.au o2),λz=>by have:=avC _ z;omega,RX,zzz,λz=>by cases z⟩;obtain⟨x3,H3,i1,i2,i3⟩:=VJ E2;have n3:=i3.o.1;have mS:=(hg.au c3).au o2;have Hm:=mS.out i3.o (by simp;omega);have Mv:bB (aY c false).2.1:=LU (s:=(c,false)) RX;rw[<-arV] at i1;obtain⟨x4,sa,H4,j1,j2,j3,j4,j5⟩:=auo (s:=(aY c false).2) i2 Hm zzz;obtain⟨k1,k2,k3⟩:=awP (aY c false).2 Mv;rw[<-Nr] at j1 j2 j3 k1 k2 k3;have n4:=j5.1;have hg4:=Hm.out j5 (by simp;omega);generalize hR:Hs b=R at*
 have xe:st 6 (.ptr H4.next 0) (.agg (fc sa R.1)) (al H4 [(zi 0),.ah,.ah,.ah,.ah,.ah] 50 0)=some (al H4 (fc sa R.1) 50 0):=gy (by simp[fc,j2.n.one,j2.t.one,j2.r.one,j2.o.one,j2.k.one,iV]) rfl rfl zzx rfl;have yt:aA H4 [(zi 0),.ah,.ah,.ah,.ah,.ah] 50 0=some (H4.next,al H4 [(zi 0),.ah,.ah,.ah,.ah,.ah] 50 0):=eA zzy;have o5:=aD H4 (fc sa R.1) 50 0;have c5:=aP H4 (fc sa R.1) 50 0;have n5:(al H4 (fc sa R.1) 50 0).next=H4.next+1:=rfl;generalize hA5:al H4 (fc sa R.1) 50 0=H5 at*
 have k5:av H5 H4.next 0 6=some (fc sa R.1):=c5.av 6 0 (by simp[fc]);obtain⟨p,a,H6,m1,m0,m2⟩:=aHv ((j2.au o5).mono zzz) (hg4.au o5) zzz λQ hQ=>by have:=k2 Q hQ;omega
 have oN:∀{X:Hp},Out [] H5 X->Out [] H X:=λ{X} hX=>(fh (c3.trans o2) (i3.o.trans j5) (la n1)).trans (o5.trans hX);have E6:EI H6 H1.next x4 R.2.1 R.2.2:=(j3.au o5).au m0;have en:=asR E6;have hN:H.next<=H5.next:=zzz;cases hF:oY R.1 with
 |none=>
  have e:ql b=none:=by unfold ql;rw[zz1 zzz,hR,hF]
  rw[hF] at m1;simp only at m1;rw[e];refine⟨0,⟨0,0,0,.ah,.ah,.ah,[]⟩,H6,GP ?_,oN m0,λr h=>by cases h⟩;unfold Eo;cases hE:(!R.2.2&&decide (R.2.1.length=0))<;>rw[hE] at en<;>simp(disch:=try exact zqz)only[fU,d1,d2,w1,y1,c1,f1,sF,xn,bF,i1,j1,yt,xe,hA5,k5,m1,en,ar,aq,zz0,simprocAttr]
 |some f=>
  rw[hF] at m1;simp only at m1;obtain⟨u1,u2,u3,u4⟩:=m2 f hF;have mK:=ard hF u1.qR k2 k1 k3;cases hE:(!R.2.2&&decide (R.2.1.length=0)) with
  |false=>
   rw[hE] at en;have e:ql b=none:=by unfold ql;rw[zz1 zzz,hR,hF];refine zz1 λq=>?_;rw[q.1.1,q.1.2] at hE;cases hE
   rw[e];refine⟨0,⟨0,0,0,.ah,.ah,.ah,[]⟩,H6,GP ?_,oN m0,λr h=>by cases h⟩;unfold Eo;simp(disch:=try exact zqz)only[fU,d1,d2,w1,y1,c1,f1,sF,xn,bF,i1,j1,yt,xe,hA5,k5,m1,en,ar,aq,zz0,simprocAttr]
  |true=>
   rw[hE] at en;have aBU:R.2.2=false/\R.2.1=[]:=by rw[aam,zz5] at hE;exact⟨by simpa using hE.1,alI hE.2⟩
   have hx6:Rw H6 1 x (bs b):=hx.au (oN m0);by_cases Sd:0<=tu b/\tu b<=17592186044415
   ·obtain⟨z,H7,v1,v2,v3,v4⟩:=MF u1 mK (off:=(tu b).toNat) zzz;rw[afJ Sd.1] at v1;have q:=acr v2.rw (EC mK _) (hx6.au v3) hb;by_cases hp:nc f (tu b).toNat=b
    ·have e:ql b=some (f,(tu b).toNat):=by unfold ql;rw[zz1 zzz,hR,hF];exact zz2 ⟨aBU,Sd,hp⟩
     have qt:(nc f (tu b).toNat==b)=true:=by simp[hp]
     rw[qt] at q;rw[e];refine⟨p,a,H7,GP ?_,oN (m0.trans v3),λr h=>?_⟩;·simp only[afJ Sd.1];unfold Eo;simp(disch:=try exact zqz)only[fU,d1,d2,w1,y1,c1,f1,sF,xn,bF,i1,j1,yt,xe,hA5,k5,m1,en,v1,q,ar,aq,zz0,simprocAttr]
     ·cases h;exact⟨u1.au v3,mK,λj hj=>by have:=u3 j hj;omega,λj hj=>by have:=u4 j hj;omega⟩
    ·have e:ql b=none:=by unfold ql;rw[zz1 zzz,hR,hF];exact zz1 λq=>hp q.2.2
     have qf:(nc f (tu b).toNat==b)=false:=by simpa using hp
     rw[qf] at q;rw[e];refine⟨0,⟨0,0,0,.ah,.ah,.ah,[]⟩,H7,GP ?_,oN (m0.trans v3),λr h=>by cases h⟩;unfold Eo;simp(disch:=try exact zqz)only[fU,d1,d2,w1,y1,c1,f1,sF,xn,bF,i1,j1,yt,xe,hA5,k5,m1,en,v1,q,ar,aq,zz0,simprocAttr]
   ·have v1:=aqG (H:=H6) (p:=p) (off:=tu b) zzz;have q:=acr (l:=[]) (.nil:Rw H6 1 .ah (bs [])) (λc hc=>by cases hc) hx6 hb;have qf:(([]:Str)==b)=false:=by
     cases b with
     |nil=>exact absurd (show ([]:Str).length<4 by decide) h4|cons _ _=>rfl
    rw[qf] at q;have e:ql b=none:=by unfold ql;rw[zz1 zzz,hR,hF];exact zz1 λq=>Sd q.2.1
    rw[e];refine⟨0,⟨0,0,0,.ah,.ah,.ah,[]⟩,H6,GP ?_,oN m0,λr h=>by cases h⟩;unfold Eo;simp(disch:=try exact zqz)only[fU,d1,d2,w1,y1,c1,f1,sF,xn,bF,i1,j1,yt,xe,hA5,k5,m1,en,v1,q,ar,aq,zz0,simprocAttr]
theorem azx (f:Fm)(off:Nat):(nc f off).take ((nc f off).length-4)=uD f off:=by unfold nc;rw[aah,VX,Nat.add_sub_cancel,List.take_left]
theorem aC9 (h:okM f)(ho:off<=17592186044415):4<=(nc f off).length/\(nc f off).length<=400014:=by have:=anK h (off:=off) zzz;unfold nc;rw[aah,VX];omega
theorem azg (h:okM f)(ho:off<=17592186044415)(b X:Str)(hb:b.take (b.length-4)=uD f off++X):tu b=(off:Nat)/\Hs b=(gJ f,X,false):=by unfold tu Hs;rw[hb];unfold uD;rw[abC,G7 zzz];exact⟨UL zzz,Y3 h X⟩
theorem aCn (h:okM f)(hf:oY (gJ f)=some f)(ho:off<=17592186044415):ql (nc f off)=some (f,off):=by have hl:=aC9 h ho;obtain⟨a,b⟩:=azg h ho (nc f off) [] (by rw[azx,ac4]);unfold ql;rw[zz1 zzz,a,b];simp only[hf];rw[zz2 ⟨⟨trivial,trivial⟩,⟨zzz,zzz⟩,by rw[abO]⟩,abO]
end
def zY:List Ev:=[⟨1,0,0,0,0,[100],[],[97,59,98,32,97,102,116,101,114,61,97,32,114,101,116,114,121,61,50]⟩,⟨2,1,0,0,0,[100],[107],[]⟩,⟨3,1,0,1,0,[],[],[]⟩]
def Sb (e:Ev):Prop:=bB e.dt/\bB e.ky
theorem FY.b {e:Ev}(h:FY e):Sb e:=⟨h.dt.1,h.ky.1⟩
theorem Wt:∀{l:List Ev} {f:Fm},FB f->(∀e∈l,Sb e)->FB (allM f l)
 |[],f,h,_=>h|e::r,f,h,hb=>Wt (l:=r) (aeY h (hb e (.head _)).1 (hb e (.head _)).2) λx hx=>hb x (.tail _ hx)
theorem apv:∀e∈zY,Sb e:=by
 intro e he;simp only[zY,aal,ajX,or_false] at he;rcases he with rfl|rfl|rfl
 all_goals
  constructor<;>intro c hc<;>simp only[aal,ajX,or_false] at hc<;>omega
noncomputable def Ay:Fm:=allM qh zY
theorem JW:FI Ay:=Xr fi0
theorem ajo:FB Ay:=Wt fb0 apv
theorem ava:Ay.aw.length=1:=zzw
theorem alz {p:Nat}{x:AV}{l:List Ev}(hl:l.length<=1000):∀(r:List Ev) (i:Nat) (H:Hp) (a:FA) (f:Fm),i<=l.length->l.drop i=r->RL H 8 x (oZ l)->(∀j∈ak x,j∉own p a)->FL H p a f->FI f->Gl H->
  ∃a' H',(∀eC:K.Fn 1,Uf JN GO cK eC x (.ptr p 0) (zi (i:Nat)) H=eC (.ptr p 0) H')/\FL H' p a' (allM f r)/\FSt H H' p a a'
 |[],i,H,a,f,hi,h,hx,hd,hF,hI,hg=>by obtain rfl:=drop_nil hi h;have fU:=Hj hx;refine⟨a,H,λeC=>?_,hF,FSt.same (Out.refl _ _) p a⟩;rw[ai2];simp(disch:=try exact zqz)only[abA,fU,dA,ar,aq,zz0,simprocAttr]
 |e::r,i,H,a,f,hi,h,hx,hd,hF,hI,hg=>by obtain⟨h1,h2,h3⟩:=dU h;have es:=dD h1 zzz;have fU:=Hj hx;obtain⟨b,o,q1,q2,q3,q4,q5⟩:=hx.at zzx (V1 h2);obtain⟨a',H2,u1,u2,u3⟩:=abK hF hg hI.ok e;have dC:=hx.1.lt;obtain⟨a2,H',i1,i2,i3⟩:=alz hl r (i+1) H2 a' (yU f e).1 h1 h3 (hx.out u3.o λj hj z=>hd j hj z) (λj hj z=>(u3.w j z).elim (hd j hj) λz=>by have:=dC j hj;omega) u2 (TJ hI e) (hg.out u3.o hF.lo);refine⟨a2,H',λeC=>?_,i2,u3.trans i3⟩;rw[ai2];simp(disch:=try exact zqz)only[abA,fU,aQ h1,q1,q4,u1,es,i1,ar,aq,zz0,simprocAttr]
theorem anh {x:AV}{l:List Ev}{H:Hp}(hl:l.length<=1000)(hx:RL H 8 x (oZ l))(hg:Gl H)(hn:11<=H.next):
  ∃p a H',cK (zf 25) [x] H=some (.ptr p 0,H')/\FL H' p a (allM Ay l)/\Out [] H H'/\(∀j∈own p a,H.next<=j)/\∀j∈bq.cY a,H.next<=j:=by
 have f1:fl [(zi 0),(zi 0),(zi 0),(zi 0),(zi 0),(.str []),(.str []),(.str [])] [(0,1,(zi 1)),(5,1,(.str [100])),(7,1,(.str [97,59,98,32,97,102,116,101,114,61,97,32,114,101,116,114,121,61,50]))]=some (aS ⟨1,0,0,0,0,[100],[],[97,59,98,32,97,102,116,101,114,61,97,32,114,101,116,114,121,61,50]⟩):=rfl;have f2:fl [(zi 0),(zi 0),(zi 0),(zi 0),(zi 0),(.str []),(.str []),(.str [])] [(0,1,(zi 2)),(1,1,(zi 1)),(5,1,(.str [100])),(6,1,(.str [107]))]=some (aS ⟨2,1,0,0,0,[100],[107],[]⟩):=rfl;have f3:fl [(zi 0),(zi 0),(zi 0),(zi 0),(zi 0),(.str []),(.str []),(.str [])] [(0,1,(zi 3)),(1,1,(zi 1)),(3,1,(zi 1))]=some (aS ⟨3,1,0,1,0,[],[],[]⟩):=rfl;have f4:fl [(zi 0),(zi 0),(zi 0),(zi 0),(zi 0),(.str []),(.str []),(.str []),(zi 0),(zi 0),(zi 0),(zi 0),(zi 0),(.str []),(.str []),(.str []),(zi 0),(zi 0),(zi 0),(zi 0),(zi 0),(.str []),(.str []),(.str [])] [(0,8,(.agg (aS ⟨1,0,0,0,0,[100],[],[97,59,98,32,97,102,116,101,114,61,97,32,114,101,116,114,121,61,50]⟩))),(8,8,(.agg (aS ⟨2,1,0,0,0,[100],[107],[]⟩))),(16,8,(.agg (aS ⟨3,1,0,1,0,[],[],[]⟩)))]=some (oZ zY).flatten:=rfl;have cB:aA H (oZ zY).flatten 26 0=some (H.next,al H (oZ zY).flatten 26 0):=eA zzx;have o1:=aD H (oZ zY).flatten 26 0;have c1:=aP H (oZ zY).flatten 26 0;have n1:(al H (oZ zY).flatten 26 0).next=H.next+1:=rfl;generalize al H (oZ zY).flatten 26 0=H1 at*
 have hr:RL H1 8 (.slice H.next 0 3 3 true 8) (oZ zY):=⟨.mk c1.ro rfl (aaq _) rfl,λc hc=>by obtain⟨e,_,rfl⟩:=abN.1 hc;rfl⟩;obtain⟨p,a,H2,u1,u2,u3,u4,u5⟩:=aFW zzx (hg.au o1) zzz hr;have n2:=u3.1;have dC:=hx.1.lt;obtain⟨a',H3,i1,i2,i3⟩:=alz hl l 0 H2 a _ (abg _) aaM ((hx.au o1).au u3) (λj hj z=>by have:=dC j hj;have:=u4 j z;omega) u2 JW ((hg.au o1).au u3);rw[show (((0:Nat):Int))=0 from rfl] at i1;refine⟨p,a',H3,aBR ?_,i2,fh (o1.trans u3) i3.o λj hj=>by have:=u4 j hj;omega,λj hj=>(i3.w j hj).elim (λz=>by have:=u4 j z;omega) λz=>zzz,λj hj=>(i3.i j hj).elim (λz=>by have:=u5 j z;omega) λz=>zzz⟩;unfold aoq;simp(disch:=try exact zqz)only[f1,f2,f3,f4,cB,u1,i1,ar,aq,zz0,simprocAttr]
theorem awG {f:Fm}{off:Nat}(ho:off<64):4<(nc f off).length:=by unfold nc uD;rw[JC zzz,aah,VX,aah,List.length_singleton];omega
theorem aEo {H:Hp}(hg:Gl H)(hn:11<=H.next):∃H',cK (zf 24) [] H=some (.bool true,H')/\Out [] H H':=by obtain⟨p,a,H1,m1,m2,m3,m4,m5⟩:=anh (l:=[]) (abg _) (RL.nil H 8) hg hn;have m2:FL H1 p a Ay:=m2;have mK:=Ml JW ajo;have n1:=m3.1;obtain⟨x,H2,v1,v2,v3,v4⟩:=MF m2 mK (off:=7) zzz;have n2:=v3.1;have v1:cK (zf 26) [.ptr p 0,zi 7] H1=some (x,H2):=v1;obtain⟨q,b,H3,g1,g2,g3⟩:=aqN v2.rw (EC mK 7) ((hg.au m3).au v3) zzz;have hr:=aCn mK (abD JW) (off:=7) zzz;rw[hr] at g1;simp only at g1;have g1:cK (zf 27) [x] H2=some (.tuple [.ptr q 0,zi 7,zi 0],H3):=g1;obtain⟨h1,_,h3,h4⟩:=g3 _ hr;have f3:=(m2.au v3).au g2;obtain⟨H4,t1,t2⟩:=ac3 f3 h1 JW.sz JW.sz;rw[aga] at t1;have l3:=aEs f3;rw[ava] at l3;have l3:cK (zf 29) [.ptr p 0] H3=some (zi 1,H3):=l3;have lx:=(v2.rw.au g2).gX;rw[nC] at lx;have d4:decide ((4:Int)<(((nc Ay 7).length:Nat):Int))=true:=zz3 (by have:=awG (f:=Ay) (off:=7) zzz;omega);refine⟨H4,aGG ?_,((m3.trans v3).trans g2).trans t2⟩;unfold afQ;simp(disch:=try exact zqz)only[m1,v1,g1,l3,lx,d4,t1,ar,aq,zz0,simprocAttr]
theorem agG {f g:Fm}(hf:okM f)(hg:okM g){a b:Nat}(ha:a<=17592186044415)(hb:b<=17592186044415){X Y:Str}(h:uD f a++X=uD g b++Y):gJ f=gJ g/\a=b/\X=Y:=by unfold uD at h;rw[abC,abC] at h;have h1:=G7 (n:=2*a) zzz (Ao f++X);rw[h,G7 (n:=2*b) zzz] at h1;have e1:2*b=2*a:=congrArg (·.1) h1;have e2:Ao g++Y=Ao f++X:=congrArg (·.2.1) h1;have h2:=Y3 hf X;rw[<-e2,Y3 hg] at h2;exact⟨(congrArg (·.1) h2).symm,zzz,(congrArg (·.2.1) h2).symm⟩
section
variable {f:Fm}(hf:okM f){off:Nat}(ho:off<=17592186044415) include hf ho
end
theorem Y7 {α β:Type}{p:α->α->Bool}{k:α->β}(hp:∀a b,p a b=true->k a=k b):∀(l m:List α),l.length=m.length->py p l m=true->l.map k=m.map k
 |[],[],_,_=>rfl|[],b::m,h,_=>by cases h
 |a::l,[],h,_=>by cases h
 |a::l,b::m,h,q=>by simp only[py,aam] at q;rw[abo,abo,hp a b q.1,Y7 hp l m (by simpa using h) q.2]
section
variable {f g:Fm}{off:Nat}
theorem ak8 (hf:FI f)(hg:FI g)(h:gJ f=gJ g):f=g:=by have a:=abD hf;rw[h,abD hg] at a;exact (ab0 a).symm
theorem af6 {R S:Rn}(h:yE R S=true):R=S:=by unfold yE at h;simp only[aam,zz5,zz6] at h;cases R;cases S;simp only at h;simp[h.1,h.2.1,h.2.2.1,h.2.2.2]
theorem awD (hf:FI f)(hg:FI g)(h:zK f g=true):f=g:=by
 refine ak8 hf hg ?_;unfold zK zA at h;simp only[aam,zz5,zz6] at h;obtain⟨a,⟨b1,b2⟩,⟨c1,c2⟩,d⟩:=h;have e1:=Y7 (k:=id) (λs t q=>by unfold B8 at q;simp only[aam,zz6] at q;exact q.1) _ _ b1 b2;rw[List.map_id,List.map_id] at e1;have e2:f.nms.map (iy f)=g.nms.map (iy g):=by
  rw[<-e1] at b2⊢;refine alV λs hs=>?_;have key:∀(l m:List Str),l=m->py (B8 f g) l m=true->∀s∈l,iy f s=iy g s:=by
   intro l m e;subst e;induction l with
   |nil=>intro _ s hs;cases hs
   |cons a l ih=>
    intro q s hs;simp only[py,aam] at q;rcases aal.1 hs with rfl|hs;·have:=q.1;unfold B8 at this;simp only[aam,zz6] at this;exact this.2
    ·exact ih q.2 s hs
  exact key _ _ rfl b2 s hs
 have e3:=Y7 (k:=id) (λs t q=>by
  unfold ud at q;simp only[aam,zz6] at q
  first
   |exact Prod.ext (af6 q.2) q.1
   |exact Prod.ext (af6 q.1) q.2) _ _ c1 c2
 rw[List.map_id,List.map_id] at e3;unfold gJ;rw[a,e2,e1,e3,d]
theorem aGZ (hf:FI f)(hg:FI g)(bf:FB f)(bg:FB g)(ho:off<=17592186044415):(nc f off==nc g off)=zK f g:=by
 have kf:=Ml hf bf;have kg:=Ml hg bg;by_cases h:f=g;·subst h;rw[aga];simp
 ·have e1:zK f g=false:=by cases q:zK f g with|false=>rfl|true=>exact absurd (awD hf hg q) h
  rw[e1];rw[zz8];intro q;unfold nc at q;exact h (ak8 hf hg (agG kf kg ho ho q).1)
theorem aHl (hf:okM f)(ho:off<17592186044415):(nc f off==nc f (off+1))=false:=by rw[zz8];intro q;unfold nc at q;have:=(agG hf hf (a:=off) (b:=off+1) zzz zzz q).2.1;omega
end
theorem acp {q:Nat}{x c1 c2:AV}{l:List Ev}(hl:l.length<=1000)(hb:∀e∈l,Sb e):∀(r:List Ev) (i:Nat) (H:Hp) (a:FA) (f:Fm),i<=l.length->l.drop i=r->RL H 8 x (oZ l)->(∀j∈ak x,j∉own q a)->FL H q a f->FI f->FB f->Gl H->
  ∃a' H',(∀A6:K.Fn 3,WX JN GO cK A6 x c1 c2 (.ptr q 0) (zi (i:Nat)) H=A6 c1 c2 (.ptr q 0) H')/\FL H' q a' (allM f r)/\FSt H H' q a a'/\FI (allM f r)/\FB (allM f r)
 |[],i,H,a,f,hi,h,hx,hd,hF,hI,hB,hg=>by obtain rfl:=drop_nil hi h;have fU:=Hj hx;refine⟨a,H,λA6=>?_,hF,FSt.same (Out.refl _ _) q a,hI,hB⟩;rw[aie];simp only[Ua,fU,dA,zz0,simprocAttr]
 |e::r,i,H,a,f,hi,h,hx,hd,hF,hI,hB,hg=>by obtain⟨h1,h2,h3⟩:=dU h;have es:=dD h1 zzz;have fU:=Hj hx;obtain⟨b,o,q1,q2,q3,q4,q5⟩:=hx.at zzx (V1 h2);obtain⟨a',H2,u1,u2,u3⟩:=abK hF hg hI.ok e;have dC:=hx.1.lt;have OT:=hb e (aab h2);obtain⟨a2,H',i1,i2,i3,i4,i5⟩:=acp (c1:=c1) (c2:=c2) hl hb r (i+1) H2 a' (yU f e).1 h1 h3 (hx.out u3.o λj hj z=>hd j hj z) (λj hj z=>(u3.w j z).elim (hd j hj) λz=>by have:=dC j hj;omega) u2 (TJ hI e) (aeY hB OT.1 OT.2) (hg.out u3.o hF.lo);refine⟨a2,H',λA6=>?_,i2,u3.trans i3,i4,i5⟩;rw[aie];simp(disch:=try exact zqz)only[Ua,fU,aQ h1,q1,q4,u1,es,i1,ar,aq,zz0,simprocAttr]
theorem aG3 {x y:AV}{l m:List Ev}{off:Int}{H:Hp}(hx:RL H 8 x (oZ l))(hb:∀e∈l,FY e)(hy:RL H 8 y (oZ m))(jd:∀e∈m,FY e)(hT:G4 H rI)(lJ:11<=H.next):∃H',cK (zf 10) [x,y,zi off] H=some (.bool true,H'):=by
 obtain⟨H1,a1,a2⟩:=aEo (Gl.of hT lJ) lJ;have n1:=a2.1;have lH:=hx.au a2;have Nj:=hy.au a2;have wq:=(Gl.of hT lJ).au a2;have lx:=Hj lH;have ly:=Hj Nj;by_cases h1:l.length<=30
 rotate_left
 ·have d1:decide ((30:Int)<((l.length:Nat):Int))=true:=zz3 zzz;refine⟨H1,LD ?_⟩;unfold IJ;simp(disch:=try exact zqz)only[a1,lx,d1,ar,aq,zz0,simprocAttr]
 have d1:decide ((30:Int)<((l.length:Nat):Int))=false:=zz4 zzz;by_cases h2:m.length<=10
 rotate_left
 ·have d2:decide ((10:Int)<((m.length:Nat):Int))=true:=zz3 zzz;refine⟨H1,LD ?_⟩;unfold IJ;simp(disch:=try exact zqz)only[a1,lx,d1,ly,d2,ar,aq,zz0,simprocAttr]
 have d2:decide ((10:Int)<((m.length:Nat):Int))=false:=zz4 zzz;by_cases h3:off<0;·have d3:decide (off<0)=true:=zz3 h3;refine⟨H1,LD ?_⟩;unfold IJ;simp(disch:=try exact zqz)only[a1,lx,d1,ly,d2,d3,ar,aq,zz0,simprocAttr]
 have d3:decide (off<0)=false:=zz4 h3;by_cases h4:17592186044414<off;·have d4:decide ((17592186044414:Int)<off)=true:=zz3 h4;refine⟨H1,LD ?_⟩;unfold IJ;simp(disch:=try exact zqz)only[a1,lx,d1,ly,d2,d3,d4,ar,aq,zz0,simprocAttr]
 have d4:decide ((17592186044414:Int)<off)=false:=zz4 h4;obtain⟨n,rfl⟩:∃n:Nat,off=n:=⟨off.toNat,zzz⟩;obtain⟨p,a,H2,m1,m2,m3,m4,m5⟩:=anh zzz lH wq zzz;have n2:=m3.1;have hI:FI (allM Ay l):=Xr JW;have hB:FB (allM Ay l):=Wt ajo λe he=>(hb e he).b;generalize allM Ay l=f at*
 obtain⟨q,b,H3,c1,c2,c3,c4,c5⟩:=atI m2 zzz (by have:=hI.nn;omega) (by have:=hI.nr;omega) (by have:=hI.nk;have:=hI.nr;omega) hI.kd;have n3:=c3.1;have Fs:=m2.au c3;have iS:=m2.lt;have ue:∀j∈bq.cY a,j<H2.next:=λj hj=>(m2.cY j hj).2;have Ap:=Nj.1.lt;have Hm:=(wq.au m3).au c3;obtain⟨b',H4,i1,i2,i3,hI',hB'⟩:=acp (c1:=zi (n:Nat)) (c2:=.ptr p 0) zzz (λe he=>(jd e he).b) m 0 H3 b f (abg _) aaM ((Nj.au m3).au c3) (λj hj z=>by have:=Ap j hj;have:=c4 j z;omega) c2 hI hB Hm;rw[show (((0:Nat):Int))=0 from rfl] at i1;have IC:FL H4 p a f:=Fs.out i3.o (λj hj z=>by have:=iS j hj;have:=c4 j z;omega) λj hj z=>by have:=ue j hj;have:=c4 j z;omega
 generalize allM f m=g at*
 have qZ:=Ml hI hB;have Cv:=Ml hI' hB';obtain⟨z1,H5,v1,v2,v3,v4⟩:=MF IC qZ (off:=n) zzz;have t1:=zw v2.rw (EC qZ n);obtain⟨z2,H6,w1,w2,w3,w4⟩:=MF (i2.au v3) Cv (off:=n) zzz;have t2:=zw w2.rw (EC Cv n);have t3:=zw (v2.rw.au w3) (EC qZ n);obtain⟨z3,H7,y1,y2,y3,y4⟩:=MF ((IC.au v3).au w3) qZ (off:=n+1) zzz;have t4:=zw y2.rw (EC qZ (n+1));have t5:=zw ((v2.rw.au w3).au y3) (EC qZ n);have t6:=zw (w2.rw.au y3) (EC Cv n);have es:IntKind.wrap .i64 (((n:Nat):Int)+1)=((n+1:Nat):Int):=by rw[wrap_i64 zzz zzz];omega
 obtain⟨H8,s1,s2⟩:=ac3 (((IC.au v3).au w3).au y3) (((i2.au v3).au w3).au y3) hI.sz hI'.sz;have e1:=aGZ hI hI' hB hB' (off:=n) zzz;have e2:=aHl qZ (off:=n) zzz;have e3:(zK f g==zK f g)=true:=zzy;refine⟨H8,LD ?_⟩;unfold IJ;simp(disch:=try exact zqz)only[a1,lx,d1,ly,d2,d3,d4,m1,c1,i1,v1,t1,w1,t2,es,y1,t4,t3,t5,t6,eP (Mo _),e1,s1,e2,e3,ar,aq,zz0,simprocAttr]
theorem aAt {H:Hp}{as':List AV}{ds:List D}(h:Kb H [.slice 8 PY,.slice 8 PY,.int .i64] as' ds)(hT:G4 H rI)(hn:11<=H.next):∃H',cK (zf 10) as' H=some (.bool true,H'):=by
 cases h with
 |cons h0 h=>
 cases h with
 |cons h1 h=>
 cases h with
 |cons h2 h=>
 cases h;obtain⟨l,hl,hb⟩:=agj (aoV h0);obtain⟨m,hm,jd⟩:=agj (aoV h1);obtain⟨z2,e2,_⟩:=aCZ h2;subst e2;exact aG3 hl hb hm jd hT hn
end Go.Proofs.YtodfajmihkagnaaGreatDoor.bq
namespace Go.Proofs.YtodfajmihkagnaaGreatDoor.Hand
open Go
theorem at5 {P:Program}{w:World}(h:w.ShapedOpen P){g:Nat}(hg:g+1=P.globals.size)(hr:(((begin P (λ_ _=>0) default).world.heap[g]?).bind Obj.row?).isSome=true):P.globals.size<=w.heap.size:=by obtain⟨⟨zero,t⟩,hr⟩:=aiN.1 hr;obtain⟨cs,hc,_⟩:=h.1 g zero t zzz hr;have:=(abW.1 hc).1;omega
variable {H:Type}{enc:TypeId×Value->H}
theorem handed {a:Assume}{C:Checked}{os:Os}{f:FuncId}{fn:Func}{s:ChangeSpec}{conds:List PathCond}{apart fresh handsOn again:Bool}{X:World->Array Value->Prop}{g:Nat}
  (hg:g+1=C.prog.globals.size) (hr:(((begin C.prog (λ_ _=>0) default).world.heap[g]?).bind Obj.row?).isSome=true)
  (hX:∀(w w':World) (args:Array Value),w.heap=w'.heap->X w args->X w' args)
  (own:ownKnob C.prog.godebug=none) (started:os.Started) (aqK:C.prog.inits.idxOf? f=none) (Bp:C.prog.funcs[f]?=some fn)
  (witness:∃ (w:World) (tape:Tape) (i:Input),w.os=os/\(w.forCall tape i).Shaped C.prog/\i.vars=[]/\Input.okWide C.prog (w.forCall tape i) .any w.heap.size f i/\
   ((s.pre enc C.prog fn conds apart (w.forCall tape i).memory i.args/\X (w.forCall tape i).memory i.args)/\sizedMet enc C.prog fn (OpenSpec.ofChange s) apart (w.forCall tape i).memory i.args)/\a.holds C.prog (lone (Frame.enter C.prog f i.args .normal) [] (w.forCall tape i)))
  (aBI:∀ (W:World) (base:Nat) (args:Array Value) (ds gs:List (DataW H)) (before:List MemPlace),C.prog.globals.size<=W.heap.size->
   (∀(j:Nat) t v,fn.params[j]?=some t->args[j]?=some v->Value.okWide C.prog W .any base t v)->
   DataW.Whole enc C.prog fn.params.toList s.vars apart W args.toList ds gs before->
   conds.all (PathCond.test C.prog ⟨fn.params.toList,ds,s.plain.varTypes C.prog,gs⟩)=true->
   (DataW.weightsEach C.prog (fn.params.toList++s.plain.varTypes C.prog) (ds++gs)).all (·<=reachBytes)=true->X W args->
   a.holds C.prog (lone (Frame.enter C.prog f args .normal) [] W)->
   Calls C.prog f args W λe W'=>∃v,e=.returned v/\s.post enc C.prog fn apart fresh handsOn again W args v W'):
  ReturnsInHanded a C os f .any (λw args=>(s.pre enc C.prog fn conds apart w args/\X w args)/\sizedMet enc C.prog fn (OpenSpec.ofChange s) apart w args) (s.post enc C.prog fn apart fresh handsOn again):=
 returnsInHanded_of_calls own started aqK witness λw tape i _ uC _ mK aDo az0=>by obtain⟨_,_,_,fn',aEZ,_,_,_,_,Ei⟩:=mK;obtain rfl:fn'=fn:=ab0 (aEZ.symm.trans Bp);obtain⟨⟨⟨ds,gs,before,hw,hc⟩,hx⟩,hz⟩:=aDo;refine (aBI (w.forCall tape i) w.heap.size i.args ds gs before (at5 uC hg hr) Ei (DataW.Whole.of_heap (w':=w.forCall tape i) zzv hw) hc (hz.weights hw) (hX _ _ _ zzv hx) az0).mono λe W' hp=>?_;obtain⟨v,rfl,hp⟩:=hp;exact ChangeSpec.post_blind hp
end Go.Proofs.YtodfajmihkagnaaGreatDoor.Hand
