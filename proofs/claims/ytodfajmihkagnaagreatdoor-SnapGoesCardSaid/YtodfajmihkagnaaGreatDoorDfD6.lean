/- Laws that the proof uses. -/
import Derived.Test.YtodfajmihkagnaaGreatDoorDfM
set_option linter.unusedVariables false
set_option linter.unusedSimpArgs false
set_option maxRecDepth 10000
set_option maxHeartbeats 1000000
namespace Go.Proofs.YtodfajmihkagnaaGreatDoor.bD
open Go Am Am.K lD na kJ pf
theorem Jj (c:Nat):∀s:Str,dJ (cJ c s)+(cJ c s).length=s.length+1
 |[]=>rfl|b::s=>by
  have ih:=Jj c s;unfold cJ;by_cases h:b=c;·rw[zz2 h];simp only[dJ,aby,al8,ach,aaP] at*;omega
  ·rw[zz1 h];cases hs:cJ c s with
   |nil=>exact absurd hs (Cm c s)|cons x y=>rw[hs] at ih;simp only[dJ,aby,al8,aaP] at*;omega
abbrev mz (s:Str):List Str:=cJ 32 s
abbrev rJ (s:Str):Str:=(mz s).headD []
structure PS (H:Hp)(rx nx:AV)(rws:List AV)(ps:List Str):Prop where
 r:Ow H 46 1 rx rws
 n:Ow H 9 1 nx (strs (ps.map rJ))
 len:rws.length=ps.length
 w:∀(i:Nat) (wx:AV) (s:Str),rws[i]?=some wx->ps[i]?=some s->Rw H 1 wx (strs (mz s))
 dw:∀wx∈rws,∀j∈ak wx,j∉ak rx/\j∉ak nx
 dn:∀j∈ak rx,j∉ak nx
theorem aeW {R:AV}{px:AV}{ps:List Str}{B:Nat}(gR:ps.length<=5000)(ku:∀s∈ps,s.length<=5000):∀(r:List Str) (i:Nat) (H:Hp) (rx nx:AV) (rws:List AV),i<=ps.length->ps.drop i=r->Rw H 1 px (strs ps)->PS H rx nx rws (ps.take i)->(∀j∈ak px,j∉ak rx/\j∉ak nx)->B<=H.next->(∀j,j∈ak rx\/j∈ak nx->B<=j)->(∀wx∈rws,∀j∈ak wx,B<=j)->
  ∃eH lS Ta H' S,(∀jc:K.Fn 3,Z8 JN GO cK jc R rx nx px (zi (ps.length:Nat)) (zi (i:Nat)) H=jc R eH lS H')/\PS H' eH lS Ta ps/\Out S H H'/\(∀j∈S,B<=j)/\(∀j,j∈ak eH\/j∈ak lS->B<=j)/\(∀wx∈Ta,∀j∈ak wx,B<=j)
 |[],i,H,rx,nx,rws,hi,h,Ux,hP,hd,hB,hr,hw=>by obtain rfl:=drop_nil hi h;rw[afe (aaO _)] at hP;refine⟨rx,nx,rws,H,[],λjc=>?_,hP,Out.refl _ _,(λj hj=>by cases hj),hr,hw⟩;rw[ale];simp only[XL,df,zz0,simprocAttr]
 |s::r,i,H,rx,nx,rws,hi,h,Ux,hP,hd,hB,hr,hw=>by
  obtain⟨h1,h2,h3⟩:=dU h;obtain⟨q,q1,q2⟩:=Ux.fW (mS h2) .i64;have es:=dC h1 zzz;have mR:=ku s (aac h2);have tC:ps.take (i+1)=ps.take i++[s]:=by rw[akq,h2];rfl
  have aV:(ps.take i).length=i:=by rw[ad8];omega
  obtain⟨wx,H1,s1,s2,s3,s4⟩:=Yc (c:=32) zzx (s:=s) zzz H;have mE:=s3.nx;have Fc:=s2.lt;have fT:=hP.r.rw.lt;have jw:=hP.n.rw.lt;obtain⟨Tq,H2,p1,p2,p3,p4,p5⟩:=vf (el2:=46) (z:=[.ah]) (vs:=[wx]) (hP.r.out s3 zzy) (by simp[s2.one]) rfl zzx (by rw[hP.len,aV];simp;omega);have iN:=p3.nx;have OP:Rw H2 1 wx (strs (mz s)):=s2.out p3 λj hj z=>by have:=s4 j hj;have:=fT j z;omega
  have hN2:Ow H2 9 1 nx (strs ((ps.take i).map rJ)):=(hP.n.out s3 zzy).out p3 λj hj z=>hP.dn j z hj;obtain⟨w0,w1,afb⟩:∃a b,mz s=a::b:=by
   cases hs:mz s with
   |nil=>exact absurd hs (Cm 32 s)|cons a b=>exact⟨a,b,rfl⟩
  obtain⟨y,y1,y2⟩:=OP.fW (i:=0) (v:=.str w0) (by rw[afb];rfl) .i64;rw[show (((0:Nat):Int))=0 from rfl] at y1;obtain⟨nx1,H3,n1,n2,n3,n4,n5⟩:=vf (el2:=9) (z:=[.str []]) (vs:=[.str w0]) hN2 rfl rfl zzx (by rw[gZ,abv,aV];simp;omega);have DP:=n3.nx;have hh:rJ s=w0:=by show (mz s).headD []=w0;rw[afb];rfl
  have aGd:strs ((ps.take i).map rJ)++[.str w0]=strs ((ps.take (i+1)).map rJ):=by rw[tC,acY,HY,aby,ajn,hh];rfl
  rw[aGd] at n2;have fI:=p1 _ rfl;have n1':=n1 _ rfl;have IE:∀j∈ak Tq,j∈ak rx\/H1.next<=j:=p4;have Gs:∀j∈ak nx1,j∈ak nx\/H2.next<=j:=n4;have aEH:∀j∈ak Tq,j<H2.next:=p2.rw.lt;have asJ:∀wy∈rws,∀j∈ak wy,j<H.next:=λwy oh j hj=>by obtain⟨k,hk⟩:=aca oh;have kN:=(aag.1 hk).1;rw[hP.len] at kN;exact (hP.w k wy _ hk (aaC kN)).lt j hj
  have o2:Out (ak rx) H H2:=(s3.mono λj hj=>by cases hj).trans p3;have o3:Out (ak rx++ak nx) H H3:=(o2.mono λj hj=>aa1 _ hj).trans (n3.mono λj hj=>aaT _ hj);have DD:PS H3 Tq nx1 (rws++[wx]) (ps.take (i+1)):=by
   refine⟨p2.out n3 λj hj z=>?_,n2,by rw[aal,hP.len,tC,aal];rfl,λk wy t hk ht=>?_,λwy oh j hj=>?_,λj hj z=>?_⟩
   ·rcases IE j hj with y|y;·exact hP.dn j y z
    ·have:=jw j z;omega
   ·rw[tC] at ht;by_cases hki:k<i;·rw[abd (by rw[hP.len,aV];exact hki)] at hk;rw[abd (by rw[aV];exact hki)] at ht;have hm:=aac hk;exact (hP.w k wy t hk ht).out o3 λj hj z=>(aa2.1 z).elim (hP.dw wy hm j hj).1 (hP.dw wy hm j hj).2
    ·have iu:=(aag.1 ht).1;rw[aal,aV] at iu;obtain rfl:k=i:=by simp at iu;omega
     rw[abk (by rw[hP.len,aV];exact aaO _),hP.len,aV,ajQ] at hk;rw[abk (by rw[aV];exact aaO _),aV,ajQ] at ht;cases hk;cases ht;exact OP.out n3 λj hj z=>by have:=s4 j hj;have:=jw j z;omega
   ·rcases aa2.1 oh with oh|oh;·have hjo:=asJ wy oh j hj;exact⟨λz=>(IE j z).elim (hP.dw wy oh j hj).1 λy=>zzz,λz=>(Gs j z).elim (hP.dw wy oh j hj).2 λy=>zzz⟩
    ·rw[No] at oh;subst oh;have:=s4 j hj;have:=Fc j hj;exact⟨λz=>(IE j z).elim (λy=>by have:=fT j y;omega) λy=>zzz,λz=>(Gs j z).elim (λy=>by have:=jw j y;omega) λy=>zzz⟩
   ·rcases Gs j z with y|y
    ·rcases IE j hj with x|x;·exact hP.dn j x y
     ·have:=jw j y;omega
    ·have:=aEH j hj;omega
  have ajg:=Ux.lt;obtain⟨eH,lS,Ta,H',S,i1,i2,i3,i4,i5,i6⟩:=aeW (R:=R) (B:=B) gR ku r (i+1) H3 Tq nx1 (rws++[wx]) h1 h3 (Ux.out o3 λj hj z=>(aa2.1 z).elim (hd j hj).1 (hd j hj).2) DD (λj hj=>⟨λz=>(IE j z).elim (hd j hj).1 λy=>by have:=ajg j hj;omega,λz=>(Gs j z).elim (hd j hj).2 λy=>by have:=ajg j hj;omega⟩) zzz (λj hj=>by
   rcases hj with hj|hj;·exact (IE j hj).elim (λz=>hr j (.inl z)) λz=>zzz
   ·exact (Gs j hj).elim (λz=>hr j (.inr z)) λz=>zzz) (λwy oh j hj=>by
   rcases aa2.1 oh with oh|oh;·exact hw wy oh j hj
   ·rw[No] at oh;subst oh;have:=s4 j hj;omega)
  refine⟨eH,lS,Ta,H',(ak rx++ak nx)++S,λjc=>?_,i2,(o3.mono λj hj=>aa1 _ hj).trans (i3.mono λj hj=>aaT _ hj),λj hj=>?_,i5,i6⟩;·have aJc:=s2.one;rw[ale];simp(disch:=try exact zqz)only[XL,aN h1,q1,q2,s1,fI,y1,y2,n1',es,i1,ar,aq,zz0,simprocAttr]
  ·rcases aa2.1 hj with hj|hj;·exact hr j (aa2.1 hj)
   ·exact i4 j hj
noncomputable def qH (names:List Str):List Str->Option (List Tk)
 |[]=>some []|s::r=>match yu names (mz s) with
  |none=>none|some t=>(qH names r).map λl=>t::l
noncomputable def aG (text:Str):List Tk×Int:=
 if 1024<text.length then ([],14) else match qH ((cJ 59 text).map rJ) (cJ 59 text) with
  |none=>([],2)|some ts=>if jD ts=0 then (ts,0) else ([],jD ts)
theorem an4 {names:List Str}:∀{r:List Str} {t t':Tk} {ks:List Str},oF names r t ks=some t'->t'.after.length<=t.after.length+dJ r+r.length
 |[],t,t',ks,h=>by cases h;simp[dJ]
 |s::r,t,t',ks,h=>by
  unfold oF at h;split at h;·cases h
  ·split at h;·cases h
   ·split at h;·cases h
    ·rename_i t1 h1;have h2:=amb h1;have h3:=an4 h;have:=(agK 61 s).2;have hs:dJ (s::r)=s.length+dJ r:=by simp[dJ]
     rw[hs];simp only[aaP];omega
theorem akz {names:List Str}{s:Str}{t:Tk}(h:yu names (mz s)=some t):t.after.length<=s.length+1:=by
 unfold yu at h;have h1:=an4 h;have h2:dJ (mz s)+(mz s).length=s.length+1:=Jj 32 s;have h3:dJ (mz s).tail+(mz s).tail.length<=dJ (mz s)+(mz s).length:=by
  cases mz s with
  |nil=>simp|cons a b=>simp[dJ];omega
 simp only[ach] at h1;omega
theorem ahN {names:List Str}:∀{r:List Str} {ts:List Tk},qH names r=some ts->ts.length=r.length/\∀B,(∀s∈r,s.length<=B)->∀t∈ts,t.after.length<=B+1
 |[],ts,h=>by cases h;exact⟨rfl,λB _ t ht=>by cases ht⟩
 |s::r,ts,h=>by
  unfold qH at h;split at h;·cases h
  ·rename_i t ht;rw[aaq] at h;obtain⟨l,h1,rfl⟩:=h;obtain⟨i1,i2⟩:=ahN h1;refine⟨by simp[i1],λB hB u hu=>?_⟩;rcases aaD.1 hu with rfl|hu;·have:=akz ht;have:=hB s (.head _);omega
   ·exact i2 B (λs hs=>hB s (.tail _ hs)) u hu
theorem RD.nil (H:Hp):RD H .ah [] []:=⟨rfl,RL.nil H 6,λi x t h=>by simp at h⟩
theorem alM {nx rx:AV}{rws:List AV}{ps:List Str}{R D:Nat}(gR:ps.length<=2000)(ku:∀s∈ps,s.length<=1100)(hRD:R≠D):∀(r:List Str) (i:Nat) (H:Hp) (dx:AV) (xs:List AV) (ts:List Tk),i<=ps.length->ps.drop i=r->Gl H->11<=D->(∀j∈ak dx,11<=j)->PS H rx nx rws ps->Cs H R [.ah] 72 0->Cs H D [dx] 72 0->OL H 99 6 dx (List.zipWith aH ts xs)->RD H dx xs ts->ts.length=i->(∀x∈xs,∀j∈ak x,j∉ak dx/\j≠D)->D∉ak dx->(∀j,j∈ak rx\/j∈ak nx\/(∃wx∈rws,j∈ak wx)\/j=R->j∉ak dx/\j≠D)->
  ∃H' S,Out S H H'/\(∀j∈S,j=D\/j=R\/j∈ak dx\/H.next<=j)/\((∃ay aT l,qH (ps.map rJ) r=some l/\(∀xI:K.Fn 2,Tu JN GO cK xI (.ptr R 0) nx (.ptr D 0) rx (zi (ps.length:Nat)) (zi (i:Nat)) H=xI (.ptr R 0) (.ptr D 0) H')/\Cs H' D [ay] 72 0/\Cs H' R [.ah] 72 0/\RD H' ay aT (ts++l)/\∀j∈nf ay aT,j∈nf dx xs\/H.next<=j)\/
   (qH (ps.map rJ) r=none/\∀xI:K.Fn 2,Tu JN GO cK xI (.ptr R 0) nx (.ptr D 0) rx (zi (ps.length:Nat)) (zi (i:Nat)) H=some (.tuple [.agg [.ah],zi 2],H')))
 |[],i,H,dx,xs,ts,hi,h,hg,LK,Yb,hP,hR,hD,hO,hT,Hn,NQ,ZN,hd=>by obtain rfl:=drop_nil hi h;refine⟨H,[],Out.refl _ _,(λj hj=>by cases hj),.inl ⟨dx,xs,[],rfl,λxI=>?_,hD,hR,by simpa using hT,λj hj=>.inl hj⟩⟩;rw[St];simp only[KZ,df,zz0,simprocAttr]
 |s::r,i,H,dx,xs,ts,hi,h,hg,LK,Yb,hP,hR,hD,hO,hT,Hn,NQ,ZN,hd=>by
  obtain⟨h1,h2,h3⟩:=dU h;have es:=dC h1 zzz;have mR:=ku s (aac h2);have Fh:rws[i]?=some (rws[i]'(by rw[hP.len];exact h1)):=aaC _;generalize BW:rws[i]'(by rw[hP.len];exact h1)=wx at Fh;have hwm:=aac Fh;have hw:=hP.w i wx s Fh h2;obtain⟨q,q1,q2⟩:=hP.r.rw.fW Fh .i64;have uR:=Jj 32 s;have Fc:(mz s).length<=5000:=by have:(mz s).length=(cJ 32 s).length:=rfl;omega
  have IN:∀a∈mz s,a.length<=80000:=λa ha=>by have:=(MQ ha).2.2;omega
  obtain⟨H1,t1,t2⟩:=arc (names:=ps.map rJ) hg (by rw[abv];omega) (Cm 32 s) Fc IN (by show dJ (cJ 32 s)+(cJ 32 s).length<=_;omega) hP.n.rw hw;have mE:=t1.nx;have Ub:=hg.nx;unfold qH;rcases t2 with⟨t,x,u1,u2,u3,u4⟩|⟨u1,v,u2,u3,u4⟩
  ·rw[u1];simp only;have kB:=u3.one;have aJ6:=akz u1;have zw:st 6 (.ptr H1.next 0) (.agg (aH t x)) (al H1 [(.str []),.ah,(zi 0),(zi 0),(zi 0),(.str [])] 99 0)=some (al H1 (aH t x) 99 0):=Bb t x kB H1;have o2:=aD H1 (aH t x) 99 0;have bF:Out [] H (al H1 (aH t x) 99 0):=t1.trans o2;have aJq:=hD.1;have Fx:cellAt (al H1 (aH t x) 99 0) D 0=some dx:=(hD.out bF zzy).cellAt rfl;obtain⟨Mn,H2,p1,p2,p3,p4,p5⟩:=(hO.out bF zzy).push (el2:=99) (z:=[(.str []),.ah,(zi 0),(zi 0),(zi 0),(.str [])]) (vs:=aH t x) (by simp[aH,J5,iS,kB]) rfl zzx (by rw[aeV,hT.len,ajT];omega);have iN:=p3.nx;rw[bT] at iN;have hDD:=(hD.out bF zzy).out p3 ZN;obtain⟨H3,w1,w2,w3,w4⟩:=ff hDD zzx (o:=0) zzy (v:=Mn) p5;have B3:List.zipWith aH ts xs++[aH t x]=List.zipWith aH (ts++[t]) (xs++[x]):=by rw[List.zipWith_append (by rw[hT.len])];rfl
   rw[B3] at p2;have BL:∀j∈ak Mn,j∈ak dx\/H1.next+1<=j:=λj hj=>(p4 j hj).imp id λz=>by rw[bT] at z;exact z
   have il:=hO.1.rw.lt;have aot:D∉ak Mn:=λz=>(BL D z).elim ZN λy=>zzz;have o3:Out (D::ak dx) H H3:=((bF.mono λj hj=>by cases hj).trans (p3.mono λj hj=>.tail _ hj)).trans (w3.mono λj hj=>by rw[No] at hj;subst hj;exact .head _);have DP:=o3.nx;have Ep:=u3.lt;have Lw:=p2.out w3 λj hj=>by rw[No];intro e;subst e;exact aot hj
   have ayV:∀y∈xs,∀j∈ak y,j<H.next:=λy hy j hj=>hT.lt j (aaT _ (afn.2 ⟨y,hy,hj⟩));have Nw:RD H3 Mn (xs++[x]) (ts++[t]):=by
    refine⟨by simp[hT.len],Lw.rl,λk y t' hy tE=>?_⟩;by_cases hk:k<xs.length;·rw[abd hk] at hy;rw[abd (by rw[<-hT.len];exact hk)] at tE;have hym:=aac hy;exact (hT.lu k y t' hy tE).out o3 λj hj=>by rw[aaD,not_or];exact⟨(NQ y hym j hj).2,(NQ y hym j hj).1⟩
    ·have iu:=(aag.1 hy).1;rw[aal] at iu;obtain rfl:k=xs.length:=by simp at iu;omega
     rw[abk (aaO _),ajQ] at hy;rw[abk (by rw[hT.len];exact aaO _),hT.len,ajQ] at tE;cases hy;cases tE;refine ((u3.au o2).out p3 λj hj z=>?_).out w3 λj hj=>?_;·have:=u4 j hj;have:=il j z;omega
     ·rw[No];have:=u4 j hj;omega
   have hPo:∀{A B:Hp} {S:List Nat},PS A rx nx rws ps->Out S A B->(∀j,j∈ak rx\/j∈ak nx\/(∃wx∈rws,j∈ak wx)->j∉S)->PS B rx nx rws ps:=λhp ho hs=>
    ⟨hp.r.out ho λj hj=>hs j (.inl hj),hp.n.out ho λj hj=>hs j (.inr (.inl hj)),hp.len,λk wy s' hk zN=>(hp.w k wy s' hk zN).out ho λj hj=>hs j (.inr (.inr ⟨wy,aac hk,hj⟩)),hp.dw,hp.dn⟩
   have Ey:∀j,j∈ak rx\/j∈ak nx\/(∃wx∈rws,j∈ak wx)\/j=R->j∉D::ak dx:=λj hj=>by rw[aaD,not_or];exact⟨(hd j hj).2,(hd j hj).1⟩
   have Oz:∀j,j∈ak rx\/j∈ak nx\/(∃wx∈rws,j∈ak wx)\/j=R->j<H.next:=λj hj=>by
    rcases hj with hj|hj|⟨wy,oh,hj⟩|rfl;·exact hP.r.rw.lt j hj
    ·exact hP.n.rw.lt j hj
    ·obtain⟨k,hk⟩:=aca oh;have kN:=(aag.1 hk).1;rw[hP.len] at kN;exact (hP.w k wy _ hk (aaC kN)).lt j hj
    ·exact hR.1
   obtain⟨H',S,i1,i2,i3⟩:=alM gR ku hRD r (i+1) H3 Mn (xs++[x]) (ts++[t]) h1 h3 (hg.out o3 λj hj=>by
    rcases aaD.1 hj with rfl|hj;·exact LK
    ·exact Yb j hj) LK (λj hj=>(BL j hj).elim (Yb j) λz=>zzz) (hPo hP o3 λj hj=>Ey j (hj.imp id λz=>z.imp id .inl)) (hR.out o3 (Ey R (.inr (.inr (.inr rfl))))) w2 Lw Nw (by simp[Hn]) (λy hy j hj=>by
     rcases aa2.1 hy with hy|hy;·have:=ayV y hy j hj;exact⟨λz=>(BL j z).elim (NQ y hy j hj).1 λw=>zzz,(NQ y hy j hj).2⟩
     ·rw[No] at hy;subst hy;have:=u4 j hj;have:=Ep j hj;exact⟨λz=>(BL j z).elim (λw=>by have:=il j w;omega) λw=>zzz,zzz⟩) aot (λj hj=>⟨λz=>(BL j z).elim (hd j hj).1 λw=>by have:=Oz j hj;omega,(hd j hj).2⟩)
   refine⟨H',(D::ak dx)++S,(o3.mono λj hj=>aa1 _ hj).trans (i1.mono λj hj=>aaT _ hj),λj hj=>?_,?_⟩
   ·rcases aa2.1 hj with hj|hj
    ·rcases aaD.1 hj with rfl|hj;·exact .inl rfl
     ·exact .inr (.inr (.inl hj))
    ·rcases i2 j hj with z|z|z|z;·exact .inl z
     ·exact .inr (.inl z)
     ·exact .inr (.inr ((BL j z).imp id λy=>zzz))
     ·exact .inr (.inr (.inr zzz))
   ·have SY:az (al H1 (aH t x) 99 0) (aH t x) 99 0=some (H1.next+1,al (al H1 (aH t x) 99 0) (aH t x) 99 0):=eh (by rw[y9];omega);have JE:fl [(.str []),.ah,(zi 0),(zi 0),(zi 0),(.str [])] [(0,6,.agg (aH t x))]=some (aH t x):=rfl;have apI:=aiw t x;have ah6:=y9 t x;have fI:=p1 _ rfl;rw[bT] at fI;rcases i3 with⟨ay,aT,l,k1,k2,k3,k4,k5,k6⟩|⟨k1,k2⟩
    ·refine .inl ⟨ay,aT,t::l,by rw[k1];rfl,λxI=>?_,k3,k4,by simpa[abr] using k5,λj hj=>(k6 j hj).elim (λz=>?_) λz=>.inr zzz⟩;·rw[St];simp(disch:=try exact zqz)only[KZ,aN h1,q1,q2,u2,zw,Fx,ah6,apI,JE,SY,fI,w1,es,k2,ar,aq,zz0,simprocAttr]
     ·rcases aa2.1 z with z|z;·exact (BL j z).imp (λy=>aa1 _ y) λy=>zzz
      ·rw[amB,aa2] at z;rcases z with z|z;·exact .inl (aaT _ z)
       ·have:j∈ak x:=by simpa using z
        exact .inr (u4 j this)
    ·refine .inr ⟨by rw[k1];rfl,λxI=>?_⟩;rw[St];simp(disch:=try exact zqz)only[KZ,aN h1,q1,q2,u2,zw,Fx,ah6,apI,JE,SY,fI,w1,es,k2,ar,aq,zz0,simprocAttr]
  ·rw[u1];have zw:st 6 (.ptr H1.next 0) (.agg v) (al H1 [(.str []),.ah,(zi 0),(zi 0),(zi 0),(.str [])] 99 0)=some (al H1 v 99 0):=gJ u4 u3.symm rfl zzx u3.symm;have o2:=aD H1 v 99 0;have mA:=hR.out (t1.trans o2) zzy;obtain⟨H3,w1,w2,w3,w4⟩:=iC (n:=1) (vs:=[AV.ah]) mA rfl rfl rfl;have Ct:av H3 R 0 1=some [.ah]:=w2.av 1 0 zzy;refine⟨H3,[R],((t1.trans o2).mono λj hj=>by cases hj).trans w3,λj hj=>by rw[No] at hj;exact .inr (.inl hj),.inr ⟨rfl,λxI=>?_⟩⟩;rw[St];simp(disch:=try exact zqz)only[KZ,aN h1,q1,q2,u2,zw,w1,Ct,ar,aq,zz0,simprocAttr]
theorem auL {text:Str}{H:Hp}(hg:Gl H)(hl:text.length<=4294967296):∃dx xs H',cK (zf 53) [.str text] H=some (.tuple [dv dx,zi (aG text).2],H')/\RD H' dx xs (aG text).1/\Out [] H H'/\∀j∈nf dx xs,H.next<=j:=by
 have Ub:=hg.nx;have o1:=aD H [.ah] 72 0;have c1:=aP H [.ah] 72 0;unfold aG;by_cases Fl:1024<text.length;·rw[zz2 Fl];have d:decide ((1024:Int)<(text.length:Int))=true:=zz3 zzz;refine⟨.ah,[],al H [.ah] 72 0,N6 ?_,RD.nil _,o1,λj hj=>by cases hj⟩;have aC:st 1 (.ptr H.next 0) (.agg [.ah]) (al H [.ah] 72 0)=some (al H [.ah] 72 0):=gJ rfl rfl rfl zzx rfl;unfold JK;simp(disch:=try exact zqz)only[d,aC,ar,aq,zz0,simprocAttr]
 rw[zz1 Fl];have d:decide ((1024:Int)<(text.length:Int))=false:=zz4 zzz;obtain⟨px,H1,s1,s2,s3,s4⟩:=Yc (c:=59) zzx (s:=text) zzz (al H [.ah] 72 0);have mE:=s3.nx;rw[bT] at mE;have uR:=Jj 59 text;have gR:=s2.gu;rw[gZ] at gR;have ku:∀s∈cJ 59 text,s.length<=1100:=λs hs=>by have:=(MQ hs).2.2;omega
 have c2:=c1.out s3 zzy;obtain⟨rx,nx,rws,H2,S2,i1,i2,i3,i4,i5,i6⟩:=aeW (R:=.ptr H.next 0) (B:=H1.next) (ps:=cJ 59 text) zzz (λs hs=>by have:=ku s hs;omega) (cJ 59 text) 0 H1 .ah .ah [] (aa7 _) aaY s2 ⟨.nil,.nil,by rw[akA];rfl,λi wx s h=>by simp at h,(λwx h=>by cases h),λj h=>by cases h⟩ (λj hj=>⟨by simp[ak],by simp[ak]⟩) (aaO _) (λj hj=>by rcases hj with hj|hj<;>cases hj) (λwx h=>by cases h);rw[show (((0:Nat):Int))=0 from rfl] at i1;have iN:=i3.nx;have qJ:Out [] H H2:=(o1.trans s3).then i3 λj hj=>by have:=i4 j hj;exact .inr zzz
 have c3:=c2.out i3 λz=>by have:=i4 _ z;omega
 have o3:=aD H2 [.ah] 72 0;have cD:=aP H2 [.ah] 72 0;have DD:PS (al H2 [.ah] 72 0) rx nx rws (cJ 59 text):=⟨i2.r.out o3 zzy,i2.n.out o3 zzy,i2.len,λk wx s h1 h2=>(i2.w k wx s h1 h2).au o3,i2.dw,i2.dn⟩;have Oz:∀j,j∈ak rx\/j∈ak nx\/(∃wx∈rws,j∈ak wx)->j<H2.next:=λj hj=>by
  rcases hj with hj|hj|⟨wy,oh,hj⟩;·exact i2.r.rw.lt j hj
  ·exact i2.n.rw.lt j hj
  ·obtain⟨k,hk⟩:=aca oh;have kN:=(aag.1 hk).1;rw[i2.len] at kN;exact (i2.w k wy _ hk (aaC kN)).lt j hj
 obtain⟨H3,S3,k1,k2,k3⟩:=alM (R:=H.next) (D:=H2.next) zzz ku zzz (cJ 59 text) 0 (al H2 [.ah] 72 0) .ah [] [] (aa7 _) aaY (hg.au (qJ.trans o3)) zzz (λj hj=>by cases hj) DD (c3.out o3 zzy) cD (OL.nil _ _ _) (RD.nil _) rfl (λx hx=>by cases hx) (by simp[ak]) (λj hj=>⟨by simp[ak],by
  rcases hj with hj|hj|hj|rfl;·have:=Oz j (.inl hj);omega
  ·have:=Oz j (.inr (.inl hj));omega
  ·have:=Oz j (.inr (.inr hj));omega
  ·omega⟩)
 rw[show (((0:Nat):Int))=0 from rfl] at k3;have U8:∀j∈S3,H.next<=j:=λj hj=>by
  rcases k2 j hj with z|z|z|z;·omega
  ·omega
  ·cases z
  ·rw[bT] at z;omega
 have AF:Out [] H H3:=(qJ.trans o3).then k1 λj hj=>.inr (U8 j hj);have fT:=i2.r.rw.gu;rw[i2.len] at fT;have gC:aE rx=some (zi ((cJ 59 text).length:Nat)):=fT;have DP:=k1.nx;rw[bT] at DP;rcases k3 with⟨dx,xs,ts,m1,m2,m3,m4,m5,m6⟩|⟨m1,m2⟩
 ·rw[afP] at m5;rw[m1];simp only;obtain⟨tl1,tl2⟩:=ahN m1;have tc:∀j∈nf dx xs,H2.next+1<=j:=λj hj=>(m6 j hj).elim (λz=>by cases z) λz=>by rw[bT] at z;exact z
  obtain⟨H4,g1,g2⟩:=TA (ts:=ts) (by rw[tl1];omega) (λt ht=>by have:=tl2 1100 ku t ht;omega) m5;have hn4:=g2.nx;have Fx:av H3 H2.next 0 1=some [dx]:=m3.av 1 0 zzy;have hD4:av H4 H2.next 0 1=some [dx]:=(m3.out g2 zzy).av 1 0 zzy;have cR:=m4.out g2 zzy;have BL:=m5.row.one;by_cases h0:jD ts=0
  ·rw[zz2 h0];have d0:((jD ts) != 0)=false:=by rw[h0];rfl
   obtain⟨H5,w1,w2,w3,w4⟩:=iC (n:=1) (vs:=[dx]) cR rfl rfl (by simp[BL]);have Wm:av H5 H.next 0 1=some [dx]:=w2.av 1 0 zzy;refine⟨dx,xs,H5,N6 ?_,(m5.au g2).out w3 λj hj=>by rw[No];have:=tc j hj;omega,(AF.trans g2).then w3 λj hj=>by rw[No] at hj;exact .inr zzz,λj hj=>by have:=tc j hj;omega⟩;unfold JK;simp(disch:=try exact zqz)only[d,s1,gR,i1,gC,m2,Fx,hD4,g1,d0,w1,Wm,ar,aq,zz0,simprocAttr]
  ·rw[zz1 h0];have d0:((jD ts) != 0)=true:=by simp[h0]
   obtain⟨H5,w1,w2,w3,w4⟩:=iC (n:=1) (vs:=[AV.ah]) cR rfl rfl rfl;have Wm:av H5 H.next 0 1=some [.ah]:=w2.av 1 0 zzy;refine⟨.ah,[],H5,N6 ?_,RD.nil _,(AF.trans g2).then w3 λj hj=>by rw[No] at hj;exact .inr zzz,λj hj=>by cases hj⟩;unfold JK;simp(disch:=try exact zqz)only[d,s1,gR,i1,gC,m2,Fx,hD4,g1,d0,w1,Wm,ar,aq,zz0,simprocAttr]
 ·rw[m1];simp only;refine⟨.ah,[],H3,N6 ?_,RD.nil _,AF,λj hj=>by cases hj⟩;unfold JK;simp(disch:=try exact zqz)only[d,s1,gR,i1,gC,m2,ar,aq,zz0,simprocAttr]
theorem IL {text:Str}(h:(aG text).2=0):jD (aG text).1=0/\1<=(aG text).1.length/\(aG text).1.length<=16/\yG (aG text).1/\DX (aG text).1.length (la 0 (aG text).1)/\(∀t∈(aG text).1,Bx t=false/\uA t=false):=by
 have key:∀ts:List Tk,jD ts=0->1<=ts.length/\ts.length<=16/\yG ts/\DX ts.length (la 0 ts)/\∀t∈ts,Bx t=false/\uA t=false:=by
  intro ts h;unfold jD at h;split at h;·cases h
  ·rename_i h1;split at h;·cases h
   ·rename_i h2;split at h;·cases h
    ·split at h;·cases h
     ·rename_i h3;split at h;·cases h
      ·rename_i h4;split at h;·rename_i h5;have h1:=ajy.1 h1;refine⟨h1.1,h1.2,Qm (by simpa using h4),h5,λt ht=>?_⟩;obtain⟨i,hi⟩:=aca ht;have aV:=(aag.1 hi).1;rw[ahM,akE] at h2 h3;have a:=h2 i (anM.2 aV);have b:=h3 i (anM.2 aV);unfold p1 at a;unfold p3 at b;rw[hi] at a b;exact⟨by simpa using a,by simpa using b⟩
       ·cases h
 have hg:jD (aG text).1=0:=by
  unfold aG at h⊢;by_cases hb:1024<text.length;·rw[zz2 hb] at h;cases h
  ·rw[zz1 hb] at h⊢;cases lW:qH ((cJ 59 text).map rJ) (cJ 59 text) with
   |none=>rw[lW] at h;cases h
   |some ts=>
    rw[lW] at h;simp only at h⊢;by_cases h0:jD ts=0;·rw[zz2 h0];exact h0
    ·rw[zz1 h0] at h;exact absurd h h0
 exact⟨hg,key _ hg⟩
end Go.Proofs.YtodfajmihkagnaaGreatDoor.bD
namespace Go.Proofs.YtodfajmihkagnaaGreatDoor.Am.K
open Go
theorem am0:∀(vs c r:List AV) (k:Nat),k+vs.length<=c.length->kR (c++r) k vs=kR c k vs++r
 |[],c,r,k,h=>rfl|v::vs,c,r,k,h=>by simp only[aaP] at h;show kR ((c++r).set k v) (k+1) vs=kR (c.set k v) (k+1) vs++r;rw[List.set_append_left _ _ zzz];exact am0 vs _ _ _ (by rw[acV];omega)
theorem am3:∀(vs a r:List AV) (k:Nat),kR (a++r) (a.length+k) vs=a++kR r k vs
 |[],a,r,k=>rfl|v::vs,a,r,k=>by show kR ((a++r).set (a.length+k) v) (a.length+k+1) vs=a++kR (r.set k v) (k+1) vs;rw[amh _ _ zzz,ae0,ak2];exact am3 vs _ _ _
theorem ahC {es:Nat}{vs:List AV}{k:Nat}(hk:k+vs.length<=es):∀{L:List (List AV)} {i:Nat} {c:List AV},(∀c∈L,c.length=es)->L[i]?=some c->(L.set i (kR c k vs)).flatten=kR L.flatten (i*es+k) vs
 |[],i,c,_,h=>by simp at h
 |a::L,0,c,hl,h=>by simp only[ada,acD] at h;subst h;have:=hl a (.head _);rw[ag0,ade];show kR a k vs++L.flatten=kR (a++L.flatten) k vs;rw[am0 _ _ _ _ zzz]
 |a::L,i+1,c,hl,h=>by simp only[acJ] at h;have ha:=hl a (.head _);show a++(L.set i (kR c k vs)).flatten=kR (a++L.flatten) ((i+1)*es+k) vs;rw[ahC hk (λd hd=>hl d (.tail _ hd)) h,afs,aj4,show i*es+es+k=a.length+(i*es+k) by omega,am3]
section
variable {H:Hp}{L:List (List AV)}{c vs:List AV}{el es i k o:Nat}{x:AV}
theorem OL.Zd (h:OL H el es x L){b:Nat}(hi:L[i]?=some c)(qj:∀kd,ia es x (.int kd i)=some (.ptr b o))(hv:∀v∈vs,aZ v=true)(hk:k+vs.length<=es)(ef:0<es):
  ∃H',setCells H b (o+k) vs=some H'/\OL H' el es x (L.set i (kR c k vs))/\Out (ak x) H H'/\H'.next=H.next:=by
 obtain⟨ho,hl⟩:=h;have aV:=(aag.1 hi).1;have pj:=EH hl;have hfs:=ahC hk hl hi;have hc:=hl c (aac hi);have KM:i*es+es<=L.flatten.length:=by rw[pj];have:=ad4 es (show i+1<=L.length by omega);rw[afs,aj4] at this;exact this
 have X4:∀d∈L.set i (kR c k vs),d.length=es:=λd hd=>by
  rcases adt hd with hd|rfl;·exact hl d hd
  ·rw[OF];exact hc
 generalize hF:L.flatten=F at*
 cases ho with
 |nil=>simp at KM;omega|emp=>simp at KM;omega|@mk i0 off n cap ex _ ct lo CT fl ka hg hf iK lK jC hn kO hs h1 he=>
  have mV:i<n:=by rw[pj] at hn;exact Nat.eq_of_mul_eq_mul_right ef hn▸aV
  have e:=qj .i64;rw[DL mV] at e;injection e with e;injection e with eb eo;subst eb;subst eo;have hcn:n*es<=cap*es:=ad4 _ jC;obtain⟨H',c',q1,q2,q3,q4,q5⟩:=Sd vs H i0 (off+i*es+k) ct lo CT el fl hg hf zzz zzz (λm hm=>by have:=hs (i*es+k+m) zzz;rw[show off+i*es+k+m=off+(i*es+k+m) by omega];exact this) hv;refine⟨H',q1,⟨?_,X4⟩,⟨zzz,λj hj OU=>q4 j λe=>OU (by subst e;rw[pK he];exact .head _)⟩,q2⟩;rw[hfs];refine .mk zzz q3 hf iK lK jC (by rw[OF];exact hn) (λm w hm=>?_) (λm hm=>?_) (λw hw=>?_) he
  ·rw[q5];rw[FQ _ _ _ _ zzz] at hm;split at hm;·rw[zz2 zzz,show off+m-(off+i*es+k)=m-(i*es+k) by omega];exact hm
   ·rw[zz1 zzz];exact kO m w hm
  ·rw[q5];split;·rename_i hb;rw[aaC zzz];rfl
   ·exact hs m hm
  ·obtain⟨m,hm⟩:=aca hw;rw[FQ _ _ _ _ zzz] at hm;split at hm;·exact hv w (aac hm)
   ·exact h1 w (aac hm)
theorem OL.ff (h:OL H el es x L){b:Nat}{v:AV}(hi:L[i]?=some c)(qj:∀kd,ia es x (.int kd i)=some (.ptr b o))(hv:aZ v=true)(hk:k<es):
  ∃H',st 1 (.ptr b (o+k)) v H=some H'/\OL H' el es x (L.set i (c.set k v))/\Out (ak x) H H'/\H'.next=H.next:=by
 obtain⟨H',h1,h2⟩:=h.Zd (k:=k) (vs:=[v]) hi qj (λu hu=>by rw[No] at hu;subst hu;exact hv) (by simp only[aaP,ach];omega) zzz;refine⟨H',?_,h2⟩;unfold st;simp only[P6 hv];exact h1
theorem OL.eV (h:OL H el es x L){b:Nat}(hi:i<L.length)(qj:∀kd,ia es x (.int kd i)=some (.ptr b o))(hv:vs.all aZ=true)(hn:vs.length=es)(ef:0<es):
  ∃H',st es (.ptr b o) (.agg vs) H=some H'/\OL H' el es x (L.set i vs)/\Out (ak x) H H'/\H'.next=H.next:=by
 have ka:L[i]?=some L[i]:=aaC hi;obtain⟨H',h1,h2⟩:=h.Zd (k:=0) (vs:=vs) ka qj (acT.1 hv) zzz ef;rw[ajo vs _ (by rw[hn,h.2 _ (aac ka)])] at h2;refine⟨H',?_,h2⟩;unfold st;have:Nat.beq es vs.length=true:=by rw[hn];exact ait _
 simp only[HM,this,cond_true];exact h1
end
end Go.Proofs.YtodfajmihkagnaaGreatDoor.Am.K
namespace Go.Proofs.YtodfajmihkagnaaGreatDoor.bD
open Go Am Am.K lD na kJ pf
section
section
section
structure RT where
 ph:Int
 tr:Int
 fH:Int
 iP:Str
 deriving DecidableEq
def dT (t:RT):List AV:=[zi t.ph,zi t.tr,zi t.fH,.str t.iP]
def eL (l:List RT):List (List AV):=l.map dT
structure Rn where
 ts:List Tk
 st:Int
 rs:List RT
 sg:List Str
abbrev rv (dx:AV)(st:Int)(tx sx:AV):List AV:=[dx,zi st,tx,sx]
structure RV (H:Hp)(dx:AV)(xs:List AV)(tx sx:AV)(R:Rn):Prop where
 d:RD H dx xs R.ts
 t:RL H 4 tx (eL R.rs)
 s:Rw H 1 sx (strs R.sg)
def pw (dx:AV)(xs:List AV)(tx sx:AV):List Nat:=nf dx xs++(ak tx++ak sx)
section
variable {H H':Hp}{dx sx tx:AV}{i:Nat}{task:Int}{xs:List AV}
theorem RV.out {R:Rn}{S:List Nat}(h:RV H dx xs tx sx R)(k:Out S H H')(hs:∀j∈pw dx xs tx sx,j∉S):RV H' dx xs tx sx R:=
 ⟨h.d.out k λj hj=>hs j (aa1 _ hj),h.t.out k λj hj=>hs j (aaT _ (aa1 _ hj)),h.s.out k λj hj=>hs j (aaT _ (aaT _ hj))⟩
theorem RV.au {R:Rn}(h:RV H dx xs tx sx R)(k:Out [] H H'):RV H' dx xs tx sx R:=h.out k λ_ _ q=>by cases q
theorem RV.lt {R:Rn}(h:RV H dx xs tx sx R):∀j∈pw dx xs tx sx,j<H.next:=λj hj=>by
 rcases aa2.1 hj with hj|hj;·exact h.d.lt j hj
 ·rcases aa2.1 hj with hj|hj;·exact h.t.1.lt j hj
  ·exact h.s.lt j hj
theorem AJ (l:List RT):(eL l).length=l.length:=by simp[eL]
theorem sP {l:List RT}{t:RT}(h:l[i]?=some t):(eL l)[i]?=some (dT t):=by simp[eL,h]
theorem RV.an6 {R:Rn}(h:RV H dx xs tx sx R):aE tx=some (zi (R.rs.length:Nat)):=by have:=h.t.len zzx;rw[AJ] at this;exact this
theorem Pq (t:RT):(dT t).length=4:=rfl
theorem Eo (t:RT):(dT t)[0]?=some (zi t.ph)/\(dT t)[1]?=some (zi t.tr)/\(dT t)[2]?=some (zi t.fH)/\(dT t)[3]?=some (.str t.iP):=⟨rfl,rfl,rfl,rfl⟩
theorem ajt (t:RT)(H:Hp):st 4 (.ptr H.next 0) (.agg (dT t)) (al H [(zi 0),(zi 0),(zi 0),(.str [])] 132 0)=some (al H (dT t) 132 0):=
 gJ rfl rfl rfl zzx rfl
def rF (R:Rn)(task:Int):Int:=if task<0\/(R.rs.length:Int)<=task then 1 else if R.st=0 then 0 else 9
theorem aiq {R:Rn}(h:RV H dx xs tx sx R)(task:Int):
  cK (zf 108) [.agg (rv dx R.st tx sx),zi task] H=some (zi (rF R task),al H (rv dx R.st tx sx) 75 0):=by
 refine awB ?_;have hl:=h.an6;have c:=aP H (rv dx R.st tx sx) 75 0;have aO:bx 75 (.agg (rv dx R.st tx sx)) H=some (H.next,al H (rv dx R.st tx sx) 75 0):=iw zzy;have k1:cellAt (al H (rv dx R.st tx sx) 75 0) H.next 1=some (zi R.st):=c.cellAt rfl;have k2:cellAt (al H (rv dx R.st tx sx) 75 0) H.next 2=some tx:=c.cellAt rfl;generalize al H (rv dx R.st tx sx) 75 0=H1 at*
 unfold akF rF;by_cases h1:task<0;·have d1:decide (task<0)=true:=zz3 h1;rw[zz2 (.inl h1)];simp(disch:=try exact zqz)only[aO,d1,ar,aq,zz0,simprocAttr]
 ·have d1:decide (task<0)=false:=zz4 h1;by_cases h2:(R.rs.length:Int)<=task;·have d2:decide ((R.rs.length:Int)<=task)=true:=zz3 h2;rw[zz2 (.inr h2)];simp(disch:=try exact zqz)only[aO,d1,d2,k1,k2,hl,ar,aq,zz0,simprocAttr]
  ·have d2:decide ((R.rs.length:Int)<=task)=false:=zz4 h2;rw[zz1 (λq=>q.elim h1 h2)];by_cases h3:R.st=0
   ·have d3:(R.st != 0)=false:=by simp[h3]
    rw[zz2 h3];simp(disch:=try exact zqz)only[aO,d1,d2,d3,k1,k2,hl,ar,aq,zz0,simprocAttr]
   ·have d3:(R.st != 0)=true:=by simp[h3]
    rw[zz1 h3];simp(disch:=try exact zqz)only[aO,d1,d2,d3,k1,k2,hl,ar,aq,zz0,simprocAttr]
theorem Mf {R:Rn}(h:rF R task=0):∃(i:Nat) (t:RT),task=i/\R.rs[i]?=some t/\R.st=0:=by
 unfold rF at h;split at h;·cases h
 ·rename_i h1;rw[not_or] at h1;split at h;·rename_i h2;exact⟨task.toNat,R.rs[task.toNat]' zzz,zzz,aaC _,h2⟩
  ·cases h
def pP (R:Rn)(task bC:Int):Int:=if rF R task=0 then (match R.rs[task.toNat]? with|some t=>if t.ph=2/\t.tr=bC then 0 else 8|none=>0) else rF R task
theorem akp {R:Rn}(h:RV H dx xs tx sx R)(task bC:Int):
  ∃H',cK (zf 109) [.agg (rv dx R.st tx sx),zi task,zi bC] H=some (zi (pP R task bC),H')/\Out [] H H':=by
 have c:=aP H (rv dx R.st tx sx) 75 0;have o1:=aD H (rv dx R.st tx sx) 75 0;have aO:bx 75 (.agg (rv dx R.st tx sx)) H=some (H.next,al H (rv dx R.st tx sx) 75 0):=iw zzy;have k0:av (al H (rv dx R.st tx sx) 75 0) H.next 0 4=some (rv dx R.st tx sx):=c.av 4 0 zzy;have hm:=aiq (h.au o1) task;have o2:=aD (al H (rv dx R.st tx sx) 75 0) (rv dx R.st tx sx) 75 0;have c2:=c.out o2 zzy;have bF:=o1.trans o2;generalize al H (rv dx R.st tx sx) 75 0=H1 at*
 generalize al H1 (rv dx R.st tx sx) 75 0=H2 at*
 have k2:cellAt H2 H.next 2=some tx:=c2.cellAt rfl;by_cases h0:rF R task=0
 ·obtain⟨i,t,rfl,ht,aC⟩:=Mf h0;have d0:(rF R (i:Int) != 0)=false:=by simp[h0]
  obtain⟨b,o,q1,q2,q3,q4,q5⟩:=(h.t.au bF).at zzx (sP ht);have DF:=ajt t H2;obtain⟨e0,e1,e2,e3⟩:=Eo t;have o3:=aD H2 (dT t) 132 0;refine⟨al H2 (dT t) 132 0,ad1 ?_,bF.trans o3⟩;unfold Wf pP;rw[zz2 h0,abI,ht];simp only;by_cases p1:t.ph=2
  ·have d1:(t.ph != 2)=false:=by simp[p1]
   by_cases p2:t.tr=bC
   ·have d2:(t.tr != bC)=false:=by simp[p2]
    rw[zz2 ⟨p1,p2⟩];simp(disch:=try exact zqz)only[aO,k0,hm,d0,k2,q1,q4,DF,e0,e1,d1,d2,ar,aq,zz0,simprocAttr]
   ·have d2:(t.tr != bC)=true:=by simp[p2]
    rw[zz1 (λq=>p2 q.2)];simp(disch:=try exact zqz)only[aO,k0,hm,d0,k2,q1,q4,DF,e0,e1,d1,d2,ar,aq,zz0,simprocAttr]
  ·have d1:(t.ph != 2)=true:=by simp[p1]
   rw[zz1 (λq=>p1 q.1)];simp(disch:=try exact zqz)only[aO,k0,hm,d0,k2,q1,q4,DF,e0,e1,d1,ar,aq,zz0,simprocAttr]
 ·have d0:(rF R task != 0)=true:=by simp[h0]
  refine⟨H2,ad1 ?_,bF⟩;unfold Wf pP;rw[zz1 h0];simp(disch:=try exact zqz)only[aO,k0,hm,d0,ar,aq,zz0,simprocAttr]
theorem Uk {R:Rn}{bC:Int}(h:pP R task bC=0):∃(i:Nat) (t:RT),task=i/\R.rs[i]?=some t/\R.st=0/\t.ph=2/\t.tr=bC:=by
 unfold pP at h;split at h
 ·rename_i h1;obtain⟨i,t,rfl,ht,aC⟩:=Mf h1;rw[abI,ht] at h;simp only at h;split at h;·rename_i h2;exact⟨i,t,rfl,ht,aC,h2.1,h2.2⟩
  ·cases h
 ·rename_i h1;exact absurd h h1
end
end
section
variable {H:Hp}{dx x:AV}{es:Nat}{l xs:List AV}{ts:List Tk}
theorem am4 (h:Rw H es x l):qP x x=true:=by cases h<;>simp[qP]
theorem lN (h:Rw H es x l):same x x=true:=by cases h<;>simp[same,qP]
theorem agj (k:IntKind)(a:Int):same (.int k a) (.int k a)=true:=by cases k<;>simp[same,qP]
theorem aG9 {t:Tk}(hx:aZ x=true):∀v∈aH t x,aZ v=true:=by intro v hv;simp only[aH,aaD,List.not_mem_nil,or_false] at hv;rcases hv with rfl|rfl|rfl|rfl|rfl|rfl<;>first|rfl|exact hx
theorem RD.xn (h:RD H dx xs ts):∀v∈(List.zipWith aH ts xs).flatten,aZ v=true:=by
 intro v hv;obtain⟨c,hc,hv⟩:=akG.1 hv;obtain⟨i,hi⟩:=aca hc;rw[ac2] at hi;cases ht:ts[i]? with
 |none=>rw[ht] at hi;simp at hi|some t=>
  cases hx:xs[i]? with
  |none=>rw[ht,hx] at hi;simp at hi|some x=>
   rw[ht,hx] at hi;simp only[acD] at hi;subst hi;exact aG9 (h.lu i x t hx ht).one v hv
theorem aFv (l:List RT):∀v∈(eL l).flatten,aZ v=true:=by intro v hv;obtain⟨c,hc,hv⟩:=akG.1 hv;obtain⟨t,_,rfl⟩:=abT.1 hc;simp only[dT,aaD,List.not_mem_nil,or_false] at hv;rcases hv with rfl|rfl|rfl|rfl<;>rfl
theorem aaJ:∀c∈List.zipWith aH ts xs,c.length=6:=by
 intro c hc;obtain⟨i,hi⟩:=aca hc;rw[ac2] at hi;cases ht:ts[i]? with
 |none=>rw[ht] at hi;simp at hi|some t=>
  cases hx:xs[i]? with
  |none=>rw[ht,hx] at hi;simp at hi|some x=>
   rw[ht,hx] at hi;simp only[acD] at hi;subst hi;rfl
theorem Uv (l:List RT):∀c∈eL l,c.length=4:=λc hc=>by obtain⟨t,_,rfl⟩:=abT.1 hc;rfl
theorem aru {i:Nat}{t:Tk}{y:AV}(ht:ts[i]?=some t)(hx:xs[i]?=some x):(List.zipWith aH ts xs).set i ((aH t x).set 1 y)=List.zipWith aH ts (xs.set i y):=by
 apply akn;intro k;rw[ahy,ac2,ac2,ahy];have aV:=(aag.1 ht).1;have dA:=(aag.1 hx).1;by_cases e:i=k;·subst e;rw[zz2 rfl,zz2 rfl,zz2 dA,zz2 (by rw[aeV];omega),ht];rfl
 ·rw[zz1 e,zz1 e]
theorem aoL {ts:List Tk}{dx bV:AV}{P B:Nat}(hn:ts.length<=1000)(cZ:∀t∈ts,t.after.length<=1000):∀(r:List Tk) (i:Nat) (H:Hp) (xk:List AV),i<=ts.length->ts.drop i=r->RD H dx xk ts->OL H 99 6 dx (List.zipWith aH ts xk)->cellAt H P 0=some dx->P<H.next->B<=H.next->P∉ak dx->(∀x∈xk,∀j∈ak x,j∉ak dx)->(∀(m:Nat) (x:AV),m<i->xk[m]?=some x->∀j∈ak x,B<=j)->
  ∃Qg H',(∀rU:K.Fn 2,acK JN GO cK rU (.ptr P 0) bV dx (zi (ts.length:Nat)) (zi (i:Nat)) H=rU (.ptr P 0) bV H')/\RD H' dx Qg ts/\(∀x∈Qg,∀j∈ak x,B<=j/\j∉ak dx)/\Out (ak dx) H H'
 |[],i,H,xk,hi,h,hR,hO,hP,Zo,hB,ED,hd,hb=>by
  obtain rfl:=drop_nil hi h;refine⟨xk,H,λrU=>?_,hR,λx hx j hj=>⟨?_,hd x hx j hj⟩,Out.refl _ _⟩;·rw[akV];simp only[aco,df,zz0,simprocAttr]
  ·obtain⟨m,hm⟩:=aca hx;have:=(aag.1 hm).1;rw[hR.len] at this;exact hb m x this hm j hj
 |t::r,i,H,xk,hi,h,hR,hO,hP,Zo,hB,ED,hd,hb=>by
  obtain⟨h1,h2,h3⟩:=dU h;have ht:=aac h2;obtain⟨x,b,o,q0,q1,q2,q3,q4,q5,q6⟩:=hR.at h2;have es:=dC h1 zzz;have o1:=aD H (aH t x) 99 0;have aC:=Bb t x q1 H;obtain⟨e0,e1,e2,e3,e4,e5⟩:=uQ t x;obtain⟨y,H2,y1,y2,y3,y4,y5⟩:=aGz (q2.au o1) (λv hv=>by obtain⟨z,_,rfl⟩:=abT.1 hv;rfl) (by rw[nb];have:=cZ t ht;omega);have o2:=o1.trans y3;have iN:=o2.nx;have il:=hR.row.1.lt;have HR:=hO.out o2 zzy;have hzi:(List.zipWith aH ts xk)[i]?=some (aH t x):=by rw[ac2,h2,q0]
  obtain⟨H3,w1,w2,w3,w4⟩:=HR.ff (k:=1) hzi q3 y2.lr zzx;rw[aru h2 q0] at w2;have hP1:cellAt (al H (aH t x) 99 0) P 0=some dx:=by rw[xz Zo];exact hP
  have Ov:cellAt H2 P 0=some dx:=by rw[o2.cellAt Zo zzy];exact hP
  have DD:cellAt H3 P 0=some dx:=by rw[w3.cellAt zzz ED];exact Ov
  have aIL:=(aag.1 q0).1;have hyd:∀j∈ak y,j∉ak dx:=λj hj z=>by have:=y4 j hj;rw[bT] at this;have:=il j z;omega
  have hyb:∀j∈ak y,B<=j:=λj hj=>by have:=y4 j hj;rw[bT] at this;omega
  have Ct:RD H3 dx (xk.set i y) ts:=by
   refine⟨by rw[acV];exact hR.len,w2.rl,λm z u hz hu=>?_⟩;rw[ahy] at hz;split at hz;·rename_i e;subst e;cases hz;rw[h2] at hu;cases hu;exact y2.rw.out w3 hyd
   ·exact ((hR.lu m z u hz hu).au o2).out w3 (hd z (aac hz))
  obtain⟨Qg,H',i1,i2,i3,i4⟩:=aoL (bV:=bV) (P:=P) (B:=B) hn cZ r (i+1) H3 (xk.set i y) h1 h3 Ct w2 DD zzz zzz ED (λz hz=>by
   rcases adt hz with hz|rfl;·exact hd z hz
   ·exact hyd) (λm z hm hz=>by
   rw[ahy] at hz;split at hz;·cases hz;exact hyb
   ·exact hb m z zzz hz)
  refine⟨Qg,H',λrU=>?_,i2,i3,((o2.mono λj hj=>by cases hj).trans w3).trans i4⟩;rw[akV];simp(disch:=try exact zqz)only[aco,aN h1,q3,q5,aC,hP1,e1,y1,w1,Ov,eG (lN hR.row.1),es,i1,ar,aq,zz0,simprocAttr]
structure RO (H:Hp)(dx:AV)(xs:List AV)(tx sx:AV)(R:Rn):Prop where
 v:RV H dx xs tx sx R
 t:OL H 132 4 tx (eL R.rs)
 s:Ow H 9 1 sx (strs R.sg)
 dt:∀j∈ak tx,j∉nf dx xs/\j∉ak sx
 ds:∀j∈ak sx,j∉nf dx xs
structure Sm (R:Rn):Prop where
 n:R.ts.length<=1000
 a:∀t∈R.ts,t.after.length<=1000
 r:R.rs.length<=1000
 s:R.sg.length<=1000
theorem DW {tx sx:AV}{R:Rn}(h:RV H dx xs tx sx R)(hs:Sm R):
  ∃ay aT ax aA H',cK (zf 97) [.agg (rv dx R.st tx sx)] H=some (.agg (rv ay R.st ax aA),H')/\RO H' ay aT ax aA R/\Out [] H H'/\∀j∈pw ay aT ax aA,H.next<=j:=by
 have aO:bx 75 (.agg (rv dx R.st tx sx)) H=some (H.next,al H (rv dx R.st tx sx) 75 0):=iw zzy;have o1:=aD H (rv dx R.st tx sx) 75 0;have c1:=aP H (rv dx R.st tx sx) 75 0;have n1:(al H (rv dx R.st tx sx) 75 0).next=H.next+1:=rfl;generalize al H (rv dx R.st tx sx) 75 0=H1 at*
 have cF:az H1 [.ah,(zi 0),.ah,.ah] 75 0=some (H.next+1,al H1 [.ah,(zi 0),.ah,.ah] 75 0):=by rw[<-n1];exact eh zzy
 have o2:=aD H1 [.ah,(zi 0),.ah,.ah] 75 0;have c2:=aP H1 [.ah,(zi 0),.ah,.ah] 75 0;have n2:(al H1 [.ah,(zi 0),.ah,.ah] 75 0).next=H.next+2:=by rw[bT,n1]
 rw[n1] at c2;generalize bq:al H1 [.ah,(zi 0),.ah,.ah] 75 0=H2 at*
 have bF:=o1.trans o2;have mc:=c1.out o2 zzy;have vD:=h.au bF;have k1:cellAt H2 H.next 0=some dx:=mc.cellAt rfl;have mA:=vD.d;have pj:(List.zipWith aH R.ts xs).flatten.length<=6000:=by rw[EH aaJ,aeV];have:=hs.n;have:min R.ts.length xs.length<=1000:=afz (Nat.min_le_left _ _) hs.n;omega
 obtain⟨ay,H3,a1,a2,a3,a4,a5⟩:=awv mA.row.1 mA.xn zzz;have rE:=mc.out a3 zzy;have fX:aZ ay=true:=a2.lr;obtain⟨H4,b1,b2,b3,b4⟩:=ff rE zzx (o:=0) zzy (v:=ay) fX;have vG:(rv dx R.st tx sx).set 0 ay=rv ay R.st tx sx:=rfl;rw[vG] at b2;have n3:=a3.nx;have ED:H.next∉ak ay:=λz=>by have:=a4 _ z;omega
 have FU:cellAt H4 H.next 0=some ay:=b2.cellAt rfl;have Ct:=mA.au a3;have aJw:=mA.lt;have azx:=h.d.lt;have Av:RD H4 ay xs R.ts:=⟨Ct.len,(show OL H3 99 6 ay (List.zipWith aH R.ts xs) from⟨a2,aaJ⟩).rl.out b3 (λj hj=>by rw[No];intro e;subst e;exact ED hj),λm z u hz hu=>(Ct.lu m z u hz hu).out b3 λj hj=>by rw[No];have:=(h.d.lu m z u hz hu).lt j hj;omega⟩;have Vn:OL H4 99 6 ay (List.zipWith aH R.ts xs):=(show OL H3 99 6 ay (List.zipWith aH R.ts xs) from⟨a2,aaJ⟩).out b3 (λj hj=>by rw[No];intro e;subst e;exact ED hj);have il:=Av.aE;obtain⟨aT,H5,l1,l2,l3,l4⟩:=aoL (bV:=.ptr (H.next+1) 0) (P:=H.next) (B:=H.next+2) hs.n hs.a R.ts 0 H4 xs (aa7 _) aaY Av Vn FU b2.1 zzz ED (λx hx j hj z=>by obtain⟨m,hm⟩:=aca hx;have xZ:=(aag.1 hm).1;rw[h.d.len] at xZ;have:=(h.d.lu m x _ hm (aaC xZ)).lt j hj;have:=a4 j z;omega) (λm x hm=>zzz);rw[show (((0:Nat):Int))=0 from rfl] at l1;have cP5:=b2.out l4 ED;have n5:=l4.nx;have aKe:∀{S:List Nat} {A B:Hp},Out S A B->True:=λ_=>trivial;have o25:Out (H.next::ak ay) H2 H5:=((a3.mono (S':=H.next::ak ay) λj hj=>by cases hj).trans (b3.mono λj hj=>by rw[No] at hj;subst hj;exact .head _)).trans (l4.mono λj hj=>.tail _ hj);have alR:∀j,j<H.next->j∉H.next::ak ay:=λj hj z=>by
  rcases aaD.1 z with e|z;·omega
  ·have:=a4 j z;omega
 have ht5:RL H5 4 tx (eL R.rs):=vD.t.out o25 λj hj=>alR j (h.t.1.lt j hj);have hs5:Rw H5 1 sx (strs R.sg):=vD.s.out o25 λj hj=>alR j (h.s.lt j hj);have k2:cellAt H5 H.next 2=some tx:=cP5.cellAt rfl;obtain⟨ax,H6,t1,t2,t3,t4,t5⟩:=aFW ht5.1 (aFv R.rs) (by rw[EH (Uv _),AJ];have:=hs.r;omega);have cP6:=cP5.out t3 zzy;obtain⟨H7,u1,u2,u3,u4⟩:=ff cP6 zzx (o:=2) zzy (v:=ax) t2.lr;have oq:(rv ay R.st tx sx).set 2 ax=rv ay R.st ax sx:=rfl;rw[oq] at u2;have n6:=t3.nx;have k3:cellAt H7 H.next 3=some sx:=u2.cellAt rfl;have MW:∀j,H.next+2<=j\/j<H.next->j∉[H.next]:=λj hj=>by rw[No];omega
 have hs7:Rw H7 1 sx (strs R.sg):=(hs5.au t3).out u3 λj hj=>MW j (.inr (h.s.lt j hj));obtain⟨aA,H8,v1,v2,v3,v4,v5⟩:=ajU hs7 (λv hv=>by obtain⟨z,_,rfl⟩:=abT.1 hv;rfl) (by rw[gZ];have:=hs.s;omega);have cP8:=u2.out v3 zzy;obtain⟨H9,w1,w2,w3,w4⟩:=ff cP8 zzx (o:=3) zzy (v:=aA) v2.lr;have Cr:(rv ay R.st ax sx).set 3 aA=rv ay R.st ax aA:=rfl;rw[Cr] at w2;have n8:=v3.nx;have k4:av H9 H.next 0 4=some (rv ay R.st ax aA):=w2.av 4 0 zzy;have hQd:H.next+1∉ak ay:=λz=>by have:=a4 _ z;omega
 have hQ:∀S:List Nat,S=[H.next]->H.next+1∉S:=λS e=>by rw[e,No];omega
 have cQ9:=(((((((c2.out a3 zzy).out b3 (hQ _ rfl)).out l4 hQd).out t3 zzy).out u3 (hQ _ rfl)).out v3 zzy).out w3 (hQ _ rfl));obtain⟨kW,z1,z2,z3,z4⟩:=iC (n:=4) (vs:=rv ay R.st ax aA) cQ9 rfl rfl (by simp[fX,t2.lr,v2.lr,iS]);have k5:av kW (H.next+1) 0 4=some (rv ay R.st ax aA):=z2.av 4 0 zzy;have hT6:OL H6 132 4 ax (eL R.rs):=⟨t2,Uv _⟩;have n7:=u3.nx;have n9:=w3.nx;have py:∀j,H.next+2<=j->j∉[H.next]/\j∉[H.next+1]:=λj hj=>by rw[No,No];omega
 have gz:∀j∈nf ay aT,H.next+2<=j/\j<H5.next:=λj hj=>⟨by
  rcases aa2.1 hj with hj|hj;·have:=a4 j hj;omega
  ·obtain⟨x,hx,hj⟩:=afn.1 hj;exact (l3 x hx j hj).1,l2.lt j hj⟩
 have tE:∀j∈ak ax,H5.next<=j/\j<H6.next:=λj hj=>⟨t4 j hj,t2.rw.lt j hj⟩;have zN:∀j∈ak aA,H7.next<=j:=v4;have n45:H.next+2<=H5.next:=zzz;have ajw:OL kW 132 4 ax (eL R.rs):=(((hT6.out u3 λj hj=>(py j (by have:=tE j hj;omega)).1).out v3 zzy).out w3 λj hj=>(py j (by have:=tE j hj;omega)).1).out z3 λj hj=>(py j (by have:=tE j hj;omega)).2;have afL:Ow kW 9 1 aA (strs R.sg):=(v2.out w3 λj hj=>(py j (by have:=zN j hj;omega)).1).out z3 λj hj=>(py j (by have:=zN j hj;omega)).2;have ar2:RD kW ay aT R.ts:=((((l2.au t3).out u3 λj hj=>(py j (gz j hj).1).1).au v3).out w3 λj hj=>(py j (gz j hj).1).1).out z3 λj hj=>(py j (gz j hj).1).2;have key:∀{S:List Nat} {A B:Hp},Out [] H A->Out S A B->(∀j∈S,H.next<=j)->Out [] H B:=λh k hS=>h.then k λj hj=>.inr (hS j hj);have one:∀(m:Nat),H.next<=m->∀j∈[m],H.next<=j:=λm hm j hj=>by rw[No] at hj;omega
 have out:Out [] H kW:=key (key (key (key (key (key (key (key bF a3 (λj hj=>by cases hj)) b3 (one _ (aaO _))) l4 λj hj=>by have:=a4 j hj;omega) t3 (λj hj=>by cases hj)) u3 (one _ (aaO _))) v3 (λj hj=>by cases hj)) w3 (one _ (aaO _))) z3 (one _ (agN _));refine⟨ay,aT,ax,aA,kW,aD1 ?_,⟨⟨ar2,ajw.rl,afL.rw⟩,ajw,afL,λj hj=>⟨λz=>?_,λz=>?_⟩,λj hj z=>?_⟩,out,λj hj=>?_⟩;·unfold afR;simp(disch:=try exact zqz)only[aO,cF,n1,bq,k1,a1,b1,FU,il,l1,k2,t1,u1,k3,v1,w1,k4,z1,k5,ar,aq,zz0,simprocAttr]
 ·have:=tE j hj;have:=gz j z;omega
 ·have:=tE j hj;have:=zN j z;omega
 ·have:=zN j hj;have:=gz j z;omega
 ·rcases aa2.1 hj with hj|hj;·have:=gz j hj;omega
  ·rcases aa2.1 hj with hj|hj;·have:=tE j hj;omega
   ·have:=zN j hj;omega
end
def BP (rs:List RT)(a:Int):Int:=((rs[a.toNat]?).map (·.ph)).getD 0
def cn (rs:List RT)(t:Tk):Bool:=t.after.any (λa=>BP rs a != 3)
def El (rs:List RT)(sg:List Str)(t:Tk)(r:RT):Bool:=(r.ph==0)&&(!(cn rs t)&&((t.on==[])||sg.any (λa=>t.on==a)))
def lI (rs:List RT)(sg:List Str)(t:Tk)(r:RT):RT:=if El rs sg t r then {r with ph:=1} else r
def js (R:Rn):Rn:={R with rs:=List.zipWith (lI R.rs R.sg) R.ts R.rs,st:=if R.rs.all (λr=>r.ph==3) then 1 else R.st}
theorem Yj (rs:List RT)(sg:List Str)(t:Tk)(r:RT):((lI rs sg t r).ph==3)=(r.ph==3):=by
 unfold lI;split;·rename_i h;unfold El at h;rw[aaM,zz6] at h;rw[h.1];rfl
 ·rfl
theorem VJ {α:Type}{p q:α->Bool}:∀{l:List α},(∀a∈l,p a=q a)->l.any p=l.any q
 |[],_=>rfl|a::l,h=>by rw[List.any_cons,List.any_cons,h a (.head _),VJ λb hb=>h b (.tail _ hb)]
theorem aDB {H:Hp}{p G:Nat}{tx:AV}{rk:List RT}(hG:cellAt H G 0=some (.ptr p 0))(hC:cellAt H p 2=some tx)(hT:RL H 4 tx (eL rk)){a:Int}(h0:0<=a)(h1:a<rk.length):
  cK (.func (.func 144) [] [.ptr G 0]) [zi a] H=some (.bool (BP rk a != 3),H):=by
 obtain⟨m,rfl⟩:∃m:Nat,a=m:=⟨a.toNat,zzz⟩;have hm:rk[m]?=some (rk[m]' zzz):=aaC _;obtain⟨b,o,q1,q2,q3,q4,q5⟩:=hT.at zzx (sP hm);have e0:=q5 0 _ (Eo _).1;rw[aed] at e0;have hp:BP rk (m:Int)=(rk[m]' zzz).ph:=by unfold BP;rw[abI,hm];rfl
 refine aAk ?_;unfold alg;rw[hp];simp(disch:=try exact zqz)only[hG,hC,q1,e0,ar,aq,zz0,simprocAttr]
theorem P3 (l:List RT)(i:Nat)(t:RT):(eL l).set i (dT t)=eL (l.set i t):=by simp[eL,List.map_set]
theorem amK {ts:List Tk}{dx tx sx:AV}{xs:List AV}{st:Int}{p G:Nat}{sg:List Str}{fJ:List RT}(hn:ts.length<=1000)(cZ:∀t∈ts,t.after.length<=1000)(rK:sg.length<=1000)(Hw:fJ.length=ts.length)(ha:∀t∈ts,∀a∈t.after,0<=a/\a<(ts.length:Int))(BT:p∉ak tx)(hGt:G∉ak tx)(hd:∀j∈ak tx,j∉nf dx xs/\j∉ak sx):
  ∀(r:List Tk) (i:Nat) (H:Hp) (rk:List RT) (all:Bool),i<=ts.length->ts.drop i=r->Cs H p (rv dx st tx sx) 75 0->cellAt H G 0=some (.ptr p 0)->G<H.next->RD H dx xs ts->OL H 132 4 tx (eL rk)->Rw H 1 sx (strs sg)->rk.length=ts.length->(∀k,i<=k->rk[k]?=fJ[k]?)->(∀k,k<i->rk[k]?=(List.zipWith (lI fJ sg) ts fJ)[k]?)->
  ∃H',(∀bA:K.Fn 2,CJ JN GO cK bA (.ptr G 0) (.bool all) dx (zi (ts.length:Nat)) (zi (i:Nat)) H=bA (.ptr G 0) (.bool (all&&(fJ.drop i).all (λr=>r.ph==3))) H')/\Cs H' p (rv dx st tx sx) 75 0/\cellAt H' G 0=some (.ptr p 0)/\OL H' 132 4 tx (eL (List.zipWith (lI fJ sg) ts fJ))/\Out (ak tx) H H'
 |[],i,H,rk,all,hi,h,hC,hG,Zl,hR,hO,hS,hl,h1,h2=>by
  obtain rfl:=drop_nil hi h;have Ik:rk=List.zipWith (lI fJ sg) ts fJ:=by
   apply akn;intro k;by_cases hk:k<ts.length;·exact h2 k hk
   ·rw[agQ zzz,agQ (by rw[aeV];omega)]
  refine⟨H,λbA=>?_,hC,hG,by rw[<-Ik];exact hO,Out.refl _ _⟩;rw[aau,aiG zzz,List.all_nil,Bool.and_true];simp only[G3,df,zz0,simprocAttr]
 |t::r,i,H,rk,all,hi,h,hC,hG,Zl,hR,hO,hS,hl,h1,h2=>by
  obtain⟨g1,g2,g3⟩:=dU h;have ht:=aac g2;obtain⟨x,b,o,q0,q1,q2,q3,q4,q5,q6⟩:=hR.at g2;have es:=dC g1 zzz;have aC:=Bb t x q1 H;obtain⟨e0,e1,e2,e3,e4,e5⟩:=uQ t x;have o1:=aD H (aH t x) 99 0;have cT:=aP H (aH t x) 99 0;have BH:∀H':Hp,Out [] H H'->cellAt H' G 0=some (.ptr p 0)/\cellAt H' p 2=some tx/\cellAt H' p 3=some sx:=λH' k=>⟨by rw[k.cellAt Zl zzy];exact hG,(hC.out k zzy).cellAt rfl,(hC.out k zzy).cellAt rfl⟩;obtain⟨H2,f1,f2⟩:=aE6 (fv:=.func (.func 144) [] [.ptr G 0]) (p:=λa=>BP rk a != 3) (q2.au o1) (by have:=cZ t ht;omega) (λH' k a hm=>by obtain⟨c1,c2,c3⟩:=BH H' (o1.trans k);exact⟨H',aDB c1 c2 (hO.rl.au (o1.trans k)) (ha t ht a hm).1 (by rw[hl];exact (ha t ht a hm).2),Out.refl _ _⟩);have o2:=o1.trans f2;have iN:=o2.nx;obtain⟨c1,c2,c3⟩:=BH H2 o2;have cT2:=cT.out f2 zzy;have k5:cellAt H2 H.next 5=some (.str t.on):=cT2.cellAt e5;have kx:cellAt (al H (aH t x) 99 0) H.next 1=some x:=cT.cellAt e1;have aV:i<fJ.length:=zzz;have Fh:fJ[i]?=some (fJ[i]'aV):=aaC _;have Ik:rk[i]?=some (fJ[i]'aV):=by rw[h1 i (aaO _),Fh]
  have Eh:fJ.drop i=(fJ[i]'aV)::fJ.drop (i+1):=(List.getElem_cons_drop aV).symm;generalize fJ[i]'aV=u at*
  obtain⟨b',o',p1,p2,p3,p4,p5⟩:=(hO.rl.au o2).at zzx (sP Ik);have u0:=p5 0 _ (Eo u).1;rw[aed] at u0;have Oh:(t.after.any λa=>BP rk a != 3)=cn fJ t:=by
   unfold cn;refine VJ λa hm=>?_;obtain⟨a0,a1⟩:=ha t ht a hm;unfold BP;by_cases hk:a.toNat<i;·have hz:=h2 _ hk;rw[ac2,aaC (show a.toNat<ts.length by omega),aaC (show a.toNat<fJ.length by omega)] at hz;rw[hz,aaC (show a.toNat<fJ.length by omega)];simp only[adX,af7];have:=Yj fJ sg (ts[a.toNat]' zzz) (fJ[a.toNat]' zzz);simp only[bne,this]
   ·rw[h1 _ zzz]
  rw[Oh] at f1;have hz:(List.zipWith (lI fJ sg) ts fJ)[i]?=some (lI fJ sg t u):=by rw[ac2,g2,Fh]
  have n0:=Xo (hS.au o2) zzz t.on;rw[Eh,alZ];have fin:∀(H3:Hp) (JW:List RT),Out (ak tx) H2 H3->OL H3 132 4 tx (eL JW)->JW.length=ts.length->(∀k,k≠i->JW[k]?=rk[k]?)->JW[i]?=some (lI fJ sg t u)->
    (∀H':Hp,(∀bA:K.Fn 2,CJ JN GO cK bA (.ptr G 0) (.bool (all&&(u.ph==3))) dx (zi (ts.length:Nat)) (zi ((i+1:Nat):Int)) H3=bA (.ptr G 0) (.bool ((all&&(u.ph==3))&&(fJ.drop (i+1)).all (λr=>r.ph==3))) H')->(∀b3 o3,ia 4 tx (zi (i:Nat))=some (.ptr b3 o3)->cellAt H3 b3 o3=some (zi (lI fJ sg t u).ph))->cellAt H3 G 0=some (.ptr p 0)->cellAt H3 p 2=some tx->∀bA:K.Fn 2,CJ JN GO cK bA (.ptr G 0) (.bool all) dx (zi (ts.length:Nat)) (zi (i:Nat)) H=bA (.ptr G 0) (.bool ((all&&(u.ph==3))&&(fJ.drop (i+1)).all (λr=>r.ph==3))) H')->
    ∃H',(∀bA:K.Fn 2,CJ JN GO cK bA (.ptr G 0) (.bool all) dx (zi (ts.length:Nat)) (zi (i:Nat)) H=bA (.ptr G 0) (.bool (all&&((u.ph==3)&&(fJ.drop (i+1)).all (λr=>r.ph==3)))) H')/\Cs H' p (rv dx st tx sx) 75 0/\cellAt H' G 0=some (.ptr p 0)/\OL H' 132 4 tx (eL (List.zipWith (lI fJ sg) ts fJ))/\Out (ak tx) H H':=by
   intro H3 JW k3 Lw GB aF hei mK;have o3:Out (ak tx) H H3:=(o2.mono λj hj=>by cases hj).trans k3;have BU:cellAt H3 G 0=some (.ptr p 0):=by rw[o3.cellAt Zl hGt];exact hG
   have Nr:=hC.out o3 BT;have DP:=k3.nx;obtain⟨H',i1,i2,i3,i4,i5⟩:=amK hn cZ rK Hw ha BT hGt hd r (i+1) H3 JW (all&&(u.ph==3)) g1 g3 Nr BU zzz (hR.out o3 λj hj z=>(hd j z).1 hj) Lw (hS.out o3 λj hj z=>(hd j z).2 hj) GB (λk hk=>by rw[aF k zzz];exact h1 k zzz) (λk hk=>by
    by_cases e:k=i;·subst e;rw[hei,hz]
    ·rw[aF k e];exact h2 k zzz)
   refine⟨H',λbA=>?_,i2,i3,i4,o3.trans i5⟩;rw[<-Bool.and_assoc];refine mK H' i1 (λb3 o3' hb=>?_) BU (Nr.cellAt rfl) bA;obtain⟨b4,o4,r1,r2,r3,r4,r5⟩:=Lw.rl.at zzx (sP hei);have e4:=r1 .i64;rw[hb] at e4;cases e4;have:=r5 0 _ (Eo (lI fJ sg t u)).1;rwa[aed] at this
  have pH:=Yj fJ sg t u;have avN:lI fJ sg t u=u->(∀H':Hp,(∀bA:K.Fn 2,CJ JN GO cK bA (.ptr G 0) (.bool (all&&(u.ph==3))) dx (zi (ts.length:Nat)) (zi ((i+1:Nat):Int)) H2=bA (.ptr G 0) (.bool ((all&&(u.ph==3))&&(fJ.drop (i+1)).all (λr=>r.ph==3))) H')->∀bA:K.Fn 2,CJ JN GO cK bA (.ptr G 0) (.bool all) dx (zi (ts.length:Nat)) (zi (i:Nat)) H=bA (.ptr G 0) (.bool ((all&&(u.ph==3))&&(fJ.drop (i+1)).all (λr=>r.ph==3))) H')->
    ∃H',(∀bA:K.Fn 2,CJ JN GO cK bA (.ptr G 0) (.bool all) dx (zi (ts.length:Nat)) (zi (i:Nat)) H=bA (.ptr G 0) (.bool (all&&((u.ph==3)&&(fJ.drop (i+1)).all (λr=>r.ph==3)))) H')/\Cs H' p (rv dx st tx sx) 75 0/\cellAt H' G 0=some (.ptr p 0)/\OL H' 132 4 tx (eL (List.zipWith (lI fJ sg) ts fJ))/\Out (ak tx) H H':=by
   intro e mK;exact fin H2 rk (Out.refl _ _) (hO.out o2 zzy) hl (λk hk=>rfl) (by rw[Ik,e]) λH' z _ _ _=>mK H' z
  have d3:∀z:Bool,(u.ph==3)=z->(u.ph==3)=z:=λz h=>h;by_cases hr:El fJ sg t u=true
  ·have hs:lI fJ sg t u={u with ph:=1}:=by unfold lI;rw[zz2 hr]
   obtain⟨H3,w1,w2,w3,w4⟩:=(hO.out o2 zzy).ff (k:=0) (v:=zi 1) (sP Ik) p1 rfl zzx;have fY:(dT u).set 0 (zi 1)=dT {u with ph:=1}:=rfl;rw[fY,P3] at w2;rw[aed] at w1;have kN:=(aag.1 Ik).1;refine fin H3 (rk.set i {u with ph:=1}) w3 w2 (by rw[acV];exact hl) (λk hk=>by rw[ajA (λe=>hk e.symm)]) (by rw[aeH kN,hs]) λH' z hb BU Nr bA=>?_;have xQ:=hb b' o' (p1 .i64);rw[hs] at xQ;have ape:cellAt H3 b' o'=some (zi 1):=xQ;unfold El at hr;simp only[aaM,aiK,alL] at hr;obtain⟨r1,r2,r3⟩:=hr;have r0:u.ph=0:=by simpa using r1
   have r13:(u.ph==3)=false:=by rw[r0];rfl
   rw[r13,Bool.and_false] at z⊢;rw[aau];cases sf:(t.on==[]) with
   |true=>cases all<;>simp(disch:=try exact zqz)only[G3,aN g1,q3,q5,aC,kx,f1,c1,c2,c3,p1,u0,r1,r2,k5,sf,w1,BU,Nr,ape,es,z,ar,aq,zz0,simprocAttr]|false=>
    have r3':=r3.resolve_left (by rw[sf];simp);rw[r3'] at n0;cases all<;>simp(disch:=try exact zqz)only[G3,aN g1,q3,q5,aC,kx,f1,c1,c2,c3,p1,u0,r1,r2,k5,sf,n0,w1,BU,Nr,ape,es,z,ar,aq,zz0,simprocAttr]
  ·have hs:lI fJ sg t u=u:=by unfold lI;rw[zz1 hr]
   refine avN hs λH' z bA=>?_;rw[aau];unfold El at hr;cases r1:(u.ph==0) with
   |false=>cases all<;>simp only[acy,acw] at z⊢ <;> simp(disch:=try exact zqz)only[G3,aN g1,q3,q5,aC,kx,f1,c1,c2,c3,p1,u0,r1,k5,es,z,ar,aq,zz0,simprocAttr]|true=>
    cases r2:cn fJ t with
    |true=>
     rw[r2] at f1;cases all<;>simp only[acy,acw] at z⊢ <;> simp(disch:=try exact zqz)only[G3,aN g1,q3,q5,aC,kx,f1,c1,c2,c3,p1,u0,r1,r2,k5,es,z,ar,aq,zz0,simprocAttr]
    |false=>
     rw[r2] at f1;rw[r1,r2] at hr;have sf:(t.on==[])=false:=by
      cases hq:(t.on==[]) with
      |false=>rfl|true=>rw[hq] at hr;simp at hr
     have sS:(sg.any λa=>t.on==a)=false:=by
      rw[sf] at hr;cases hq:(sg.any λa=>t.on==a) with
      |false=>rfl|true=>rw[hq] at hr;simp at hr
     rw[sS] at n0;cases all<;>simp only[acy,acw] at z⊢ <;> simp(disch:=try exact zqz)only[G3,aN g1,q3,q5,aC,kx,f1,c1,c2,c3,p1,u0,r1,r2,k5,sf,n0,es,z,ar,aq,zz0,simprocAttr]
theorem V7 {H:Hp}{p:Nat}{dx tx sx:AV}{xs:List AV}{R:Rn}(hC:Cs H p (rv dx R.st tx sx) 75 0)(hO:RO H dx xs tx sx R)(hp:p∉pw dx xs tx sx)(hs:Sm R)(hl:R.rs.length=R.ts.length)(ha:∀t∈R.ts,∀a∈t.after,0<=a/\a<(R.ts.length:Int)):
  ∃H',cK (zf 106) [.ptr p 0] H=some (.tuple [],H')/\Cs H' p (rv dx (js R).st tx sx) 75 0/\RO H' dx xs tx sx (js R)/\Out (p::ak tx) H H':=by
 have aO:bx 146 (.ptr p 0) H=some (H.next,al H [.ptr p 0] 146 0):=MB rfl;have o1:=aD H [.ptr p 0] 146 0;have BT:p∉ak tx:=λz=>hp (aaT _ (aa1 _ z));have hG1:cellAt (al H [.ptr p 0] 146 0) H.next 0=some (.ptr p 0):=by rw[BC rfl];rfl
 have My:=hC.out o1 zzy;have k0:cellAt (al H [.ptr p 0] 146 0) p 0=some dx:=My.cellAt rfl;have AI:=hO.v.d.au o1;have il:=AI.aE;have Hn:=hO.v.t.1.lt;obtain⟨H2,i1,i2,i3,i4,i5⟩:=amK (G:=H.next) hs.n hs.a hs.s hl ha BT (λz=>by have:=Hn _ z;omega) hO.dt R.ts 0 (al H [.ptr p 0] 146 0) R.rs true (aa7 _) aaY My hG1 (by rw[bT];omega) AI (hO.t.out o1 zzy) (hO.s.rw.au o1) hl (λk _=>rfl) (λk hk=>zzz);rw[aaY,acy,show (((0:Nat):Int))=0 from rfl] at i1;have mA:=AI.out i5 λj hj z=>(hO.dt j z).1 hj;have Ei:=(hO.s.out o1 zzy).out i5 λj hj z=>(hO.dt j z).2 hj;have o2:Out (ak tx) H H2:=(o1.mono λj hj=>by cases hj).trans i5;cases mP:R.rs.all (λr=>r.ph==3) with
 |true=>
  rw[mP] at i1;obtain⟨H3,w1,w2,w3,w4⟩:=ff i2 zzx (o:=1) zzy (v:=zi 1) rfl;have aC:(js R).st=1:=by unfold js;rw[mP];rfl
  have fY:(rv dx R.st tx sx).set 1 (zi 1)=rv dx 1 tx sx:=rfl;rw[fY] at w2;have yH:∀{x:AV},(∀j∈ak x,j∈pw dx xs tx sx)->∀j∈ak x,j∉[p]:=λhx j hj=>by rw[No];intro e;subst e;exact hp (hx j hj)
  have Ey:RD H3 dx xs R.ts:=mA.out w3 λj hj=>by rw[No];intro e;subst e;exact hp (aa1 _ hj)
  have Td:=i4.out w3 (yH λj hj=>aaT _ (aa1 _ hj));have Cr:=Ei.out w3 (yH λj hj=>aaT _ (aaT _ hj));refine⟨H3,ajk ?_,by rw[aC];exact w2,⟨⟨Ey,Td.rl,Cr.rw⟩,Td,Cr,hO.dt,hO.ds⟩,(o2.mono λj hj=>.tail _ hj).trans (w3.mono λj hj=>by rw[No] at hj;subst hj;exact .head _)⟩;unfold Xe;simp(disch:=try exact zqz)only[aO,hG1,k0,il,i1,i3,w1,ar,aq,zz0,simprocAttr]
 |false=>
  rw[mP] at i1;have aC:(js R).st=R.st:=by unfold js;rw[mP];rfl
  refine⟨H2,ajk ?_,by rw[aC];exact i2,⟨⟨mA,i4.rl,Ei.rw⟩,i4,Ei,hO.dt,hO.ds⟩,o2.mono λj hj=>.tail _ hj⟩;unfold Xe;simp(disch:=try exact zqz)only[aO,hG1,k0,il,i1,i3,ar,aq,zz0,simprocAttr]
abbrev jS (n:Int):Int:=IntKind.wrap .i64 n
section
variable {H H':Hp}{S:List Nat}{dx sx tx:AV}{i m:Nat}{xs:List AV}
theorem RO.out {R:Rn}(h:RO H dx xs tx sx R)(k:Out S H H')(hs:∀j∈pw dx xs tx sx,j∉S):RO H' dx xs tx sx R:=
 ⟨h.v.out k hs,h.t.out k λj hj=>hs j (aaT _ (aa1 _ hj)),h.s.out k λj hj=>hs j (aaT _ (aaT _ hj)),h.dt,h.ds⟩
theorem RO.au {R:Rn}(h:RO H dx xs tx sx R)(k:Out [] H H'):RO H' dx xs tx sx R:=h.out k λ_ _ q=>by cases q
theorem aFw (t:RT):(dT t).all aZ=true:=rfl
theorem RO.set {R:Rn}{b o:Nat}(h:RO H dx xs tx sx R)(hi:i<R.rs.length)(qj:∀kd,ia 4 tx (.int kd i)=some (.ptr b o))(t:RT):
  ∃H',st 4 (.ptr b o) (.agg (dT t)) H=some H'/\RO H' dx xs tx sx {R with rs:=R.rs.set i t}/\Out (ak tx) H H'/\H'.next=H.next:=by
 obtain⟨H',h1,h2,h3,h4⟩:=h.t.eV (vs:=dT t) (by rw[AJ];exact hi) qj (aFw t) rfl zzx;rw[P3] at h2;exact⟨H',h1,⟨⟨h.v.d.out h3 λj hj z=>(h.dt j z).1 hj,h2.rl,h.v.s.out h3 λj hj z=>(h.dt j z).2 hj⟩,h2,h.s.out h3 λj hj z=>(h.dt j z).2 hj,h.dt,h.ds⟩,h3,h4⟩
theorem RD.at2 {ts:List Tk}(h:RD H dx xs ts){t:Tk}(ht:ts[i]?=some t):
  ∃x b o,(∀k,ia 6 dx (.int k i)=some (.ptr b o))/\b∈ak dx/\b<H.next/\aZ x=true/\av H b o 6=some (aH t x)/\∀k v,(aH t x)[k]?=some v->cellAt H b (o+k)=some v:=by
 have hi:=(aag.1 ht).1;have hx:xs[i]?=some (xs[i]'(by rw[h.len];exact hi)):=aaC _;have hw:=h.lu i _ t hx ht;have hz:(List.zipWith aH ts xs)[i]?=some (aH t (xs[i]'(by rw[h.len];exact hi))):=by rw[ac2,ht,hx]
 obtain⟨b,o,h1,h2,h3,h4,h5⟩:=h.row.at zzx hz;exact⟨_,b,o,h1,h2,h3,hw.one,h4,h5⟩
abbrev zR:List AV:=[.ah,zi 0,.ah,.ah]
abbrev tt:Rn:=⟨[],0,[],[]⟩
theorem RO.zero (H:Hp):RO H .ah [] .ah .ah tt:=
 ⟨⟨RD.nil H,RL.nil H 4,.nil⟩,OL.nil H _ 4,.nil,λj hj=>(by cases hj),λj hj=>by cases hj⟩
structure oD (R:Rn):Prop where
 sm:Sm R
 len:R.rs.length=R.ts.length
 lu:∀t∈R.ts,∀a∈t.after,0<=a/\a<(R.ts.length:Int)
def qi (f:AV)(args:List AV)(H:Hp)(R:Rn)(e:Int):Prop:=
 ∃dx xs tx sx H',cK f args H=some (.tuple [.agg (rv dx R.st tx sx),zi e],H')/\RO H' dx xs tx sx R/\Out [] H H'/\∀j∈pw dx xs tx sx,H.next<=j
theorem qi.err {f:AV}{args:List AV}{H1:Hp}{e:Int}(h:cK f args H=some (.tuple [.agg zR,zi e],H'))(k:Out [] H H1)(k2:Out [m] H1 H')(hm:H.next<=m):qi f args H tt e:=
 ⟨.ah,[],.ah,.ah,H',h,RO.zero H',k.then k2 (λj hj=>by rw[No] at hj;exact .inr zzz),λj hj=>by cases hj⟩
theorem ll {n:Nat}(h:n<=m):∀j∈[m],n<=j:=λj hj=>by rw[No] at hj;omega
theorem eR {A B:Hp}(h:Out [] H A)(k:Out S A B)(hS:∀j∈S,H.next<=j):Out [] H B:=h.then k λj hj=>.inr (hS j hj)
def qn (R:Rn)(task bC now:Int):Rn×Int:=
 if rF R task=0 then (match R.rs[task.toNat]?,R.ts[task.toNat]? with
  |some t,some d=>if t.ph=1 then (if bC=jS (t.tr+1) then ({R with rs:=R.rs.set task.toNat ⟨2,bC,jS (now+d.wait),t.iP⟩},0) else (tt,8)) else (tt,4)
  |_,_=>(tt,4)) else (tt,rF R task)
theorem ays {R:Rn}(h:RV H dx xs tx sx R)(hk:oD R)(task bC now:Int):
  qi (zf 78) [.agg (rv dx R.st tx sx),zi task,zi bC,zi now] H (qn R task bC now).1 (qn R task bC now).2:=by
 have aO:bx 75 (.agg (rv dx R.st tx sx)) H=some (H.next,al H (rv dx R.st tx sx) 75 0):=iw zzy;have o1:=aD H (rv dx R.st tx sx) 75 0;have c1:=aP H (rv dx R.st tx sx) 75 0;have n1:(al H (rv dx R.st tx sx) 75 0).next=H.next+1:=rfl;generalize al H (rv dx R.st tx sx) 75 0=H1 at*
 have o2:=aD H1 zR 75 0;have c2:=aP H1 zR 75 0;have n2:(al H1 zR 75 0).next=H.next+2:=by rw[bT,n1]
 rw[n1] at c2;generalize bq:al H1 zR 75 0=H2 at*
 have bF:=o1.trans o2;have mc:=c1.out o2 zzy;have k1:av H2 H.next 0 4=some (rv dx R.st tx sx):=mc.av 4 0 zzy;have hm:=aiq (h.au bF) task;have o3:=aD H2 (rv dx R.st tx sx) 75 0;have n3:(al H2 (rv dx R.st tx sx) 75 0).next=H.next+3:=by rw[bT,n2]
 generalize al H2 (rv dx R.st tx sx) 75 0=H3 at*
 have gh:=bF.trans o3;have rE:=mc.out o3 zzy;have uW:=c2.out o3 zzy;unfold qn;by_cases h0:rF R task=0
 ·obtain⟨i,t,rfl,ht,aC⟩:=Mf h0;have aV:=(aag.1 ht).1;have hd:R.ts[i]?=some (R.ts[i]'(by rw[<-hk.len];exact aV)):=aaC _;have d0:(rF R (i:Int) != 0)=false:=by simp[h0]
  rw[zz2 h0,abI,ht,hd];simp only;generalize R.ts[i]'(by rw[<-hk.len];exact aV)=d at*
  have k2:cellAt H3 H.next 2=some tx:=rE.cellAt rfl;obtain⟨b,o,q1,q2,q3,q4,q5⟩:=(h.t.au gh).at zzx (sP ht);have DF:=ajt t H3;rw[n3] at DF;obtain⟨e0,e1,e2,e3⟩:=Eo t;have o4:=aD H3 (dT t) 132 0;have QQ:=aP H3 (dT t) 132 0;rw[n3] at QQ;have n4:(al H3 (dT t) 132 0).next=H.next+4:=by rw[bT,n3]
  generalize al H3 (dT t) 132 0=H4 at*
  have hz4:az H3 [(zi 0),(zi 0),(zi 0),(.str [])] 132 0=some (H.next+3,al H3 [(zi 0),(zi 0),(zi 0),(.str [])] 132 0):=by rw[<-n3];exact eh zzy
  have gw:=gh.trans o4;have cP4:=rE.out o4 zzy;have VZ:=uW.out o4 zzy;have t0:cellAt H4 (H.next+3) 0=some (zi t.ph):=QQ.cellAt e0;have t1:cellAt H4 (H.next+3) 1=some (zi t.tr):=QQ.cellAt e1;by_cases h1:t.ph=1
  ·have d1:(t.ph != 1)=false:=by simp[h1]
   rw[zz2 h1];by_cases h2:bC=jS (t.tr+1)
   ·have d2:(bC != IntKind.wrap .i64 (t.tr+1))=false:=by simp[h2]
    rw[zz2 h2];have k4:av H4 H.next 0 4=some (rv dx R.st tx sx):=cP4.av 4 0 zzy;obtain⟨ay,aT,ax,aA,H5,r1,r2,r3,r4⟩:=DW (h.au gw) hk.sm;have n5:=r3.nx;obtain⟨H6,s1,s2,s3,s4⟩:=iC (n:=4) (vs:=rv ay R.st ax aA) (cP4.out r3 zzy) rfl rfl (by simp[r2.v.d.row.one,r2.t.rl.one,r2.s.lr,iS]);have fr:∀m,m<H.next+4->∀j∈pw ay aT ax aA,j∉[m]:=λm hm j hj=>by rw[No];have:=r4 j hj;omega
    have R6:=r2.out s3 (fr _ zzz);obtain⟨x,b2,Oi,p1,p2,p3,p4,p5,p6⟩:=R6.v.d.at2 hd;have kw6:cellAt H6 b2 (Oi+3)=some (zi d.wait):=p6 3 _ rfl;have kd6:cellAt H6 H.next 0=some ay:=s2.cellAt rfl;have cT6:=(QQ.out r3 zzy).out s3 (by rw[No];omega);have jQ:b2≠H.next+3:=by have:=r4 b2 (aa1 _ (aa1 _ p2));omega
    obtain⟨H7,u1,u2,u3,u4⟩:=ff cT6 zzx (o:=0) (by rw[Pq];omega) (v:=zi 2) rfl;obtain⟨H8,v1,v2,v3,v4⟩:=ff u2 zzx (o:=1) (by rw[acV,Pq];omega) (v:=zi bC) rfl;obtain⟨H9,w1,w2,w3,w4⟩:=ff v2 zzx (o:=2) (by rw[acV,acV,Pq];omega) (v:=zi (jS (now+d.wait))) rfl;have fY:(((dT t).set 0 (zi 2)).set 1 (zi bC)).set 2 (zi (jS (now+d.wait)))=dT ⟨2,bC,jS (now+d.wait),t.iP⟩:=rfl;rw[fY] at w2;have kw7:cellAt H7 b2 (Oi+3)=some (zi d.wait):=by rw[u3.cellAt p3 (by rw[No];exact jQ)];exact kw6
    have kw8:cellAt H8 b2 (Oi+3)=some (zi d.wait):=by rw[v3.cellAt zzz (by rw[No];exact jQ)];exact kw7
    have Nw:H.next∉[H.next+3]:=by rw[No];omega
    have s7:=s2.out u3 Nw;have s8:=s7.out v3 Nw;have s9:=s8.out w3 Nw;have kd7:cellAt H7 H.next 0=some ay:=s7.cellAt rfl;have kd8:cellAt H8 H.next 0=some ay:=s8.cellAt rfl;have kt9:cellAt H9 H.next 2=some ax:=s9.cellAt rfl;have kT9:av H9 (H.next+3) 0 4=some (dT ⟨2,bC,jS (now+d.wait),t.iP⟩):=w2.av 4 0 (by rw[Pq];omega);have R9:=((R6.out u3 (fr _ zzz)).out v3 (fr _ zzz)).out w3 (fr _ zzz);obtain⟨b3,o3',y1,y2,y3,y4,y5⟩:=R9.v.t.at zzx (sP ht);obtain⟨kW,z1,z2,z3,z4⟩:=R9.set aV y1 ⟨2,bC,jS (now+d.wait),t.iP⟩;have AS:∀m,m<H.next+4->m∉ak ax:=λm hm z=>by have:=r4 m (aaT _ (aa1 _ z));omega
    have s10:=s9.out z3 (AS _ zzz);have aDO:av kW H.next 0 4=some (rv ay R.st ax aA):=s10.av 4 0 zzy;have hQ:∀m,m≠H.next+1->H.next+1∉[m]:=λm hm=>by rw[No];omega
    have aBx:=((((((VZ.out r3 zzy).out s3 (hQ _ zzz)).out u3 (hQ _ zzz)).out v3 (hQ _ zzz)).out w3 (hQ _ zzz)).out z3 (AS _ zzz));obtain⟨Dq,g1,g2,g3,g4⟩:=iC (n:=4) (vs:=rv ay R.st ax aA) aBx rfl rfl (by simp[r2.v.d.row.one,r2.t.rl.one,r2.s.lr,iS]);have kQ:av Dq (H.next+1) 0 4=some (rv ay R.st ax aA):=g2.av 4 0 zzy;have out:=eR (eR (eR (eR (eR (eR (gw.trans r3) s3 (ll (aaO _))) u3 (ll zzz)) v3 (ll zzz)) w3 (ll zzz)) z3 (λj hj=>by have:=r4 j (aaT _ (aa1 _ hj));omega)) g3 (ll zzz);refine⟨ay,aT,ax,aA,Dq,Ui ?_,z2.out g3 (fr _ zzz),out,λj hj=>by have:=r4 j hj;omega⟩;unfold OZ;simp(disch:=try exact zqz)only[aO,n1,bq,k1,hm,d0,k2,q1,q4,n3,DF,t0,t1,d1,d2,k4,r1,s1,kd6,p1,kw6,u1,v1,w1,kd7,kd8,kw7,kw8,eG (lN r2.v.d.row.1),eG (agj _ _),kt9,kT9,y1,z1,aDO,g1,kQ,ar,aq,zz0,simprocAttr]
   ·have d2:(bC != IntKind.wrap .i64 (t.tr+1))=true:=by simp[h2]
    rw[zz1 h2];obtain⟨H5,w1,w2,w3,w4⟩:=iC (n:=4) (vs:=zR) VZ rfl rfl rfl;have k5:av H5 (H.next+1) 0 4=some zR:=w2.av 4 0 zzy;refine qi.err (Ui (?_:_=some (_,H5))) gw w3 (agN _);unfold OZ;simp(disch:=try exact zqz)only[aO,n1,bq,k1,hm,d0,k2,q1,q4,n3,DF,t0,t1,d1,d2,w1,k5,ar,aq,zz0,simprocAttr]
  ·have d1:(t.ph != 1)=true:=by simp[h1]
   rw[zz1 h1];obtain⟨H5,w1,w2,w3,w4⟩:=iC (n:=4) (vs:=zR) VZ rfl rfl rfl;have k5:av H5 (H.next+1) 0 4=some zR:=w2.av 4 0 zzy;refine qi.err (Ui (?_:_=some (_,H5))) gw w3 (agN _);unfold OZ;simp(disch:=try exact zqz)only[aO,n1,bq,k1,hm,d0,k2,q1,q4,n3,DF,t0,d1,w1,k5,ar,aq,zz0,simprocAttr]
 ·have d0:(rF R task != 0)=true:=by simp[h0]
  rw[zz1 h0];obtain⟨H4,w1,w2,w3,w4⟩:=iC (n:=4) (vs:=zR) uW rfl rfl rfl;have k5:av H4 (H.next+1) 0 4=some zR:=w2.av 4 0 zzy;refine qi.err (Ui (?_:_=some (_,H4))) gh w3 (agN _);unfold OZ;simp(disch:=try exact zqz)only[aO,n1,bq,k1,hm,d0,w1,k5,ar,aq,zz0,simprocAttr]
end
section
variable {H:Hp}{dx:AV}{xs:List AV}
theorem aB0 {z:List AV}{el n s:Nat}(k j:IntKind)(hn:n<=1048576)(hl:n*z.length<=16777216):B6 z el s (.int k n) (.int j n) H=some (.slice H.next 0 n n true s,al H (List.replicate n z).flatten el 0):=by
 unfold B6;have hr:rep n z=(List.replicate n z).flatten:=by unfold rep;rfl
 have hlen:(List.replicate n z).flatten.length=n*z.length:=zzy;simp only;rw[zz2 ⟨zzz,zzz,zzz⟩,abI,hr,eh (by rw[hlen];omega)];rfl
abbrev qe:RT:=⟨0,0,0,[]⟩
noncomputable def bh (ts:List Tk):Rn×Int:=if jD ts=0 then (js ⟨ts,0,List.replicate ts.length qe,[]⟩,0) else (tt,jD ts)
theorem UG {ts:List Tk}(h:RD H dx xs ts)(hn:ts.length<=1000)(cZ:∀t∈ts,t.after.length<=1000):
  qi (zf 76) [dv dx] H (bh ts).1 (bh ts).2:=by
 have fX:=h.row.one;have aO:bx 72 (.agg [dx]) H=some (H.next,al H [dx] 72 0):=iw zzy;have o1:=aD H [dx] 72 0;have c1:=aP H [dx] 72 0;have n1:(al H [dx] 72 0).next=H.next+1:=rfl;generalize al H [dx] 72 0=H1 at*
 have o2:=aD H1 zR 75 0;have c2:=aP H1 zR 75 0;have n2:(al H1 zR 75 0).next=H.next+2:=by rw[bT,n1]
 rw[n1] at c2;generalize bq:al H1 zR 75 0=H2 at*
 have bF:=o1.trans o2;have mc:=c1.out o2 zzy;have k1:av H2 H.next 0 1=some [dx]:=mc.av 1 0 zzy;obtain⟨H3,g1,o3⟩:=TA (ts:=ts) zzz (λt ht=>by have:=cZ t ht;omega) (h.au bF);have n3:=o3.nx;have gh:=bF.trans o3;have rE:=mc.out o3 zzy;have uW:=c2.out o3 zzy;unfold bh;by_cases h0:jD ts=0
 ·rw[zz2 h0];have hq:1<=ts.length/\ts.length<=16/\yG ts:=by
   have h:=h0;unfold jD at h;split at h;·cases h
   ·rename_i h1;split at h;·cases h
    ·split at h;·cases h
     ·split at h;·cases h
      ·split at h;·cases h
       ·rename_i h4;have h1:=ajy.1 h1;exact⟨h1.1,h1.2,Qm (by simpa using h4)⟩
  rw[h0] at g1;have k2:av H3 H.next 0 1=some [dx]:=rE.av 1 0 zzy;have k3:cellAt H3 H.next 0=some dx:=rE.cellAt rfl;have Ct:=h.au gh;have il:=Ct.aE;have pj:(List.replicate ts.length [(AV.int .i64 0),(zi 0),(zi 0),(.str [])]).flatten=(eL (List.replicate ts.length qe)).flatten:=by simp[eL,dT]
  have DI:=aB0 (H:=H3) (z:=[(zi 0),(zi 0),(zi 0),(.str [])]) (el:=132) (s:=4) (n:=ts.length) .i64 .i64 zzz (by simp;omega);rw[pj] at DI;have o4:=aD H3 (eL (List.replicate ts.length qe)).flatten 132 0;have cM:=aP H3 (eL (List.replicate ts.length qe)).flatten 132 0;have n4:(al H3 (eL (List.replicate ts.length qe)).flatten 132 0).next=H3.next+1:=rfl;generalize al H3 (eL (List.replicate ts.length qe)).flatten 132 0=H4 at*
  have adD:(eL (List.replicate ts.length qe)).flatten.length=ts.length*4:=by rw[EH (Uv _),AJ,afg]
  have hT4:RL H4 4 (.slice H3.next 0 ts.length ts.length true 4) (eL (List.replicate ts.length qe)):=⟨.mk cM.ro (by rw[adD]) (aaO _) (by rw[acy,<-ahM,Nat.beq_eq];omega),Uv _⟩;have hV4:RV H4 dx xs (.slice H3.next 0 ts.length ts.length true 4) .ah ⟨ts,0,List.replicate ts.length qe,[]⟩:=⟨Ct.au o4,hT4,.nil⟩;have TT:oD ⟨ts,0,List.replicate ts.length qe,[]⟩:=⟨⟨hn,cZ,by rw[afg];omega,zzy⟩,zzy,λt ht a ha=>by obtain⟨i,hi⟩:=aca ht;have:=(Dn hq.2.2 hi).1 a ha;exact⟨this.1,by show a<(ts.length:Int);omega⟩⟩;obtain⟨ay,aT,ax,aA,H5,r1,r2,r3,r4⟩:=DW hV4 TT.sm;have n5:=r3.nx;have Bn:cK (zf 97) [.agg [dx,zi 0,.slice H3.next 0 ts.length ts.length true 4,.ah]] H4=some (.agg (rv ay 0 ax aA),H5):=r1;have o5:=aD H5 (rv ay 0 ax aA) 75 0;have cA:=aP H5 (rv ay 0 ax aA) 75 0;have stA:st 4 (.ptr H5.next 0) (.agg (rv ay 0 ax aA)) (al H5 zR 75 0)=some (al H5 (rv ay 0 ax aA) 75 0):=gJ (by simp[r2.v.d.row.one,r2.t.rl.one,r2.s.lr,iS]) rfl rfl zzx rfl;have n6:(al H5 (rv ay 0 ax aA) 75 0).next=H5.next+1:=rfl;have awH:az H5 zR 75 0=some (H5.next,al H5 zR 75 0):=eh zzy;generalize hA6:al H5 (rv ay 0 ax aA) 75 0=H6 at*
  have fl5:=r2.v.lt;obtain⟨H7,s1,s2,s3,s4⟩:=V7 (R:=⟨ts,0,List.replicate ts.length qe,[]⟩) cA (r2.au o5) (λz=>by have:=fl5 _ z;omega) TT.sm TT.len TT.lu;have htx:∀j∈H5.next::ak ax,H4.next<=j:=λj hj=>by
   rcases aaD.1 hj with rfl|hj;·exact n5
   ·exact r4 j (aaT _ (aa1 _ hj))
  have hQ7:Cs H7 (H.next+1) zR 75 0:=(((uW.out o4 zzy).out r3 zzy).out o5 zzy).out s4 λz=>by have:=htx _ z;omega
  generalize js ⟨ts,0,List.replicate ts.length qe,[]⟩=R7 at*
  have kA7:av H7 H5.next 0 4=some (rv ay R7.st ax aA):=s2.av 4 0 zzy;obtain⟨H8,w1,w2,w3,w4⟩:=iC (n:=4) (vs:=rv ay R7.st ax aA) hQ7 rfl rfl (by simp[r2.v.d.row.one,r2.t.rl.one,r2.s.lr,iS]);have kQ:av H8 (H.next+1) 0 4=some (rv ay R7.st ax aA):=w2.av 4 0 zzy;have k4:av H4 H.next 0 1=some [dx]:=(rE.out o4 zzy).av 1 0 zzy;have fl1:fl zR [(0,1,.agg [dx]),(2,1,.slice H3.next 0 ts.length ts.length true 4)]=some [dx,zi 0,.slice H3.next 0 ts.length ts.length true 4,.ah]:=by rw[Ai (l:=[dx]) (n:=1) rfl zzy,yW rfl zzy,pz];rfl
  have smd:same (.agg [dx]) (.agg [dx])=true:=by show vi _ _=true;unfold vi;rw[am4 h.row.1];rfl
  have d0:((0:Int) != 0)=false:=rfl;have out:=eR (eR (((gh.trans o4).trans r3).trans o5) s4 λj hj=>by have:=htx j hj;omega) w3 (ll (agN _));refine⟨ay,aT,ax,aA,H8,adI ?_,s3.out w3 (λj hj=>by rw[No];have:=r4 j hj;omega),out,λj hj=>by have:=r4 j hj;omega⟩;unfold WG;simp(disch:=try exact zqz)only[aO,n1,bq,k1,g1,d0,k2,k3,il,DI,fl1,Bn,awH,stA,k4,eG smd,s1,kA7,w1,kQ,ar,aq,zz0,simprocAttr]
 ·rw[zz1 h0];have d0:(jD ts != 0)=true:=by simp[h0]
  obtain⟨H4,w1,w2,w3,w4⟩:=iC (n:=4) (vs:=zR) uW rfl rfl rfl;have k5:av H4 (H.next+1) 0 4=some zR:=w2.av 4 0 zzy;refine qi.err (adI (?_:_=some (_,H4))) gh w3 (agN _);unfold WG;simp(disch:=try exact zqz)only[aO,n1,bq,k1,g1,d0,w1,k5,ar,aq,zz0,simprocAttr]
def rS (R:Rn)(task bC:Int)(data:Str):Rn×Int:=
 if pP R task bC=0 then (js {R with rs:=R.rs.set task.toNat ⟨3,bC,0,data⟩},0) else (tt,pP R task bC)
theorem oD.set {R:Rn}(h:oD R)(i:Nat)(t:RT):oD {R with rs:=R.rs.set i t}:=⟨⟨h.sm.n,h.sm.a,by rw[acV];exact h.sm.r,h.sm.s⟩,by rw[acV];exact h.len,h.lu⟩
theorem auI {tx sx:AV}{R:Rn}(h:RV H dx xs tx sx R)(hk:oD R)(task bC:Int)(data:Str):
  qi (zf 79) [.agg (rv dx R.st tx sx),zi task,zi bC,.str data] H (rS R task bC data).1 (rS R task bC data).2:=by
 have aO:bx 75 (.agg (rv dx R.st tx sx)) H=some (H.next,al H (rv dx R.st tx sx) 75 0):=iw zzy;have o1:=aD H (rv dx R.st tx sx) 75 0;have c1:=aP H (rv dx R.st tx sx) 75 0;have n1:(al H (rv dx R.st tx sx) 75 0).next=H.next+1:=rfl;generalize al H (rv dx R.st tx sx) 75 0=H1 at*
 have o2:=aD H1 zR 75 0;have c2:=aP H1 zR 75 0;have n2:(al H1 zR 75 0).next=H.next+2:=by rw[bT,n1]
 rw[n1] at c2;generalize bq:al H1 zR 75 0=H2 at*
 have bF:=o1.trans o2;have mc:=c1.out o2 zzy;have k1:av H2 H.next 0 4=some (rv dx R.st tx sx):=mc.av 4 0 zzy;obtain⟨H3,hm,o3⟩:=akp (h.au bF) task bC;have n3:=o3.nx;have gh:=bF.trans o3;have rE:=mc.out o3 zzy;have uW:=c2.out o3 zzy;unfold rS;by_cases h0:pP R task bC=0
 ·obtain⟨i,t,rfl,ht,aC,pH,Lq⟩:=Uk h0;have aV:=(aag.1 ht).1;have d0:(pP R (i:Int) bC != 0)=false:=by simp[h0]
  rw[zz2 h0,abI];have k3:av H3 H.next 0 4=some (rv dx R.st tx sx):=rE.av 4 0 zzy;obtain⟨ay,aT,ax,aA,H4,r1,r2,r3,r4⟩:=DW (h.au gh) hk.sm;have n4:=r3.nx;have xn:(rv ay R.st ax aA).all aZ=true:=by simp[r2.v.d.row.one,r2.t.rl.one,r2.s.lr,iS]
  obtain⟨H5,s1,s2,s3,s4⟩:=iC (n:=4) (vs:=rv ay R.st ax aA) (rE.out r3 zzy) rfl rfl xn;have fr:∀m,m<H.next+2->∀j∈pw ay aT ax aA,j∉[m]:=λm hm j hj=>by rw[No];have:=r4 j hj;omega
  have R5:=r2.out s3 (fr _ zzz);have k5:cellAt H5 H.next 2=some ax:=s2.cellAt rfl;obtain⟨b,o,q1,q2,q3,q4,q5⟩:=R5.v.t.at zzx (sP ht);obtain⟨H6,z1,z2,z3,z4⟩:=R5.set aV q1 ⟨3,bC,0,data⟩;have AS:∀m,m<H.next+2->m∉ak ax:=λm hm z=>by have:=r4 m (aaT _ (aa1 _ z));omega
  have s6:=s2.out z3 (AS _ zzz);have iu:=hk.set i ⟨3,bC,0,data⟩;obtain⟨H7,t1,t2,t3,t4⟩:=V7 (R:={R with rs:=R.rs.set i ⟨3,bC,0,data⟩}) s6 z2 (λz=>by have:=r4 _ z;omega) iu.sm iu.len iu.lu;have Nd:∀m,m<H.next+2->m≠H.next->m∉H.next::ak ax:=λm hm aF z=>(aaD.1 z).elim aF (AS m hm);have K3:=(((uW.out r3 zzy).out s3 (by rw[No];omega)).out z3 (AS _ zzz)).out t4 (Nd _ zzz zzz);generalize js {R with rs:=R.rs.set i ⟨3,bC,0,data⟩}=R7 at*
  have k7:av H7 H.next 0 4=some (rv ay R7.st ax aA):=t2.av 4 0 zzy;obtain⟨H8,w1,w2,w3,w4⟩:=iC (n:=4) (vs:=rv ay R7.st ax aA) K3 rfl rfl (by simp[r2.v.d.row.one,r2.t.rl.one,r2.s.lr,iS]);have k8:av H8 (H.next+1) 0 4=some (rv ay R7.st ax aA):=w2.av 4 0 zzy;have z1':st 4 (.ptr b o) (.agg [zi 3,zi bC,zi 0,.str data]) H5=some H6:=z1;have uS:∀j∈ak ax,H.next<=j:=λj hj=>by have:=r4 j (aaT _ (aa1 _ hj));omega
  have out:=eR (eR (eR (eR (gh.trans r3) s3 (ll (aaO _))) z3 uS) t4 (λj hj=>(aaD.1 hj).elim (λe=>zzz) (uS j))) w3 (ll (agN _));refine⟨ay,aT,ax,aA,H8,amT ?_,t3.out w3 (fr _ zzz),out,λj hj=>by have:=r4 j hj;omega⟩;unfold Xn;simp(disch:=try exact zqz)only[aO,n1,bq,k1,hm,d0,k3,r1,s1,k5,q1,z1',t1,k7,w1,k8,ar,aq,zz0,simprocAttr]
 ·have d0:(pP R task bC != 0)=true:=by simp[h0]
  rw[zz1 h0];obtain⟨H4,w1,w2,w3,w4⟩:=iC (n:=4) (vs:=zR) uW rfl rfl rfl;have k5:av H4 (H.next+1) 0 4=some zR:=w2.av 4 0 zzy;refine qi.err (amT (?_:_=some (_,H4))) gh w3 (agN _);unfold Xn;simp(disch:=try exact zqz)only[aO,n1,bq,k1,hm,d0,w1,k5,ar,aq,zz0,simprocAttr]
end
def Gj:Nat->Nat->Nat
 |0,d=>d|n+1,d=>if d<64000 then Gj n (min (2*d) 64000) else d
def LQ (base bC:Nat):Nat:=if base=0\/bC=0 then 0 else Gj (bC-1) (min base 64000)
theorem Me (ty:Array TypeId)(x y:Int)(H:Hp):jh P .min ty [zi x,zi y] H=some (zi (if y<x then y else x),H):=abg rfl (id rfl)
theorem ag3:∀(n d:Nat),d<=64000->Gj n d<=64000
 |0,d,h=>h|n+1,d,h=>by
  unfold Gj;split;·exact ag3 n _ (Nat.min_le_right _ _)
  ·exact h
theorem azW (b t:Nat):LQ b t<=64000:=by
 unfold LQ;split;·omega
 ·exact ag3 _ _ (Nat.min_le_right _ _)
theorem aor {t:Nat}(ht:t<=1000000){H:Hp}(ic:K.Fn 1):∀(n d k:Nat),k+n=t->d<=64000->aaA JN GO cK ic (zi (t:Nat)) (zi (d:Nat)) (zi (k:Nat)) H=ic (zi (Gj n d:Nat)) H
 |0,d,k,h,hd=>by obtain rfl:k=t:=zzz;rw[agq];simp only[QM,df,Gj,zz0,simprocAttr]
 |n+1,d,k,h,hd=>by
  have h1:k<t:=zzz;have es:=dC h1 zzz;rw[agq];unfold Gj;by_cases h2:d<64000
  ·have d2:decide (((d:Nat):Int)<64000)=true:=zz3 zzz;have sh:wu (zi ((d:Nat):Int)) (.int .u64 1)=some (zi ((2*d:Nat):Int)):=by have:=Qp (k:=.i64) (j:=.u64) (a:=d) (b:=1);rw[show (((1:Nat):Int))=1 from rfl] at this;rw[this,show min 1 IntKind.i64.bits=1 from rfl,Nat.pow_one,anP,wrap_i64 zzz zzz]
   have hm:(if (64000:Int)<((2*d:Nat):Int) then (64000:Int) else ((2*d:Nat):Int))=((min (2*d) 64000:Nat):Int):=by split<;>omega
   have OT:=Me #[2,2] ((2*d:Nat):Int) 64000 H;rw[hm] at OT;have ih:=aor ht (H:=H) ic n (min (2*d) 64000) (k+1) zzz (Nat.min_le_right _ _);rw[zz2 h2];simp only[QM,aN h1,d2,sh,OT,es,ih,zz0,simprocAttr]
  ·have d2:decide (((d:Nat):Int)<64000)=false:=zz4 zzz;rw[zz1 h2];simp only[QM,aN h1,d2,zz0,simprocAttr]
theorem avD {base t:Nat}(hb:base<=1000000)(ht:t<=1000000)(H:Hp):cK (zf 145) [zi (base:Nat),zi (t:Nat)] H=some (zi (LQ base t:Nat),H):=by
 refine arO ?_;unfold anZ LQ;by_cases h0:base=0;·have d0:decide (((base:Nat):Int)<1)=true:=zz3 zzz;rw[zz2 (.inl h0)];simp only[d0,zz0,simprocAttr]<;>rfl
 ·have d0:decide (((base:Nat):Int)<1)=false:=zz4 zzz;by_cases h1:t=0;·have d1:decide (((t:Nat):Int)<1)=true:=zz3 zzz;rw[zz2 (.inr h1)];simp only[d0,d1,zz0,simprocAttr]<;>rfl
  ·have d1:decide (((t:Nat):Int)<1)=false:=zz4 zzz;rw[zz1 (λq=>q.elim h0 h1)];have hm:(if (64000:Int)<((base:Nat):Int) then (64000:Int) else ((base:Nat):Int))=((min base 64000:Nat):Int):=by split<;>omega
   have OT:=Me #[2,2] ((base:Nat):Int) 64000 H;rw[hm] at OT;have ih:=λic=>aor ht (H:=H) ic (t-1) (min base 64000) 1 zzz (Nat.min_le_right _ _);rw[show (((1:Nat):Int))=1 from rfl] at ih;simp only[d0,d1,OT,ih,zz0,simprocAttr]
def dM (base tr:Int):Int:=(LQ base.toNat tr.toNat:Nat)
def nw (R:Rn)(i:Nat)(t:RT)(d:Tk)(now:Int):Rn:=
 if t.tr<=d.cj then {R with rs:=R.rs.set i {t with ph:=5,fH:=jS (now+dM d.base t.tr)} } else {R with rs:=R.rs.set i {t with ph:=4,fH:=0},st:=2}
section
variable {H:Hp}{dx sx tx:AV}{xs:List AV}
theorem RO.cW {H':Hp}{R:Rn}{l:List RT}(h:RO H dx xs tx sx R)(hO:OL H' 132 4 tx (eL l))(k:Out (ak tx) H H'):RO H' dx xs tx sx {R with rs:=l}:=
 ⟨⟨h.v.d.out k λj hj z=>(h.dt j z).1 hj,hO.rl,h.v.s.out k λj hj z=>(h.dt j z).2 hj⟩,hO,h.s.out k λj hj z=>(h.dt j z).2 hj,h.dt,h.ds⟩
theorem adL {p i:Nat}{R:Rn}{t:RT}{d:Tk}(hC:Cs H p (rv dx R.st tx sx) 75 0)(hO:RO H dx xs tx sx R)(hp:p∉pw dx xs tx sx)(ht:R.rs[i]?=some t)(hd:R.ts[i]?=some d)(jr:0<=d.base)(hb:d.base<=1000000)(ht0:0<=t.tr)(ht1:t.tr<=1000000)(now:Int):
  ∃H',cK (zf 107) [.ptr p 0,zi (i:Nat),zi now] H=some (.tuple [],H')/\Cs H' p (rv dx (nw R i t d now).st tx sx) 75 0/\RO H' dx xs tx sx (nw R i t d now)/\Out (p::ak tx) H H':=by
 have BT:p∉ak tx:=λz=>hp (aaT _ (aa1 _ z));obtain⟨x,b2,Oi,p1,p2,p3,p4,p5,p6⟩:=hO.v.d.at2 hd;have aC:=Bb d x p4 H;have o1:=aD H (aH d x) 99 0;have cT:=aP H (aH d x) 99 0;have c2:cellAt H p 2=some tx:=hC.cellAt rfl;have c0:cellAt H p 0=some dx:=hC.cellAt rfl;obtain⟨b,o,q1,q2,q3,q4,q5⟩:=(hO.v.t.au o1).at zzx (sP ht);have r1:cellAt (al H (aH d x) 99 0) b (o+1)=some (zi t.tr):=q5 1 _ (Eo t).2.1;have m2:cellAt (al H (aH d x) 99 0) H.next 2=some (zi d.cj):=cT.cellAt (uQ d x).2.2.1;have m4:cellAt (al H (aH d x) 99 0) H.next 4=some (zi d.base):=cT.cellAt (uQ d x).2.2.2.2.1;have zJ:=hO.au o1;have My:=hC.out o1 zzy;have aV:=(aag.1 ht).1;have IG:cK (zf 145) [zi d.base,zi t.tr] (al H (aH d x) 99 0)=some (zi (dM d.base t.tr),al H (aH d x) 99 0):=by have:=avD (base:=d.base.toNat) (t:=t.tr.toNat) zzz zzz (al H (aH d x) 99 0);rw[show ((d.base.toNat:Nat):Int)=d.base by omega,show ((t.tr.toNat:Nat):Int)=t.tr by omega] at this;exact this
 generalize hA:al H (aH d x) 99 0=H1 at*
 have two:∀(a c:Int),∃H3 H2,st 1 (.ptr b o) (zi a) H1=some H2/\st 1 (.ptr b (o+2)) (zi c) H2=some H3/\OL H3 132 4 tx (eL (R.rs.set i {t with ph:=a,fH:=c}))/\Out (ak tx) H1 H3:=by intro a c;obtain⟨H2,w1,w2,w3,w4⟩:=zJ.t.ff (k:=0) (v:=zi a) (sP ht) q1 rfl zzx;have e2:((eL R.rs).set i ((dT t).set 0 (zi a)))[i]?=some ((dT t).set 0 (zi a)):=aeH (by rw[AJ];exact aV);obtain⟨H3,v1,v2,v3,v4⟩:=w2.ff (k:=2) (v:=zi c) e2 q1 rfl zzx;rw[List.set_set] at v2;have fY:((dT t).set 0 (zi a)).set 2 (zi c)=dT {t with ph:=a,fH:=c}:=rfl;rw[fY,P3] at v2;rw[aed] at w1;exact⟨H3,H2,w1,v1,v2,w3.trans v3⟩
 unfold nw;by_cases hle:t.tr<=d.cj;·have dl:decide (t.tr<=d.cj)=true:=zz3 hle;obtain⟨H3,H2,v1,v2,v3,v4⟩:=two 5 (jS (now+dM d.base t.tr));rw[zz2 hle];refine⟨H3,akZ ?_,My.out v4 BT,zJ.cW v3 v4,(o1.mono λj hj=>by cases hj).trans (v4.mono λj hj=>.tail _ hj)⟩;unfold Xc;simp(disch:=try exact zqz)only[c2,c0,q1,p1,p5,aC,hA,r1,m2,m4,dl,IG,v1,v2,ar,aq,zz0,simprocAttr]
 ·have dl:decide (t.tr<=d.cj)=false:=zz4 hle;obtain⟨H3,H2,v1,v2,v3,v4⟩:=two 4 0;rw[zz1 hle];obtain⟨H4,w1,w2,w3,w4⟩:=ff (My.out v4 BT) zzx (o:=1) zzy (v:=zi 2) rfl;have fY:(rv dx R.st tx sx).set 1 (zi 2)=rv dx 2 tx sx:=rfl;rw[fY] at w2;have Av:=(zJ.cW v3 v4).out w3 λj hj=>by rw[No];intro e;subst e;exact hp hj
  refine⟨H4,akZ ?_,w2,⟨⟨Av.v.d,Av.v.t,Av.v.s⟩,Av.t,Av.s,Av.dt,Av.ds⟩,((o1.mono λj hj=>by cases hj).trans (v4.mono λj hj=>.tail _ hj)).trans (w3.mono λj hj=>by rw[No] at hj;subst hj;exact .head _)⟩;unfold Xc;simp(disch:=try exact zqz)only[c2,c0,q1,p1,p5,aC,hA,r1,m2,m4,dl,v1,v2,w1,ar,aq,zz0,simprocAttr]
structure yq (R:Rn):Prop where
 d:∀t∈R.ts,0<=t.base/\t.base<=1000000
 t:∀t∈R.rs,0<=t.tr/\t.tr<=1000000
def Ae (R:Rn)(task bC now:Int):Rn×Int:=
 if pP R task bC=0 then (match R.rs[task.toNat]?,R.ts[task.toNat]? with
  |some t,some d=>(nw R task.toNat t d now,0)|_,_=>(tt,0)) else (tt,pP R task bC)
theorem aAS {R:Rn}(h:RV H dx xs tx sx R)(hk:oD R)(hb:yq R)(task bC now:Int):
  qi (zf 80) [.agg (rv dx R.st tx sx),zi task,zi bC,zi now] H (Ae R task bC now).1 (Ae R task bC now).2:=by
 have aO:bx 75 (.agg (rv dx R.st tx sx)) H=some (H.next,al H (rv dx R.st tx sx) 75 0):=iw zzy;have o1:=aD H (rv dx R.st tx sx) 75 0;have c1:=aP H (rv dx R.st tx sx) 75 0;have n1:(al H (rv dx R.st tx sx) 75 0).next=H.next+1:=rfl;generalize al H (rv dx R.st tx sx) 75 0=H1 at*
 have o2:=aD H1 zR 75 0;have c2:=aP H1 zR 75 0;have n2:(al H1 zR 75 0).next=H.next+2:=by rw[bT,n1]
 rw[n1] at c2;generalize bq:al H1 zR 75 0=H2 at*
 have bF:=o1.trans o2;have mc:=c1.out o2 zzy;have k1:av H2 H.next 0 4=some (rv dx R.st tx sx):=mc.av 4 0 zzy;obtain⟨H3,hm,o3⟩:=akp (h.au bF) task bC;have n3:=o3.nx;have gh:=bF.trans o3;have rE:=mc.out o3 zzy;have uW:=c2.out o3 zzy;unfold Ae;by_cases h0:pP R task bC=0
 ·obtain⟨i,t,rfl,ht,aC,pH,Lq⟩:=Uk h0;have aV:=(aag.1 ht).1;have hd:R.ts[i]?=some (R.ts[i]'(by rw[<-hk.len];exact aV)):=aaC _;have d0:(pP R (i:Int) bC != 0)=false:=by simp[h0]
  rw[zz2 h0,abI,ht,hd];simp only;generalize R.ts[i]'(by rw[<-hk.len];exact aV)=d at*
  have k3:av H3 H.next 0 4=some (rv dx R.st tx sx):=rE.av 4 0 zzy;obtain⟨ay,aT,ax,aA,H4,r1,r2,r3,r4⟩:=DW (h.au gh) hk.sm;have n4:=r3.nx;have xn:∀z:Int,(rv ay z ax aA).all aZ=true:=λz=>by simp[r2.v.d.row.one,r2.t.rl.one,r2.s.lr,iS]
  obtain⟨H5,s1,s2,s3,s4⟩:=iC (n:=4) (vs:=rv ay R.st ax aA) (rE.out r3 zzy) rfl rfl (xn _);have fr:∀m,m<H.next+2->∀j∈pw ay aT ax aA,j∉[m]:=λm hm j hj=>by rw[No];have:=r4 j hj;omega
  have R5:=r2.out s3 (fr _ zzz);have AS:∀m,m<H.next+2->m∉ak ax:=λm hm z=>by have:=r4 m (aaT _ (aa1 _ z));omega
  have b1:=hb.d d (aac hd);have b2:=hb.t t (aac ht);obtain⟨H7,t1,t2,t3,t4⟩:=adL s2 R5 (λz=>by have:=r4 _ z;omega) ht hd b1.1 b1.2 b2.1 b2.2 now;have Nd:∀m,m<H.next+2->m≠H.next->m∉H.next::ak ax:=λm hm aF z=>(aaD.1 z).elim aF (AS m hm);have K3:=((uW.out r3 zzy).out s3 (by rw[No];omega)).out t4 (Nd _ zzz zzz);generalize nw R i t d now=R7 at*
  have k7:av H7 H.next 0 4=some (rv ay R7.st ax aA):=t2.av 4 0 zzy;obtain⟨H8,w1,w2,w3,w4⟩:=iC (n:=4) (vs:=rv ay R7.st ax aA) K3 rfl rfl (xn _);have k8:av H8 (H.next+1) 0 4=some (rv ay R7.st ax aA):=w2.av 4 0 zzy;have uS:∀j∈ak ax,H.next<=j:=λj hj=>by have:=r4 j (aaT _ (aa1 _ hj));omega
  have out:=eR (eR (eR (gh.trans r3) s3 (ll (aaO _))) t4 (λj hj=>(aaD.1 hj).elim (λe=>zzz) (uS j))) w3 (ll (agN _));refine⟨ay,aT,ax,aA,H8,apb ?_,t3.out w3 (fr _ zzz),out,λj hj=>by have:=r4 j hj;omega⟩;unfold Ym;simp(disch:=try exact zqz)only[aO,n1,bq,k1,hm,d0,k3,r1,s1,t1,k7,w1,k8,ar,aq,zz0,simprocAttr]
 ·have d0:(pP R task bC != 0)=true:=by simp[h0]
  rw[zz1 h0];obtain⟨H4,w1,w2,w3,w4⟩:=iC (n:=4) (vs:=zR) uW rfl rfl rfl;have k5:av H4 (H.next+1) 0 4=some zR:=w2.av 4 0 zzy;refine qi.err (apb (?_:_=some (_,H4))) gh w3 (agN _);unfold Ym;simp(disch:=try exact zqz)only[aO,n1,bq,k1,hm,d0,w1,k5,ar,aq,zz0,simprocAttr]
end
theorem aCi {H:Hp}{g:Nat}{name:Str}(hg:cellAt H g 0=some (.str name))(Cu:g<H.next)(t:Tk)(x:AV):
  ∃H',cK (.func (.func 110) [] [.ptr g 0]) [.agg (aH t x)] H=some (.bool ((t.on==name)&&!(name==[])),H')/\Out [] H H':=by
 have b1:=xc t x H;have o1:=aD H (aH t x) 99 0;have c1:=aP H (aH t x) 99 0;have qC:cellAt (al H (aH t x) 99 0) g 0=some (.str name):=by rw[xz Cu];exact hg
 have k5:=c1.cellAt (uQ t x).2.2.2.2.2;generalize hA:al H (aH t x) 99 0=H1 at*
 refine⟨H1,arC ?_,o1⟩;unfold ahE;cases h1:(t.on==name) with
 |false=>simp(disch:=try exact zqz)only[b1,hA,qC,k5,h1,acw,ar,aq,zz0,simprocAttr]|true=>
  cases h2:(name==[]) with
  |false=>simp(disch:=try exact zqz)only[b1,hA,qC,k5,h1,h2,acy,ar,aq,zz0,simprocAttr]|true=>simp(disch:=try exact zqz)only[b1,hA,qC,k5,h1,h2,acy,ar,aq,zz0,simprocAttr]
def QH (name:Str)(c:List AV):Bool:=match c[5]? with|some (AV.str s)=>(s==name)&&!(name==[])|_=>false
def K2 (ts:List Tk)(name:Str):Bool:=ts.any λt=>(t.on==name)&&!(name==[])
def u9 (R:Rn)(name:Str):Rn×Int:=
 if R.st≠0 then (tt,9) else if R.sg.any (λs=>name==s) then (tt,5) else if K2 R.ts name then (js {R with sg:=R.sg++[name]},0) else (tt,1)
theorem atb {ts:List Tk}{name:Str}:∀{xs:List AV},xs.length=ts.length->(List.zipWith aH ts xs).any (QH name)=K2 ts name:=by
 induction ts with
 |nil=>intro xs _;rfl|cons t ts ih=>
  intro xs h;cases xs with
  |nil=>simp at h|cons x xs=>
   simp only[aaP,Nat.add_right_cancel_iff] at h;show (QH name (aH t x)||(List.zipWith aH ts xs).any (QH name))=_;rw[ih h];rfl
theorem aDW {H:Hp}{dx tx sx:AV}{xs:List AV}{R:Rn}(h:RV H dx xs tx sx R)(hk:oD R)(rK:R.sg.length<=900)(name:Str):
  qi (zf 81) [.agg (rv dx R.st tx sx),.str name] H (u9 R name).1 (u9 R name).2:=by
 have aO:bx 75 (.agg (rv dx R.st tx sx)) H=some (H.next,al H (rv dx R.st tx sx) 75 0):=iw zzy;have o1:=aD H (rv dx R.st tx sx) 75 0;have c1:=aP H (rv dx R.st tx sx) 75 0;have n1:(al H (rv dx R.st tx sx) 75 0).next=H.next+1:=rfl;generalize bw:al H (rv dx R.st tx sx) 75 0=H1 at*
 have oS:=aD H1 [.str name] 9 0;have cS:=aP H1 [.str name] 9 0;have nS:(al H1 [.str name] 9 0).next=H.next+2:=by rw[bT,n1]
 rw[n1] at cS;generalize hAS:al H1 [.str name] 9 0=HS at*
 have o2:=aD HS zR 75 0;have c2:=aP HS zR 75 0;have n2:(al HS zR 75 0).next=H.next+3:=by rw[bT,nS]
 rw[nS] at c2;generalize bq:al HS zR 75 0=H2 at*
 have bF:=(o1.trans oS).trans o2;have mc:=(c1.out oS zzy).out o2 zzy;have cS2:=cS.out o2 zzy;have k0:cellAt H2 H.next 0=some dx:=mc.cellAt rfl;have k1:cellAt H2 H.next 1=some (zi R.st):=mc.cellAt rfl;have k3:cellAt H2 H.next 3=some sx:=mc.cellAt rfl;have kS:cellAt H2 (H.next+1) 0=some (.str name):=cS2.cellAt rfl;unfold u9;by_cases h0:R.st≠0
 ·have d0:(R.st != 0)=true:=by simp[h0]
  rw[zz2 h0];have k5:av H2 (H.next+2) 0 4=some zR:=c2.av 4 0 zzy;refine qi.err (m:=H.next+2) (Qn (?_:_=some (_,H2))) bF ((Out.refl [] H2).mono λj hj=>by cases hj) zzz;unfold Oe;simp(disch:=try exact zqz)only[aO,bw,n1,hAS,nS,bq,k1,d0,k5,ar,aq,zz0,simprocAttr]
 have d0:(R.st != 0)=false:=by simpa using h0
 rw[zz1 h0];have n0:=Xo (h.s.au bF) zzz name;cases h5:R.sg.any (λs=>name==s) with
 |true=>
  rw[h5] at n0;rw[zz2 rfl];obtain⟨H4,w1,w2,w3,w4⟩:=iC (n:=4) (vs:=zR) c2 rfl rfl rfl;have k5:av H4 (H.next+2) 0 4=some zR:=w2.av 4 0 zzy;refine qi.err (Qn (?_:_=some (_,H4))) bF w3 zzz;unfold Oe;simp(disch:=try exact zqz)only[aO,bw,n1,hAS,nS,bq,k1,d0,k3,kS,n0,w1,k5,ar,aq,zz0,simprocAttr]
 |false=>
  rw[h5] at n0;rw[zz1 zzy];have sE:(List.zipWith aH R.ts xs).length<=1000:=by rw[aeV];exact afz (Nat.min_le_left _ _) hk.sm.n
  obtain⟨H3,f1,f2⟩:=apG (fv:=.func (.func 110) [] [.ptr (H.next+1) 0]) (p:=QH name) (h.d.row.au bF) zzz (λH' k a ha=>by
   obtain⟨i,hi⟩:=aca ha;rw[ac2] at hi;cases ht:R.ts[i]? with
   |none=>rw[ht] at hi;simp at hi|some t=>
    cases hx:xs[i]? with
    |none=>rw[ht,hx] at hi;simp at hi|some x=>
     rw[ht,hx] at hi;simp only[acD] at hi;subst hi;have rZ:=k.nx;exact aCi (g:=H.next+1) (by rw[k.cellAt zzz zzy];exact kS) zzz t x)
  rw[atb h.d.len] at f1;have gh:=bF.trans f2;have n3:=f2.nx;have rE:=mc.out f2 zzy;have cS3:=cS2.out f2 zzy;have uW:=c2.out f2 zzy;cases h6:K2 R.ts name with
  |false=>
   rw[h6] at f1;rw[zz1 zzy];obtain⟨H4,w1,w2,w3,w4⟩:=iC (n:=4) (vs:=zR) uW rfl rfl rfl;have k5:av H4 (H.next+2) 0 4=some zR:=w2.av 4 0 zzy;refine qi.err (Qn (?_:_=some (_,H4))) gh w3 zzz;unfold Oe;simp(disch:=try exact zqz)only[aO,bw,n1,hAS,nS,bq,k1,d0,k3,kS,n0,k0,f1,w1,k5,ar,aq,zz0,simprocAttr]
  |true=>
   rw[h6] at f1;rw[zz2 rfl];have k4:av H3 H.next 0 4=some (rv dx R.st tx sx):=rE.av 4 0 zzy;obtain⟨ay,aT,ax,aA,H4,r1,r2,r3,r4⟩:=DW (h.au gh) hk.sm;have n4:=r3.nx;have xn:∀z:Int,∀s:AV,aZ s=true->(rv ay z ax s).all aZ=true:=λz s hs=>by simp[r2.v.d.row.one,r2.t.rl.one,hs,iS]
   obtain⟨H5,s1,s2,s3,s4⟩:=iC (n:=4) (vs:=rv ay R.st ax aA) (rE.out r3 zzy) rfl rfl (xn _ _ r2.s.lr);have fr:∀m,m<H.next+3->∀j∈pw ay aT ax aA,j∉[m]:=λm hm j hj=>by rw[No];have:=r4 j hj;omega
   have R5:=r2.out s3 (fr _ zzz);have tR:cellAt H5 H.next 3=some aA:=s2.cellAt rfl;have kS5:cellAt H5 (H.next+1) 0=some (.str name):=((cS3.out r3 zzy).out s3 (by rw[No];omega)).cellAt rfl;have fl5:=R5.v.lt;have n5:=s3.nx;have nsx:∀m,m<H.next+3->m∉ak aA:=λm hm z=>by have:=r4 m (aaT _ (aaT _ z));omega
   obtain⟨xy,H6,p1,p2,p3,p4,p5⟩:=vf (el2:=9) (z:=[(.str [])]) (vs:=[.str name]) R5.s rfl rfl zzx (by rw[gZ];simp;omega);have uw:strs R.sg++[.str name]=strs (R.sg++[name]):=by simp[strs]
   rw[uw] at p2;have fI:=p1 _ rfl;have n6:=p3.nx;have s6:=s2.out p3 (nsx _ zzz);obtain⟨H7,v1,v2,v3,v4⟩:=Am.K.ff s6 zzx (o:=3) zzy (v:=xy) p5;have fY:(rv ay R.st ax aA).set 3 xy=rv ay R.st ax xy:=rfl;rw[fY] at v2;have n7:=v3.nx;have oq:∀j∈ak xy,j∈ak aA\/H5.next<=j:=p4;have Ih:∀j∈pw ay aT ax xy,H.next+3<=j:=λj hj=>by
    rcases aa2.1 hj with hj|hj;·have:=r4 j (aa1 _ hj);omega
    ·rcases aa2.1 hj with hj|hj;·have:=r4 j (aaT _ (aa1 _ hj));omega
     ·rcases oq j hj with z|z;·have:=r4 j (aaT _ (aaT _ z));omega
      ·omega
   have MW:∀j,H.next+3<=j->j∉[H.next]:=λj hj=>by rw[No];omega
   have RO7:RO H7 ay aT ax xy {R with sg:=R.sg++[name]}:=by
    have hd6:=(R5.v.d.out p3 λj hj z=>R5.ds j z hj).out v3 λj hj=>MW j (Ih j (aa1 _ hj));have ht6:=(R5.t.out p3 λj hj z=>(R5.dt j hj).2 z).out v3 λj hj=>MW j (Ih j (aaT _ (aa1 _ hj)));have hs6:=p2.out v3 λj hj=>MW j (Ih j (aaT _ (aaT _ hj)));refine⟨⟨hd6,ht6.rl,hs6.rw⟩,ht6,hs6,λj hj=>⟨(R5.dt j hj).1,λz=>?_⟩,λj hj z=>?_⟩
    ·rcases oq j z with y|y;·exact (R5.dt j hj).2 y
     ·have:=R5.t.rl.1.lt j hj;omega
    ·rcases oq j hj with y|y;·exact R5.ds j y z
     ·have:=R5.v.d.lt j z;omega
   have iu:oD {R with sg:=R.sg++[name]}:=⟨⟨hk.sm.n,hk.sm.a,hk.sm.r,by show (R.sg++[name]).length<=1000;rw[aal];simp;omega⟩,hk.len,hk.lu⟩;obtain⟨H8,t1,t2,t3,t4⟩:=V7 (R:={R with sg:=R.sg++[name]}) v2 RO7 (λz=>by have:=Ih _ z;omega) iu.sm iu.len iu.lu;have Qe:∀j∈ak ax,H.next+3<=j:=λj hj=>by have:=r4 j (aaT _ (aa1 _ hj));omega
   have cQ8:=((((uW.out r3 zzy).out s3 (by rw[No];omega)).out p3 (nsx _ zzz)).out v3 (by rw[No];omega)).out t4 λz=>(aaD.1 z).elim (λe=>zzz) λz=>by have:=Qe _ z;omega
   generalize js {R with sg:=R.sg++[name]}=R8 at*
   have k8:av H8 H.next 0 4=some (rv ay R8.st ax xy):=t2.av 4 0 zzy;obtain⟨H9,w1,w2,w3,w4⟩:=iC (n:=4) (vs:=rv ay R8.st ax xy) cQ8 rfl rfl (xn _ _ p5);have k9:av H9 (H.next+2) 0 4=some (rv ay R8.st ax xy):=w2.av 4 0 zzy;have out:=eR (eR (eR (eR (eR (gh.trans r3) s3 (ll (aaO _))) p3 (λj hj=>by have:=r4 j (aaT _ (aaT _ hj));omega)) v3 (ll (aaO _))) t4 (λj hj=>(aaD.1 hj).elim (λe=>zzz) λz=>by have:=Qe _ z;omega)) w3 (ll zzz);refine⟨ay,aT,ax,xy,H9,Qn ?_,t3.out w3 (λj hj=>by rw[No];have:=Ih j hj;omega),out,λj hj=>by have:=Ih j hj;omega⟩;unfold Oe;simp(disch:=try exact zqz)only[aO,bw,n1,hAS,nS,bq,k1,d0,k3,kS,n0,k0,f1,k4,r1,s1,tR,kS5,fI,v1,t1,k8,w1,k9,ar,aq,zz0,simprocAttr]
def BX (H:Hp)(i:Nat)(s:List Nat)(pos:Nat):Prop:=i<H.next/\H.h.get i=some (.vO s pos)
def Ib (H:Hp)(s:List Nat):Hp:=⟨H.h.put 34 H.next (.vO s 0),H.next+1⟩
theorem alw {t:TypeId}(hu:P.underlying t=some .string)(s:List Nat)(H:Hp):C6 P t (.str s) H=some (.ptr H.next 0,Ib H s):=by unfold C6;rw[hu];rfl
theorem aeG (H:Hp)(s:List Nat):BX (Ib H s) H.next s 0:=⟨ahA _,by show (Tr.put 34 H.h H.next _).get H.next=_;rw[Tr.put,Tr.gL,zz2 rfl]⟩
theorem ahP (H:Hp)(s:List Nat):Out [] H (Ib H s):=⟨agN _,λj hj _=>by show (Tr.put 34 H.h H.next _).get j=_;rw[Tr.put,Tr.gL,zz1 zzz]⟩
theorem BX.out {H H':Hp}{i pos:Nat}{s:List Nat}{S:List Nat}(h:BX H i s pos)(k:Out S H H')(hi:i∉S):BX H' i s pos:=⟨adi h.1 k.1,by rw[k.2 i h.1 hi];exact h.2⟩
theorem aka {H:Hp}{i pos b:Nat}{s:List Nat}(h:BX H i s pos)(hb:s[pos]?=some b)(h7:b<128):
  ∃H',Bm (.ptr i 0) true H=some (.tuple [.bool true,zi (pos:Nat),.int .i32 (b:Nat)],H')/\BX H' i s (pos+1)/\Out [i] H H'/\H'.next=H.next:=by
 have hl:=(aag.1 hb).1;have hd:s.drop pos=b::s.drop (pos+1):=by rw[aiB hl];rw[aaC hl] at hb;cases hb;rfl
 refine⟨Am.setObj H i (.vO s (pos+1)),?_,⟨h.1,by rw[S8,zz2 rfl]⟩,⟨aaO _,λj _ hn=>by rw[S8,zz1 (by simpa using hn)]⟩,rfl⟩;have h8:Nat.blt b 128=true:=by rw[adW];exact h7
 unfold Bm;simp only[h.2,hd,h8,cond_true]
theorem afN {H:Hp}{i pos:Nat}{s:List Nat}(h:BX H i s pos)(hp:s.length<=pos):Bm (.ptr i 0) true H=some (.tuple [.bool false],H):=by have hd:s.drop pos=[]:=aiG hp;unfold Bm;simp only[h.2,hd]
structure Ev where
 kd:Int
 rn:Int
 tk:Int
 ty:Int
 n:Int
 nm:Str
 ky:Str
 dt:Str
def aQ (e:Ev):List AV:=[zi e.kd,zi e.rn,zi e.tk,zi e.ty,zi e.n,.str e.nm,.str e.ky,.str e.dt]
def pS (k:Int):Str:=
 if k=1 then [77,68] else if k=2 then [82,77,75] else if k=3\/k=5 then [82,84,89] else if k=4 then [82,84,89,68] else if k=6\/k=9 then [78] else if k=7 then [82,77] else if k=8 then [82] else []
def nu (n a b:Int):Bool:=decide (a<=n)&&decide (n<=b)
noncomputable def wG (e:Ev)(c:Nat):Bool:=
 if c=82 then nu e.rn 1 64 else if c=84 then nu e.tk 0 15 else if c=89 then nu e.ty 1 9 else if c=78 then nu e.n 1 (if e.kd=9 then 1048575 else 1099511627776)
 else if c=77 then tY e.nm else if c=75 then decide (e.ky.length<=16) else if e.kd=1 then decide (e.dt.length<=900) else decide (e.dt.length<=64)
def N8 (e x:Ev)(c:Nat):Ev:=
 if c=82 then {x with rn:=e.rn} else if c=84 then {x with tk:=e.tk} else if c=89 then {x with ty:=e.ty} else if c=78 then {x with n:=e.n}
 else if c=77 then {x with nm:=e.nm} else if c=75 then {x with ky:=e.ky} else if c=68 then {x with dt:=e.dt} else x
def BF (k:Int):Ev:=⟨k,0,0,0,0,[],[],[]⟩
def HD (e:Ev)(l:Str):Ev:=l.foldl (N8 e) (BF e.kd)
def QL (a b:Ev):Bool:=(a.kd==b.kd)&&((a.rn==b.rn)&&((a.tk==b.tk)&&((a.ty==b.ty)&&((a.n==b.n)&&((a.nm==b.nm)&&((a.ky==b.ky)&&(a.dt==b.dt)))))))
noncomputable def CE (e:Ev):Bool := !(pS e.kd==[])&&(QL (HD e (pS e.kd)) e&&(pS e.kd).all (wG e))
theorem tD (e:Ev):(aQ e).length=8:=rfl
theorem adp (e:Ev):(aQ e)[0]?=some (zi e.kd)/\(aQ e)[1]?=some (zi e.rn)/\(aQ e)[2]?=some (zi e.tk)/\(aQ e)[3]?=some (zi e.ty)/\(aQ e)[4]?=some (zi e.n)/\(aQ e)[5]?=some (.str e.nm)/\(aQ e)[6]?=some (.str e.ky)/\(aQ e)[7]?=some (.str e.dt):=⟨rfl,rfl,rfl,rfl,rfl,rfl,rfl,rfl⟩
theorem aah (k:Int)(H:Hp):cK (zf 48) [zi k] H=some (.str (pS k),H):=by
 refine arl ?_;unfold amx pS;by_cases h1:k=1;·subst h1;simp only[zz0,simprocAttr,↓reduceIte]
 have b1:(k==1)=false:=by simp[h1]
 by_cases h2:k=2;·subst h2;simp only[b1,zz0,simprocAttr]<;>rfl
 have b2:(k==2)=false:=by simp[h2]
 by_cases h3:k=3;·subst h3;simp only[b1,b2,zz0,simprocAttr]<;>rfl
 have b3:(k==3)=false:=by simp[h3]
 by_cases h5:k=5;·subst h5;simp only[b1,b2,b3,zz0,simprocAttr]<;>rfl
 have b5:(k==5)=false:=by simp[h5]
 by_cases h4:k=4;·subst h4;simp only[b1,b2,b3,b5,zz0,simprocAttr]<;>rfl
 have b4:(k==4)=false:=by simp[h4]
 by_cases h6:k=6;·subst h6;simp only[b1,b2,b3,b5,b4,zz0,simprocAttr]<;>rfl
 have b6:(k==6)=false:=by simp[h6]
 by_cases h9:k=9;·subst h9;simp only[b1,b2,b3,b5,b4,b6,zz0,simprocAttr]<;>rfl
 have b9:(k==9)=false:=by simp[h9]
 by_cases h7:k=7;·subst h7;simp only[b1,b2,b3,b5,b4,b6,b9,zz0,simprocAttr]<;>rfl
 have b7:(k==7)=false:=by simp[h7]
 by_cases h8:k=8;·subst h8;simp only[b1,b2,b3,b5,b4,b6,b9,b7,zz0,simprocAttr]<;>rfl
 have b8:(k==8)=false:=by simp[h8]
 simp only[b1,b2,b3,b5,b4,b6,b9,b7,b8,h1,h2,h3,h4,h5,h6,h7,h8,h9,or_self,↓reduceIte,zz0,simprocAttr]
theorem YW (n a b:Int)(H:Hp):cK (zf 87) [zi n,zi a,zi b] H=some (.bool (nu n a b),H):=by
 refine axe ?_;unfold ai6 nu;by_cases h1:a<=n;·simp(disch:=try exact zqz)only[h1,acy,ar,aq,zz0,simprocAttr]
 ·simp(disch:=try exact zqz)only[h1,acw,ar,aq,zz0,simprocAttr]
theorem ayz (e:Ev)(c:Nat)(H:Hp):∃H',cK (zf 52) [.agg (aQ e),.int .i32 (c:Nat)] H=some (.bool (wG e c),H')/\Out [] H H':=by
 have aO:bx 26 (.agg (aQ e)) H=some (H.next,al H (aQ e) 26 0):=iw (by rw[tD];omega);have o1:=aD H (aQ e) 26 0;have c1:=aP H (aQ e) 26 0;generalize al H (aQ e) 26 0=H1 at*
 obtain⟨e0,e1,e2,e3,e4,e5,e6,e7⟩:=adp e;have k0:=c1.cellAt e0;have k1:=c1.cellAt e1;have k2:=c1.cellAt e2;have k3:=c1.cellAt e3;have k4:=c1.cellAt e4;have k5:=c1.cellAt e5;have k6:=c1.cellAt e6;have k7:=c1.cellAt e7;have hd:∀n:Nat,c≠n->(((c:Nat):Int)==(n:Nat))=false:=λn hn=>by rw[zz9];omega
 refine⟨H1,ara ?_,o1⟩;unfold amC wG;by_cases h1:c=82;·subst h1;simp(disch:=try exact zqz)only[aO,k1,YW,↓reduceIte,afr,ar,aq,zz0,simprocAttr]
 have b1:(((c:Nat):Int)==82)=false:=hd 82 h1;rw[zz1 h1];by_cases h2:c=84;·subst h2;simp(disch:=try exact zqz)only[aO,k2,YW,↓reduceIte,afr,ar,aq,zz0,simprocAttr]
 have b2:(((c:Nat):Int)==84)=false:=hd 84 h2;rw[zz1 h2];by_cases h3:c=89;·subst h3;simp(disch:=try exact zqz)only[aO,k3,YW,↓reduceIte,afr,ar,aq,zz0,simprocAttr]
 have b3:(((c:Nat):Int)==89)=false:=hd 89 h3;rw[zz1 h3];by_cases h4:c=78
 ·subst h4;rw[zz2 rfl];by_cases hk:e.kd=9
  ·have bk:(e.kd==9)=true:=by simp[hk]
   rw[zz2 hk];unfold nu;by_cases hn:1<=e.n;·simp(disch:=try exact zqz)only[aO,k0,k4,bk,hn,acy,afr,ar,aq,zz0,simprocAttr]
   ·simp(disch:=try exact zqz)only[aO,k0,k4,bk,hn,acw,afr,ar,aq,zz0,simprocAttr]
  ·have bk:(e.kd==9)=false:=by simp[hk]
   rw[zz1 hk];unfold nu;by_cases hn:1<=e.n;·simp(disch:=try exact zqz)only[aO,k0,k4,bk,hn,acy,afr,ar,aq,zz0,simprocAttr]
   ·simp(disch:=try exact zqz)only[aO,k0,k4,bk,hn,acw,afr,ar,aq,zz0,simprocAttr]
 have b4:(((c:Nat):Int)==78)=false:=hd 78 h4;rw[zz1 h4];by_cases h5:c=77;·subst h5;simp(disch:=try exact zqz)only[aO,k5,Oo,↓reduceIte,afr,ar,aq,zz0,simprocAttr]
 have b5:(((c:Nat):Int)==77)=false:=hd 77 h5;rw[zz1 h5];have hle:∀(a n:Nat),decide (((a:Nat):Int)<=((n:Nat):Int))=decide (a<=n):=λa n=>zzy;by_cases h6:c=75;·subst h6;have:=hle e.ky.length 16;rw[show (((16:Nat):Int))=16 from rfl] at this;simp(disch:=try exact zqz)only[aO,k6,this,↓reduceIte,afr,ar,aq,zz0,simprocAttr]
 have b6:(((c:Nat):Int)==75)=false:=hd 75 h6;rw[zz1 h6];by_cases h7:e.kd=1
 ·have b7:(e.kd==1)=true:=by simp[h7]
  have:=hle e.dt.length 900;rw[show (((900:Nat):Int))=900 from rfl] at this;rw[zz2 h7];simp(disch:=try exact zqz)only[aO,k0,k7,b1,b2,b3,b4,b5,b6,b7,this,ar,aq,zz0,simprocAttr]
 ·have b7:(e.kd==1)=false:=by simp[h7]
  have:=hle e.dt.length 64;rw[show (((64:Nat):Int))=64 from rfl] at this;rw[zz1 h7];simp(disch:=try exact zqz)only[aO,k0,k7,b1,b2,b3,b4,b5,b6,b7,this,ar,aq,zz0,simprocAttr]
theorem aex {e:Ev}{E X it:Nat}{l:Str}{y:AV}(hl:∀c∈l,c<128)(h1:E≠X)(h2:E≠it)(h3:X≠it):∀(r:Str) (i:Nat) (H:Hp) (x:Ev),l.drop i=r->BX H it l i->Cs H E (aQ e) 26 0->Cs H X (aQ x) 26 0->
  ∃H',(∀cP:K.Fn 2,SC JN GO cK cP (.ptr E 0) y (.ptr X 0) (.ptr it 0) H=cP y (.ptr X 0) H')/\Cs H' X (aQ (r.foldl (N8 e) x)) 26 0/\Out [it,X] H H'/\H'.next=H.next
 |[],i,H,x,h,hS,hE,hX=>by
  have hi:l.length<=i:=by
   rcases alV i l.length with q|q;·rw[aiB q] at h;cases h
   ·exact q
  refine⟨H,λcP=>?_,hX,Out.refl _ _,rfl⟩;rw[CZ];simp only[A9,afN hS hi,zz0,simprocAttr]
 |c::r,i,H,x,h,hS,hE,hX=>by
  obtain⟨g1,g2,g3⟩:=dU h;obtain⟨H1,n1,n2,n3,n4⟩:=aka hS g2 (hl c (aac g2));have Dl:=hE.out n3 (by simpa using h2);have hX1:=hX.out n3 (by simpa using h3);obtain⟨e0,e1,e2,e3,e4,e5,e6,e7⟩:=adp e;have hd:∀n:Nat,c≠n->(((c:Nat):Int)==(n:Nat))=false:=λn hn=>by rw[zz9];omega
  have fin:∀(H2:Hp) (x':Ev),Cs H2 X (aQ x') 26 0->Out [X] H1 H2->H2.next=H1.next->N8 e x c=x'->∃H',(∀cP:K.Fn 2,SC JN GO cK cP (.ptr E 0) y (.ptr X 0) (.ptr it 0) H2=cP y (.ptr X 0) H')/\Cs H' X (aQ ((c::r).foldl (N8 e) x)) 26 0/\Out [it,X] H H'/\H'.next=H.next:=by intro H2 x' mI ho hn hx;obtain⟨H',i1,i2,i3,i4⟩:=aex (y:=y) hl h1 h2 h3 r (i+1) H2 x' g3 (n2.out ho (by simpa using λq=>h3 q.symm)) (Dl.out ho (by simpa using h1)) mI;refine⟨H',i1,by rw[List.foldl_cons,hx];exact i2,((n3.mono (λj hj=>by simp at hj;simp[hj])).trans (ho.mono (λj hj=>by simp at hj;simp[hj]))).trans i3,zzz⟩
  have sv:∀(o:Nat) (v:AV),o<8->aZ v=true->∃H2,st 1 (.ptr X o) v H1=some H2/\Cs H2 X ((aQ x).set o v) 26 0/\Out [X] H1 H2/\H2.next=H1.next:=λo v ho hv=>ff hX1 zzx (by rw[tD];exact ho) hv;by_cases q1:c=82;·subst q1;obtain⟨H2,s1,s2,s3,s4⟩:=sv 1 (zi e.rn) zzz rfl;obtain⟨H',i1,i2,i3,i4⟩:=fin H2 {x with rn:=e.rn} s2 s3 s4 rfl;refine⟨H',λcP=>?_,i2,i3,i4⟩;rw[CZ];simp(disch:=try exact zqz)only[A9,n1,Dl.cellAt e1,s1,i1,afr,ar,aq,zz0,simprocAttr]
  have b1:(((c:Nat):Int)==82)=false:=hd 82 q1;by_cases q2:c=84;·subst q2;obtain⟨H2,s1,s2,s3,s4⟩:=sv 2 (zi e.tk) zzz rfl;obtain⟨H',i1,i2,i3,i4⟩:=fin H2 {x with tk:=e.tk} s2 s3 s4 rfl;refine⟨H',λcP=>?_,i2,i3,i4⟩;rw[CZ];simp(disch:=try exact zqz)only[A9,n1,Dl.cellAt e2,s1,i1,afr,ar,aq,zz0,simprocAttr]
  have b2:(((c:Nat):Int)==84)=false:=hd 84 q2;by_cases q3:c=89;·subst q3;obtain⟨H2,s1,s2,s3,s4⟩:=sv 3 (zi e.ty) zzz rfl;obtain⟨H',i1,i2,i3,i4⟩:=fin H2 {x with ty:=e.ty} s2 s3 s4 rfl;refine⟨H',λcP=>?_,i2,i3,i4⟩;rw[CZ];simp(disch:=try exact zqz)only[A9,n1,Dl.cellAt e3,s1,i1,afr,ar,aq,zz0,simprocAttr]
  have b3:(((c:Nat):Int)==89)=false:=hd 89 q3;by_cases q4:c=78;·subst q4;obtain⟨H2,s1,s2,s3,s4⟩:=sv 4 (zi e.n) zzz rfl;obtain⟨H',i1,i2,i3,i4⟩:=fin H2 {x with n:=e.n} s2 s3 s4 rfl;refine⟨H',λcP=>?_,i2,i3,i4⟩;rw[CZ];simp(disch:=try exact zqz)only[A9,n1,Dl.cellAt e4,s1,i1,afr,ar,aq,zz0,simprocAttr]
  have b4:(((c:Nat):Int)==78)=false:=hd 78 q4;by_cases q5:c=77;·subst q5;obtain⟨H2,s1,s2,s3,s4⟩:=sv 5 (.str e.nm) zzz rfl;obtain⟨H',i1,i2,i3,i4⟩:=fin H2 {x with nm:=e.nm} s2 s3 s4 rfl;refine⟨H',λcP=>?_,i2,i3,i4⟩;rw[CZ];simp(disch:=try exact zqz)only[A9,n1,Dl.cellAt e5,s1,i1,afr,ar,aq,zz0,simprocAttr]
  have b5:(((c:Nat):Int)==77)=false:=hd 77 q5;by_cases q6:c=75;·subst q6;obtain⟨H2,s1,s2,s3,s4⟩:=sv 6 (.str e.ky) zzz rfl;obtain⟨H',i1,i2,i3,i4⟩:=fin H2 {x with ky:=e.ky} s2 s3 s4 rfl;refine⟨H',λcP=>?_,i2,i3,i4⟩;rw[CZ];simp(disch:=try exact zqz)only[A9,n1,Dl.cellAt e6,s1,i1,afr,ar,aq,zz0,simprocAttr]
  have b6:(((c:Nat):Int)==75)=false:=hd 75 q6;by_cases q7:c=68;·subst q7;obtain⟨H2,s1,s2,s3,s4⟩:=sv 7 (.str e.dt) zzz rfl;obtain⟨H',i1,i2,i3,i4⟩:=fin H2 {x with dt:=e.dt} s2 s3 s4 rfl;refine⟨H',λcP=>?_,i2,i3,i4⟩;rw[CZ];simp(disch:=try exact zqz)only[A9,n1,Dl.cellAt e7,s1,i1,afr,ar,aq,zz0,simprocAttr]
  have b7:(((c:Nat):Int)==68)=false:=hd 68 q7;obtain⟨H',i1,i2,i3,i4⟩:=fin H1 x hX1 (Out.refl _ _) rfl (by unfold N8;rw[zz1 q1,zz1 q2,zz1 q3,zz1 q4,zz1 q5,zz1 q6,zz1 q7]);refine⟨H',λcP=>?_,i2,i3,i4⟩;rw[CZ];simp(disch:=try exact zqz)only[A9,n1,b1,b2,b3,b4,b5,b6,b7,i1,ar,aq,zz0,simprocAttr]
abbrev zE:List AV:=[(zi 0),(zi 0),(zi 0),(zi 0),(zi 0),(.str []),(.str []),(.str [])]
theorem aED (e:Ev){l:Str}(hl:∀c∈l,c<128)(H:Hp):∃H',cK (zf 49) [.agg (aQ e),.str l] H=some (.agg (aQ (HD e l)),H')/\Out [] H H':=by
 have aO:bx 26 (.agg (aQ e)) H=some (H.next,al H (aQ e) 26 0):=iw (by rw[tD];omega);have o1:=aD H (aQ e) 26 0;have c1:=aP H (aQ e) 26 0;have n1:(al H (aQ e) 26 0).next=H.next+1:=rfl;generalize al H (aQ e) 26 0=H1 at*
 have cF:az H1 zE 26 0=some (H.next+1,al H1 zE 26 0):=by rw[<-n1];exact eh zzy
 have o2:=aD H1 zE 26 0;have c2:=aP H1 zE 26 0;have n2:(al H1 zE 26 0).next=H.next+2:=by rw[bT,n1]
 rw[n1] at c2;generalize bq:al H1 zE 26 0=H2 at*
 have k0:cellAt H2 H.next 0=some (zi e.kd):=(c1.out o2 zzy).cellAt rfl;have hf:fl zE [(0,1,zi e.kd)]=some (aQ (BF e.kd)):=rfl;have adf:az H2 zE 26 0=some (H.next+2,al H2 zE 26 0):=by rw[<-n2];exact eh zzy
 have aC:st 8 (.ptr (H.next+2) 0) (.agg (aQ (BF e.kd))) (al H2 zE 26 0)=some (al H2 (aQ (BF e.kd)) 26 0):=gJ rfl rfl n2.symm zzx rfl;have o3:=aD H2 (aQ (BF e.kd)) 26 0;have c3:=aP H2 (aQ (BF e.kd)) 26 0;have n3:(al H2 (aQ (BF e.kd)) 26 0).next=H.next+3:=by rw[bT,n2]
 rw[n2] at c3;generalize al H2 (aQ (BF e.kd)) 26 0=H3 at*
 have GR:C6 P 9 (.str l) H3=some (.ptr (H.next+3) 0,Ib H3 l):=by rw[<-n3];exact alw Tryz.underlying9 l H3
 have o4:=ahP H3 l;have s4:=aeG H3 l;rw[n3] at s4;have cE:=((c1.out o2 zzy).out o3 zzy).out o4 zzy;have cV:=(c2.out o3 zzy).out o4 zzy;have cX:=c3.out o4 zzy;obtain⟨H5,i1,i2,i3,i4⟩:=aex (y:=.ptr (H.next+1) 0) hl zzz zzz zzz l 0 (Ib H3 l) (BF e.kd) aaY s4 cE cX;have cV5:=cV.out i3 zzy;have k8:av H5 (H.next+2) 0 8=some (aQ (HD e l)):=i2.av 8 0 (by rw[tD];omega);obtain⟨H6,t1,t2,t3,t4⟩:=iC (n:=8) (vs:=aQ (HD e l)) cV5 rfl rfl rfl;have k9:av H6 (H.next+1) 0 8=some (aQ (HD e l)):=t2.av 8 0 (by rw[tD];omega);have out:Out [] H H6:=eR (eR (((o1.trans o2).trans o3).trans o4) i3 (λj hj=>by simp at hj;omega)) t3 (ll zzz);refine⟨H6,axk ?_,out⟩;unfold amf;simp(disch:=try exact zqz)only[aO,n1,bq,n2,k0,hf,aC,GR,i1,k8,t1,k9,ar,aq,zz0,simprocAttr]
theorem auo (a b c d e:Int)(f g h:Str)(a' b' c' d' e':Int)(f' g' h':Str)(H:Hp):eO P 50 26 (.agg [zi a,zi b,zi c,zi d,zi e,.str f,.str g,.str h]) (.agg [zi a',zi b',zi c',zi d',zi e',.str f',.str g',.str h']) H=uf (λz:Bool=>some z) [a==a',b==b',c==c',d==d',e==e',f==f',g==g',h==h']:=zzw
theorem ar1:Program.eqGuardType P P.depth 26=false:=zzw
theorem Lp:∀l:List Bool,uf (λz:Bool=>some z) l=some (l.all id)
 |[]=>rfl|b::l=>by unfold uf;rw[Lp l,alZ];cases b<;>rfl
theorem arG (a b:Ev)(H:Hp):gA P .eql 26 false (.agg (aQ a)) (.agg (aQ b))=true/\gi P .eql 26 (.agg (aQ a)) (.agg (aQ b)) H=some (.bool (QL a b)):=by
 constructor;·show (!(Program.eqGuardType P P.depth 26))=true;rw[ar1];rfl
 ·show (eO P 50 26 (.agg (aQ a)) (.agg (aQ b)) H).map (λb=>AV.bool b)=_;have h:eO P 50 26 (.agg (aQ a)) (.agg (aQ b)) H=_:=auo a.kd a.rn a.tk a.ty a.n a.nm a.ky a.dt b.kd b.rn b.tk b.ty b.n b.nm b.ky b.dt H;rw[h,Lp];simp[QL]
def findF (p:Nat->Bool):Str->Nat->Option Nat
 |[],_=>none|c::r,i=>if p c then some i else findF p r (i+1)
theorem al6 (p:Nat->Bool):∀(l:Str) (i:Nat),(findF p l i).isSome=l.any p
 |[],i=>rfl|c::r,i=>by
  unfold findF;rw[List.any_cons];cases h:p c with
  |true=>rfl|false=>rw[anA];exact al6 p r (i+1)
theorem ai7 {fv:AV}{it:Nat}{l:Str}{p:Nat->Bool}{H0:Hp}(hl:∀c∈l,c<128)(hp:∀H,Out [] H0 H->∀c∈l,∃H',cK fv [.int .i32 (c:Nat)] H=some (.bool (p c),H')/\Out [] H H')(hit:H0.next<=it):∀(r:Str) (i:Nat) (H:Hp),l.drop i=r->BX H it l i->Out [] H0 H->
  ∃H',(∀j3:K.Fn 0,aay JN GO cK j3 fv (.bool true) (.ptr it 0) H=match findF p r i with|some k=>some (zi (k:Nat),H')|none=>j3 H')/\Out [] H0 H'
 |[],i,H,h,hS,hO=>by
  have hi:l.length<=i:=by
   rcases alV i l.length with q|q;·rw[aiB q] at h;cases h
   ·exact q
  refine⟨H,λj3=>?_,hO⟩;rw[Yl];simp only[P5,afN hS hi,zz0,simprocAttr];rfl
 |c::r,i,H,h,hS,hO=>by
  obtain⟨g1,g2,g3⟩:=dU h;obtain⟨H1,n1,n2,n3,n4⟩:=aka hS g2 (hl c (aac g2));have zJ:Out [] H0 H1:=eR hO n3 (ll hit);obtain⟨H2,f1,f2⟩:=hp H1 zJ c (aac g2);have HR:=zJ.trans f2;unfold findF;cases hc:p c with
  |true=>
   refine⟨H2,λj3=>?_,HR⟩;rw[Yl];rw[hc] at f1;have bt:(true==true)=true:=rfl;simp(disch:=try exact zqz)only[P5,n1,f1,bt,↓reduceIte,ar,aq,zz0,simprocAttr]
  |false=>
   obtain⟨H',i1,i2⟩:=ai7 hl hp hit r (i+1) H2 g3 (n2.out f2 zzy) HR;refine⟨H',λj3=>?_,i2⟩;rw[Yl];rw[hc] at f1;have bt:(false==true)=false:=rfl;simp(disch:=try exact zqz)only[P5,n1,f1,bt,i1,aa8,↓reduceIte,ar,aq,zz0,simprocAttr]
theorem aDo {fv:AV}{l:Str}{p:Nat->Bool}{H0:Hp}(hl:∀c∈l,c<128)(hp:∀H,Out [] H0 H->∀c∈l,∃H',cK fv [.int .i32 (c:Nat)] H=some (.bool (p c),H')/\Out [] H H'):
  ∃H',cK (zf 50) [.str l,fv] H0=some (.bool (l.any p),H')/\Out [] H0 H':=by
 have GR:=alw Tryz.underlying9 l H0;have o1:=ahP H0 l;have s1:=aeG H0 l;obtain⟨H',i1,i2⟩:=ai7 hl hp (aaO _) l 0 (Ib H0 l) aaY s1 o1;refine⟨H',aEK ?_,i2⟩;have h1:cK (zf 115) [.str l,fv,.bool true] H0=some (zi (nR (findF p l 0)),H'):=by refine aAV ?_;unfold ahH;simp only[GR,i1,zz0,simprocAttr];cases findF p l 0<;>rfl
 have h2:cK (zf 86) [.str l,fv] H0=some (zi (nR (findF p l 0)),H'):=by refine aqw ?_;unfold am2;simp only[h1,zz0,simprocAttr]
 unfold anI;simp only[h2,M5,al6,zz0,simprocAttr]
theorem aFP {e:Ev}{E:Nat}{H:Hp}(hE:Cs H E (aQ e) 26 0)(c:Nat):∃H',cK (.func (.func 51) [] [.ptr E 0]) [.int .i32 (c:Nat)] H=some (.bool (!wG e c),H')/\Out [] H H':=by obtain⟨H',h1,h2⟩:=ayz e c H;have k8:av H E 0 8=some (aQ e):=hE.av 8 0 (by rw[tD];omega);refine⟨H',ay4 ?_,h2⟩;unfold agt;simp(disch:=try exact zqz)only[k8,h1,ar,aq,zz0,simprocAttr]
theorem ag7 (k:Int):∀c∈pS k,c<128:=by
 unfold pS;intro c hc
 repeat' split at hc
 all_goals first|(simp at hc;omega)|(simp at hc)
theorem aEA (e:Ev)(H:Hp):∃H',cK (zf 21) [.agg (aQ e)] H=some (.bool (CE e),H')/\Out [] H H':=by
 have aO:bx 26 (.agg (aQ e)) H=some (H.next,al H (aQ e) 26 0):=iw (by rw[tD];omega);have o1:=aD H (aQ e) 26 0;have c1:=aP H (aQ e) 26 0;generalize al H (aQ e) 26 0=H1 at*
 have k0:cellAt H1 H.next 0=some (zi e.kd):=c1.cellAt rfl;have k8:av H1 H.next 0 8=some (aQ e):=c1.av 8 0 (by rw[tD];omega);unfold CE;cases hf:(pS e.kd==[]) with
 |true=>
  refine⟨H1,Yz ?_,o1⟩;unfold R3;simp(disch:=try exact zqz)only[aO,k0,aah,hf,acw,ar,aq,zz0,simprocAttr]
 |false=>
  obtain⟨H2,h1,h2⟩:=aED e (ag7 e.kd) H1;have c2:=c1.out h2 zzy;have k9:av H2 H.next 0 8=some (aQ e):=c2.av 8 0 (by rw[tD];omega);obtain⟨q1,q2⟩:=arG (HD e (pS e.kd)) e H2;have hs:same (.agg (aQ e)) (.agg (aQ e))=true:=by have hk:(IntKind.i64==IntKind.i64)=true:=rfl;simp[same,aQ,vi,qP]
  cases he:QL (HD e (pS e.kd)) e with
  |false=>
   refine⟨H2,Yz ?_,o1.trans h2⟩;rw[he] at q2;unfold R3;simp(disch:=try exact zqz)only[aO,k0,aah,hf,k8,h1,k9,q1,oM,q2,eG hs,acw,acy,ar,aq,zz0,simprocAttr]
  |true=>
   obtain⟨H3,h3,h4⟩:=aDo (fv:=.func (.func 51) [] [.ptr H.next 0]) (p:=λc=>!wG e c) (H0:=H2) (ag7 e.kd) (λH' k c _=>aFP (c2.out k zzy) c);refine⟨H3,Yz ?_,(o1.trans h2).trans h4⟩;rw[he] at q2;have mP:(!((pS e.kd).any λc=>!wG e c))=(pS e.kd).all (wG e):=by rw[List.not_any_eq_all_not];simp
   unfold R3;simp(disch:=try exact zqz)only[aO,k0,aah,hf,k8,h1,k9,q1,oM,q2,eG hs,h3,mP,acy,ar,aq,zz0,simprocAttr]
abbrev Ky:=Str×Str
def bP (k:Ky):List AV:=[.str k.1,.str k.2]
theorem ae4 (a b c d:Str)(H:Hp):eO P 20 80 (.agg [.str a,.str b]) (.agg [.str c,.str d]) H=uf (λz:Bool=>some z) [a==c,b==d]:=zzw
theorem XP {k q:Ky}(h:q≠k)(H:Hp):eO P 20 80 (.agg (bP k)) (.agg (bP q)) H=some false:=by
 have h1:eO P 20 80 (.agg (bP k)) (.agg (bP q)) H=_:=ae4 k.1 k.2 q.1 q.2 H;rw[h1,Lp];simp only[alZ,List.all_nil,id,Bool.and_true,acD,Bool.and_eq_false_iff,zz9];by_cases h2:k.1=q.1;·exact .inr λh3=>h (Prod.ext h2.symm h3.symm)
 ·exact .inl h2
theorem auy (k:Ky)(H:Hp):eO P 20 80 (.agg (bP k)) (.agg (bP k)) H=some true:=by have h1:eO P 20 80 (.agg (bP k)) (.agg (bP k)) H=_:=ae4 k.1 k.2 k.1 k.2 H;rw[h1,Lp];simp
abbrev Ke:=Ky×Int
def uI (E:List (Ke×Nat)):List ME:=E.map λx=>⟨.agg (bP x.1.1),zi x.1.2,x.2⟩
theorem VT {H:Hp}{k:Ky}:∀(E:List (Ke×Nat)) (i:Nat),(∀x∈E,x.1.1≠k)->pC P H 80 (.agg (bP k)) (uI E) i=some none
 |[],i,_=>rfl|x::E,i,h=>by show pC P H _ (.agg (bP k)) (⟨.agg (bP x.1.1),zi x.1.2,x.2⟩::uI E) i=_;unfold pC;simp only[XP (h x (.head _)) H];exact VT E (i+1) λy hy=>h y (.tail _ hy)
theorem ac5 {H:Hp}{k:Ky}:∀(E:List (Ke×Nat)),(∀x∈E,x.1.1≠k)->AK P H 80 (.agg (bP k)) (uI E)=true
 |[],_=>rfl|x::E,h=>by show AK P H _ (.agg (bP k)) (⟨.agg (bP x.1.1),zi x.1.2,x.2⟩::uI E)=_;unfold AK;simp only[XP (h x (.head _)) H];exact ac5 E λy hy=>h y (.tail _ hy)
theorem anz {H:Hp}{k:Ky}{x:Ke×Nat}{B:List (Ke×Nat)}(hx:x.1.1=k)(hB:∀y∈B,y.1.1≠k):∀(A:List (Ke×Nat)) (i:Nat),(∀y∈A,y.1.1≠k)->
  ∃j,pC P H 80 (.agg (bP k)) (uI (A++x::B)) i=some (some (j,⟨.agg (bP x.1.1),zi x.1.2,x.2⟩))
 |[],i,_=>by refine⟨i,?_⟩;show pC P H _ (.agg (bP k)) (⟨.agg (bP x.1.1),zi x.1.2,x.2⟩::uI B) i=_;unfold pC;subst hx;simp only[auy,ac5 B hB,cond_true]
 |y::A,i,h=>by obtain⟨j,hj⟩:=anz hx hB A (i+1) λz hz=>h z (.tail _ hz);refine⟨j,?_⟩;show pC P H _ (.agg (bP k)) (⟨.agg (bP y.1.1),zi y.1.2,y.2⟩::uI (A++x::B)) i=_;unfold pC;simp only[XP (h y (.head _)) H];exact hj
theorem abZ (k:Ky):qQ P 20 80 (.agg (bP k))=true:=zzw
def mY (ks:List Ke)(k:Ky):Option Int:=(ks.find? (λx=>x.1==k)).map (·.2)
section
variable {H H':Hp}{k:Ky}{km kp:Nat}{ks:List Ke}{lx:AV}{x:Ke}
theorem MT (h:mY ks k=none):∀x∈ks,x.1≠k:=by unfold mY at h;rw[Option.map_eq_none_iff,List.find?_eq_none] at h;intro x hx q;exact h x hx (by rw[q];exact beq_self_eq_true _)
theorem Xr {id:Int}(h:mY ks k=some id):∃a b,ks=a++(k,id)::b/\∀x∈a,x.1≠k:=by
 unfold mY at h;rw[aaq] at h;obtain⟨x,h1,rfl⟩:=h;rw[List.find?_eq_some_iff_append] at h1;obtain⟨h2,a,b,rfl,h3⟩:=h1;have:x.1=k:=by simpa using h2
 subst this;exact⟨a,b,rfl,λy hy q=>by have:=h3 y hy;rw[q] at this;simp at this⟩
abbrev kv (km:Nat)(lx:AV):List AV:=[zi 128,.map km,lx]
structure KO (H:Hp)(kp km:Nat)(lx:AV)(ks:List Ke):Prop where
 c:Cs H kp (kv km lx) 136 0
 m:∃bs c,bs.length=ks.length/\Mp H km (uI (ks.zip bs)) c
 l:OL H 80 2 lx (ks.map λx=>bP x.1)
 nd:(ks.map (·.1)).Nodup
 d1:kp≠km
 d2:∀j∈ak lx,j≠kp/\j≠km
def Gg (kp km:Nat)(lx:AV):List Nat:=kp::km::ak lx
theorem KO.out {S:List Nat}(h:KO H kp km lx ks)(k:Out S H H')(hs:∀j∈Gg kp km lx,j∉S):KO H' kp km lx ks:=by obtain⟨bs,c,h1,h2⟩:=h.m;exact⟨h.c.out k (hs _ (.head _)),⟨bs,c,h1,h2.out k (hs _ (.tail _ (.head _)))⟩,h.l.out k λj hj=>hs j (.tail _ (.tail _ hj)),h.nd,h.d1,h.d2⟩
theorem KO.au (h:KO H kp km lx ks)(k:Out [] H H'):KO H' kp km lx ks:=h.out k λ_ _ q=>by cases q
theorem KO.lt (h:KO H kp km lx ks):∀j∈Gg kp km lx,j<H.next:=by
 intro j hj;obtain⟨bs,c,h1,h2⟩:=h.m;rcases aaD.1 hj with rfl|hj;·exact h.c.1
 ·rcases aaD.1 hj with rfl|hj;·exact h2.1
  ·exact h.l.1.rw.lt j hj
theorem aqD (H:Hp):∃kp km H',cK (zf 44) [zi 128] H=some (.ptr kp 0,H')/\KO H' kp km .ah []/\Out [] H H'/\H.next<=kp/\H.next<=km:=by obtain⟨H1,m1,m2,m3,m4⟩:=Uo H;have hf:fl [(zi 0),.lG,.ah] [(0,1,zi 128),(1,1,.map H.next)]=some (kv H.next .ah):=rfl;have aO:bx 136 (.agg (kv H.next .ah)) H1=some (H1.next,al H1 (kv H.next .ah) 136 0):=iw zzy;have o2:=aD H1 (kv H.next .ah) 136 0;have c2:=aP H1 (kv H.next .ah) 136 0;refine⟨H1.next,H.next,al H1 (kv H.next .ah) 136 0,awd ?_,⟨c2,⟨[],0,rfl,m2.out o2 zzy⟩,OL.nil _ _ _,zzy,zzz,λj hj=>by cases hj⟩,m3.trans o2,zzz,aaO _⟩;unfold adv;simp only[axj,Me,Int.reduceLT,if_false,if_true,m1,hf,aO,zz0,simprocAttr]
theorem Sj {bs:List Nat}(h:∀x∈ks,x.1≠k):∀y∈ks.zip bs,y.1.1≠k:=λy hy=>h y.1 (List.of_mem_zip hy).1
theorem axY {a b:List Ke}{bs:List Nat}(h:bs.length=(a++x::b).length):∃b1 c b2,(a++x::b).zip bs=a.zip b1++(x,c)::b.zip b2:=by
 have h1:a.length<bs.length:=by rw[h,aal,aaP];omega
 refine⟨bs.take a.length,bs[a.length],bs.drop (a.length+1),?_⟩
 conv=>lhs;rw[show bs=bs.take a.length++bs[a.length]::bs.drop (a.length+1) by rw[List.getElem_cons_drop,ajx]]
 rw[List.zip_append (by rw[ad8];omega)];rfl
theorem PU (hm:∃bs c,bs.length=ks.length/\Mp H km (uI (ks.zip bs)) c)(gW:(ks.map (·.1)).Nodup)(k:Ky)(ok:Bool):
  tG P 133 (.map km) (.agg (bP k)) ok H=some (bif ok then .tuple [zi ((mY ks k).getD 0),.bool (mY ks k).isSome] else zi ((mY ks k).getD 0)):=by
 obtain⟨bs,c,h1,h2⟩:=hm;have hu:P.underlying 133=some (.map 80 3):=Tryz.underlying133;have hz:((P.info? 3).bind (·.zero)).bind lA=some (zi 0):=zzw;unfold tG;cases hg:mY ks k with
 |none=>
  simp only[hu,abZ,cond_true,KH h2,VT _ 0 (Sj (bs:=bs) (MT hg)),hz,adX];cases ok<;>rfl
 |some id=>
  obtain⟨a,b,rfl,h3⟩:=Xr hg;obtain⟨b1,c1,b2,h4⟩:=axY h1;rw[h4] at h2;have hb:∀x∈b,x.1≠k:=by intro x hx q;rw[acY,aby,aeg,akD] at gW;exact gW.2.1.1 (abT.2 ⟨x,hx,q⟩)
  obtain⟨j,hj⟩:=anz (H:=H) (x:=((k,id),c1)) (k:=k) rfl (Sj (bs:=b2) hb) (a.zip b1) 0 (Sj h3);simp only[hu,abZ,cond_true,KH h2,hj];cases ok<;>rfl
theorem EL (k:Ky):(bP k).length=2:=rfl
theorem aDN (h:KO H kp km lx ks)(k:Ky):∃H',cK (zf 83) [.ptr kp 0,.agg (bP k)] H=some (.tuple [zi ((mY ks k).getD 0),.bool (mY ks k).isSome],H')/\Out [] H H':=by
 have aO:bx 80 (.agg (bP k)) H=some (H.next,al H (bP k) 80 0):=iw (by rw[EL];omega);have o1:=aD H (bP k) 80 0;have c1:=aP H (bP k) 80 0;generalize al H (bP k) 80 0=H1 at*
 have h1:=h.au o1;have k1:cellAt H1 kp 1=some (.map km):=h1.c.cellAt rfl;have k2:av H1 H.next 0 2=some (bP k):=c1.av 2 0 (by rw[EL];omega);have lk:=PU h1.m h1.nd k true;refine⟨H1,aB5 ?_,o1⟩;unfold aeX;simp(disch:=try exact zqz)only[aO,k1,k2,lk,cond_true,ar,aq,zz0,simprocAttr]
theorem ax4 (h:KO H kp km lx ks)(hn:ks.length<128)(hk:mY ks k=none)(id:Int):
  ∃wW H',cK (zf 33) [.ptr kp 0,.agg (bP k),zi id] H=some (.tuple [zi id,.bool true],H')/\KO H' kp km wW (ks++[(k,id)])/\Out (Gg kp km lx) H H'/\∀j∈ak wW,j∈ak lx\/H.next<=j:=by
 have aO:bx 80 (.agg (bP k)) H=some (H.next,al H (bP k) 80 0):=iw (by rw[EL];omega);have o1:=aD H (bP k) 80 0;have c1:=aP H (bP k) 80 0;have n1:(al H (bP k) 80 0).next=H.next+1:=rfl;generalize al H (bP k) 80 0=H1 at*
 have h1:=h.au o1;have aR:=h.lt;have k0:cellAt H1 kp 0=some (zi 128):=h1.c.cellAt rfl;have k1:cellAt H1 kp 1=some (.map km):=h1.c.cellAt rfl;have k2:cellAt H1 kp 2=some lx:=h1.c.cellAt rfl;have kx:av H1 H.next 0 2=some (bP k):=c1.av 2 0 (by rw[EL];omega);have lk:=PU h1.m h1.nd k true;rw[hk] at lk;have hlen:=h1.l.rl.len zzx;rw[abv] at hlen;have dn:(((ks.length:Nat):Int)==128)=false:=by rw[zz9];omega
 obtain⟨bs,c,b1,b2⟩:=h1.m;have hu:P.underlying 133=some (.map 80 3):=Tryz.underlying133;have aFO:uI ((ks++[(k,id)]).zip (bs++[c]))=uI (ks.zip bs)++[⟨.agg (bP k),zi id,c⟩]:=by rw[List.zip_append b1.symm];simp[uI]
 obtain⟨H2,u1,u2,u3,u4⟩:∃H2,sd P 133 (.map km) (.agg (bP k)) (zi id) H1=some H2/\Mp H2 km (uI ((ks++[(k,id)]).zip (bs++[c]))) (c+1)/\Out [km] H1 H2/\H2.next=H1.next:=by rw[aFO];refine⟨_,?_,(b2.set _ _).1,(b2.set _ _).2,rfl⟩;unfold sd;simp only[hu,abZ,cond_true,b2.2,VT _ 0 (Sj (bs:=bs) (MT hk))]
 have hkm:km<H.next:=aR km (.tail _ (.head _));have hkp:kp<H.next:=aR kp (.head _);have q2:cellAt H2 kp 2=some lx:=by rw[u3.cellAt h1.c.1 (by simpa using h.d1)];exact k2
 have qx:av H2 H.next 0 2=some (bP k):=by rw[u3.av c1.1 (by rw[No];omega)];exact kx
 have hf:fl [(.str []),(.str [])] [(0,2,.agg (bP k))]=some (bP k):=rfl;have qK:OL H2 80 2 lx (ks.map λx=>bP x.1):=h1.l.out u3 λj hj=>by rw[No];exact (h.d2 j hj).2
 have cF:az H2 (bP k) 80 0=some (H2.next,al H2 (bP k) 80 0):=eh (by rw[EL];omega);obtain⟨wW,H3,p1,p2,p3,p4,p5⟩:=qK.push (el2:=80) (z:=[(.str []),(.str [])]) (vs:=bP k) rfl rfl zzx (by rw[abv];omega);have fI:=p1 H2.next rfl;have c3:Cs H3 kp (kv km lx) 136 0:=(h1.c.out u3 (by simpa using h.d1)).out p3 λq=>(h.d2 kp q).1 rfl;obtain⟨H4,s1,s2,s3,s4⟩:=ff c3 zzx (o:=2) zzy (v:=wW) p5;have a2:=aD H2 (bP k) 80 0;have q3:cellAt (al H2 (bP k) 80 0) kp 2=some lx:=by rw[a2.cellAt (by rw[u4,n1];omega) zzy];exact q2
 have iN:H2.next=H.next+1:=by rw[u4,n1]
 have gz:∀j∈ak wW,j≠kp/\j≠km:=λj hj=>by
  rcases p4 j hj with q|q;·exact h.d2 j q
  ·omega
 have m3:Mp H3 km (uI ((ks++[(k,id)]).zip (bs++[c]))) (c+1):=u2.out p3 λq=>(h.d2 km q).2 rfl;refine⟨wW,H4,ann ?_,⟨s2,⟨bs++[c],c+1,by simp[b1],m3.out s3 (by rw[No];exactλq=>h.d1 q.symm)⟩,?_,?_,h.d1,gz⟩,?_,λj hj=>(p4 j hj).imp (λq=>q) λq=>zzz⟩;·unfold ZX;simp(disch:=try exact zqz)only[aO,k0,k1,k2,kx,lk,hlen,dn,u1,q2,qx,hf,cF,fI,s1,q3,eG (lN h1.l.1.rw),agw,cond_true,ar,aq,zz0,simprocAttr]
 ·rw[acY];exact p2.out s3 λj hj=>by rw[No];exact (gz j hj).1
 ·rw[acY];rw[aeg];refine⟨h.nd,zzy,λx hx y hy q=>?_⟩;simp at hy;obtain⟨z,hz,rfl⟩:=abT.1 hx;exact MT hk z hz (q.trans hy)
 ·refine ((((o1.mono (S':=Gg kp km lx) (λj hj=>by cases hj)).trans (u3.mono λj hj=>?_)).trans (p3.mono λj hj=>.tail _ (.tail _ hj))).trans (s3.mono λj hj=>?_));·rw[No] at hj;subst hj;exact .tail _ (.head _)
  ·rw[No] at hj;subst hj;exact .head _
theorem ata (h:KO H kp km lx ks){Tn:Int}(hk:mY ks k=some Tn)(id:Int):
  ∃H',cK (zf 33) [.ptr kp 0,.agg (bP k),zi id] H=some (.tuple [zi Tn,.bool false],H')/\Out [] H H':=by
 have aO:bx 80 (.agg (bP k)) H=some (H.next,al H (bP k) 80 0):=iw (by rw[EL];omega);have o1:=aD H (bP k) 80 0;have c1:=aP H (bP k) 80 0;generalize al H (bP k) 80 0=H1 at*
 have h1:=h.au o1;have k1:cellAt H1 kp 1=some (.map km):=h1.c.cellAt rfl;have kx:av H1 H.next 0 2=some (bP k):=c1.av 2 0 (by rw[EL];omega);have lk:=PU h1.m h1.nd k true;rw[hk] at lk;refine⟨H1,ann ?_,o1⟩;unfold ZX;simp(disch:=try exact zqz)only[aO,k1,kx,lk,agz,af7,cond_true,ar,aq,zz0,simprocAttr]
def dB (x:Ke):List AV:=[.str x.1.1,.str x.1.2,zi x.2]
theorem axT (gW:(ks.map (·.1)).Nodup){i:Nat}(h:ks[i]?=some x):mY ks x.1=some x.2:=by
 cases hg:mY ks x.1 with
 |none=>exact absurd rfl (MT hg x (aac h))|some id=>
  obtain⟨a,b,rfl,h3⟩:=Xr hg;have hx:=aac h;rcases aa2.1 hx with hx|hx;·exact absurd rfl (h3 x hx)
  ·rcases aaD.1 hx with hx|hx;·rw[hx]
   ·rw[acY,aby,aeg,akD] at gW;exact absurd (abT.2 ⟨x,hx,rfl⟩) gW.2.1.1
theorem akc {kp km:Nat}{lx:AV}{ks:List Ke}{H0:Hp}(hn:ks.length<=1000)(hK0:KO H0 kp km lx ks):∀(r:List Ke) (i:Nat) (H:Hp) (ox:AV),i<=ks.length->ks.drop i=r->Out [] H0 H->OL H 82 3 ox ((ks.take i).map dB)->(∀j∈ak ox,H0.next<=j)->
  ∃oY H',(∀eD:K.Fn 1,UU JN GO cK eD (.ptr kp 0) ox lx (zi (ks.length:Nat)) (zi (i:Nat)) H=eD oY H')/\OL H' 82 3 oY (ks.map dB)/\Out [] H0 H'/\∀j∈ak oY,H0.next<=j
 |[],i,H,ox,hi,h,hO,hL,hr=>by obtain rfl:=drop_nil hi h;refine⟨ox,H,λeD=>?_,by rw[List.take_length] at hL;exact hL,hO,hr⟩;rw[anB];simp only[Vg,df,zz0,simprocAttr]
 |x::r,i,H,ox,hi,h,hO,hL,hr=>by
  obtain⟨g1,g2,g3⟩:=dU h;have es:=dC g1 zzz;have hK:=hK0.au hO;obtain⟨b,o,q1,q2,q3,q4,q5⟩:=hK.l.rl.at zzx (i:=i) (c:=bP x.1) (by rw[ab9,g2];rfl);have aC:st 2 (.ptr H.next 0) (.agg (bP x.1)) (al H [(.str []),(.str [])] 80 0)=some (al H (bP x.1) 80 0):=gJ rfl rfl rfl zzx rfl;have o1:=aD H (bP x.1) 80 0;have c1:=aP H (bP x.1) 80 0;have n1:(al H (bP x.1) 80 0).next=H.next+1:=rfl;have sD:az H [(.str []),(.str [])] 80 0=some (H.next,al H [(.str []),(.str [])] 80 0):=eh zzy;generalize bw:al H (bP x.1) 80 0=H1 at*
  have hK1:=hK.au o1;have k1:cellAt H1 kp 1=some (.map km):=hK1.c.cellAt rfl;have kx:av H1 H.next 0 2=some (bP x.1):=c1.av 2 0 (by rw[EL];omega);have lk:=PU hK1.m hK1.nd x.1 false;rw[axT hK.nd g2] at lk;have ue:fl [(.str []),(.str []),(zi 0)] [(0,2,.agg (bP x.1)),(2,1,zi x.2)]=some (dB x):=rfl;have Du:fl [(.str []),(.str []),(zi 0)] [(0,3,.agg (dB x))]=some (dB x):=rfl;have hL1:OL H1 82 3 ox ((ks.take i).map dB):=hL.out o1 λj hj=>zzy;have cF:az H1 (dB x) 82 0=some (H1.next,al H1 (dB x) 82 0):=eh (by simp[dB]);obtain⟨oY,H2,p1,p2,p3,p4,p5⟩:=hL1.push (el2:=82) (z:=[(.str []),(.str []),(zi 0)]) (vs:=dB x) rfl rfl zzx (by rw[abv,ad8];omega);have fI:=p1 H1.next rfl;have HR:Out [] H0 H2:=eR (hO.trans o1) p3 hr;have hO0:=hO.1;obtain⟨ox2,H',i1,i2,i3,i4⟩:=akc hn hK0 r (i+1) H2 oY g1 g3 HR (by rw[akq,g2,acY];exact p2) (λj hj=>(p4 j hj).elim (hr j) λq=>zzz);refine⟨ox2,H',λeD=>?_,i2,i3,i4⟩;rw[anB];simp(disch:=try exact zqz)only[Vg,aN g1,q1,q4,sD,aC,kx,k1,lk,ue,Du,cF,fI,af7,cond_false,es,i1,ar,aq,zz0,simprocAttr]
theorem YR (hn:ks.length<=1000)(h:KO H kp km lx ks):
  ∃ox H',cK (zf 32) [.ptr kp 0] H=some (ox,H')/\OL H' 82 3 ox (ks.map dB)/\Out [] H H'/\∀j∈ak ox,H.next<=j:=by
 have k2:cellAt H kp 2=some lx:=h.c.cellAt rfl;have hlen:=h.l.rl.len zzx;rw[abv] at hlen;obtain⟨ox,H',i1,i2,i3,i4⟩:=akc hn h ks 0 H .ah (aa7 _) aaY (Out.refl _ _) (by rw[akA];exact OL.nil _ _ _) (λj hj=>by cases hj);rw[show (((0:Nat):Int))=0 from rfl] at i1;refine⟨ox,H',awt ?_,i2,i3,i4⟩;unfold aga;simp(disch:=try exact zqz)only[k2,hlen,i1,ar,aq,zz0,simprocAttr]
end
def Dj (l m:List Nat):Prop:=∀j∈l,j∉m
theorem Dj.symm {l m:List Nat}(h:Dj l m):Dj m l:=λj hj hl=>h j hl hj
theorem KQ {L:List (List Nat)}{k N:Nat}{l l':List Nat}(h:L.Pairwise Dj)(hk:L[k]?=some l)(hN:∀m∈L,∀j∈m,j<N)(hl:∀j∈l',j∈l\/N<=j):(L.set k l').Pairwise Dj:=by
 rw[amj] at h⊢;obtain⟨kN,nE⟩:=aag.1 hk;have key:∀(i:Nat) (hi:i<L.length),i≠k->Dj l' L[i]:=by
  intro i hi hik j hj hm;rcases hl j hj with q|q
  ·rcases Nat.lt_or_gt_of_ne hik with c|c;·exact h i k hi kN c j hm (by rw[nE];exact q)
   ·exact h k i kN hi c j (by rw[nE];exact q) hm
  ·have:=hN _ (List.getElem_mem hi) j hm;omega
 intro i j hi hj mO;rw[acV] at hi hj;rw[List.getElem_set,List.getElem_set];by_cases h1:k=i;·subst h1;rw[zz2 rfl,zz1 zzz];exact key j hj zzz
 ·rw[zz1 h1];by_cases h2:k=j;·subst h2;rw[zz2 rfl];exact (key i hi zzz).symm
  ·rw[zz1 h2];exact h i j hi hj mO
theorem zq {L:List (List Nat)}(h:L.Pairwise Dj){i j:Nat}(mO:i≠j){l m:List Nat}(hi:L[i]?=some l)(hj:L[j]?=some m):Dj l m:=by
 rw[amj] at h;obtain⟨a1,a2⟩:=aag.1 hi;obtain⟨b1,b2⟩:=aag.1 hj;subst a2;subst b2;rcases Nat.lt_or_gt_of_ne mO with c|c;·exact h i j a1 b1 c
 ·exact (h j i b1 a1 c).symm
structure RA where
 dx:AV
 xs:List AV
 tx:AV
 sx:AV
def RA.fp (r:RA):List Nat:=pw r.dx r.xs r.tx r.sx
structure Fm where
 ck:Int
 nms:List Str
 aM:List (Str×Str)
 aw:List (Rn×Str)
 ks:List Ke
structure FA where
 tm:Nat
 kp:Nat
 km:Nat
 nx:AV
 rx:AV
 kl:AV
 ras:List RA
def bJ (r:RA)(x:Rn×Str):List AV:=[r.dx,zi x.1.st,r.tx,r.sx,.str x.2]
def C0 (E:List ((Str×Str)×Nat)):List ME:=E.map λx=>⟨.str x.1.1,.str x.1.2,x.2⟩
def mQ (p:Nat)(a:FA):List (List Nat):=[[p],[a.tm],[a.kp],[a.km],ak a.nx,ak a.rx,ak a.kl]
def own (p:Nat)(a:FA):List Nat:=(mQ p a).flatten
def dL (a:FA):List Nat:=a.ras.flatMap RA.fp
abbrev fv (a:FA)(f:Fm):List AV:=[zi f.ck,a.nx,.map a.tm,a.rx,.ptr a.kp 0]
structure FL (H:Hp)(p:Nat)(a:FA)(f:Fm):Prop where
 c:Cs H p (fv a f) 67 0
 n:Ow H 9 1 a.nx (strs f.nms)
 t:∃bs c,bs.length=f.aM.length/\Mp H a.tm (C0 (f.aM.zip bs)) c
 vI:(f.aM.map (·.1)).Nodup
 r:OL H 77 5 a.rx (List.zipWith bJ a.ras f.aw)
 v:∀(i:Nat) (r:RA) (x:Rn×Str),a.ras[i]?=some r->f.aw[i]?=some x->RV H r.dx r.xs r.tx r.sx x.1
 len:a.ras.length=f.aw.length
 k:KO H a.kp a.km a.kl f.ks
 dj:(mQ p a).Pairwise Dj
 lo:∀j∈own p a,11<=j
 dL:∀j∈dL a,j∉own p a/\j<H.next
section
variable {H H':Hp}{N i j k:Nat}{S l l':List Nat}{a:FA}{f:Fm}{r r':RA}{x:Rn×Str}
theorem kZ {p:Nat}(h:(mQ p a)[k]?=some l)(hj:j∈l):j∈own p a:=akG.2 ⟨l,aac h,hj⟩
theorem FL.lt {p:Nat}(h:FL H p a f):∀j∈own p a,j<H.next:=by
 intro j hj;obtain⟨l,hl,hj⟩:=akG.1 hj;obtain⟨bs,c,_,hm⟩:=h.t;have hk:=h.k.lt;simp only[mQ,aaD,aj6,or_false] at hl;rcases hl with rfl|rfl|rfl|rfl|rfl|rfl|rfl;·rw[No] at hj;subst hj;exact h.c.1
 ·rw[No] at hj;subst hj;exact hm.1
 ·rw[No] at hj;subst hj;exact hk _ (.head _)
 ·rw[No] at hj;subst hj;exact hk _ (.tail _ (.head _))
 ·exact h.n.rw.lt j hj
 ·exact h.r.1.rw.lt j hj
 ·exact hk _ (.tail _ (.tail _ hj))
theorem FL.ltS {p:Nat}(h:FL H p a f):∀m∈mQ p a,∀j∈m,j<H.next:=λm hm j hj=>h.lt j (akG.2 ⟨m,hm,hj⟩)
theorem Nj (h:a.ras[i]?=some r):∀j∈r.fp,j∈dL a:=λj hj=>afn.2 ⟨r,aac h,hj⟩
theorem FL.out {p:Nat}(h:FL H p a f)(k:Out S H H')(hs:∀j∈own p a,j∉S)(hi:∀j∈bD.dL a,j∉S):FL H' p a f:=by
 obtain⟨bs,c,h1,h2⟩:=h.t;have hk:=h.k.lt;refine⟨h.c.out k (hs _ (kZ (k:=0) rfl (.head _))),h.n.out k λj hj=>hs _ (kZ (k:=4) rfl hj),⟨bs,c,h1,h2.out k (hs _ (kZ (k:=1) rfl (.head _)))⟩,h.vI,h.r.out k λj hj=>hs _ (kZ (k:=5) rfl hj),λi r x hr hx=>(h.v i r x hr hx).out k λj hj=>hi j (Nj hr j hj),h.len,h.k.out k λj hj=>?_,h.dj,h.lo,λj hj=>⟨(h.dL j hj).1,adi (h.dL j hj).2 k.1⟩⟩;rcases aaD.1 hj with rfl|hj;·exact hs _ (kZ (k:=2) rfl (.head _))
 ·rcases aaD.1 hj with rfl|hj;·exact hs _ (kZ (k:=3) rfl (.head _))
  ·exact hs _ (kZ (k:=6) rfl hj)
theorem FL.au {p:Nat}(h:FL H p a f)(k:Out [] H H'):FL H' p a f:=h.out k (λ_ _ q=>by cases q) λ_ _ q=>by cases q
structure FSt (H H':Hp)(p:Nat)(a a':FA):Prop where
 o:Out (own p a) H H'
 w:∀j∈own p a',j∈own p a\/H.next<=j
 i:∀j∈bD.dL a',j∈bD.dL a\/H.next<=j
theorem FSt.same (k:Out [] H H')(p:Nat)(a:FA):FSt H H' p a a:=⟨k.mono λj hj=>(by cases hj),λj hj=>.inl hj,λj hj=>.inl hj⟩
theorem FSt.trans {H'':Hp}{p:Nat}{b c:FA}(h:FSt H H' p a b)(k:FSt H' H'' p b c):FSt H H'' p a c:=
 ⟨h.o.then k.o h.w,λj hj=>(k.w j hj).elim (h.w j) λq=>.inr (afz h.o.1 q),λj hj=>(k.i j hj).elim (h.i j) λq=>.inr (afz h.o.1 q)⟩
theorem FL.part {p:Nat}(h:FL H p a f)(k:Out S H H')(hS:(mQ p a)[i]?=some S):
  (i≠0->Cs H' p (fv a f) 67 0)/\(i≠4->Ow H' 9 1 a.nx (strs f.nms))/\(i≠1->∃bs c,bs.length=f.aM.length/\Mp H' a.tm (C0 (f.aM.zip bs)) c)/\(i≠5->OL H' 77 5 a.rx (List.zipWith bJ a.ras f.aw))/\
  (i≠2->i≠3->i≠6->KO H' a.kp a.km a.kl f.ks)/\(∀(i:Nat) (r:RA) (x:Rn×Str),a.ras[i]?=some r->f.aw[i]?=some x->RV H' r.dx r.xs r.tx r.sx x.1):=by
 have sep:∀{j:Nat} {l:List Nat},i≠j->(mQ p a)[j]?=some l->∀x∈l,x∉S:=λmO hl=>(zq h.dj mO hS hl).symm;obtain⟨bs,c,h1,h2⟩:=h.t;refine⟨λhi=>h.c.out k (sep hi rfl p (.head _)),λhi=>h.n.out k (sep hi rfl),λhi=>⟨bs,c,h1,h2.out k (sep hi rfl a.tm (.head _))⟩,λhi=>h.r.out k (sep hi rfl),λi1 i2 i3=>h.k.out k λj hj=>?_,λm r x hr hx=>(h.v m r x hr hx).out k λj hj q=>(h.dL j (Nj hr j hj)).1 (kZ hS q)⟩;rcases aaD.1 hj with rfl|hj;·exact sep i1 rfl _ (.head _)
 ·rcases aaD.1 hj with rfl|hj;·exact sep i2 rfl _ (.head _)
  ·exact sep i3 rfl _ hj
theorem FL.adY {p:Nat}(h:FL H p a f)(hn:H.next<=H'.next):∀j∈bD.dL a,j∉own p a/\j<H'.next:=λj hj=>⟨(h.dL j hj).1,adi (h.dL j hj).2 hn⟩
theorem FL.clock {p:Nat}(h:FL H p a f)(z:Int):∃H',st 1 (.ptr p 0) (zi z) H=some H'/\FL H' p a {f with ck:=z}/\FSt H H' p a a:=by obtain⟨H',s1,s2,s3,s4⟩:=ff h.c zzx (o:=0) zzy (v:=zi z) rfl;obtain⟨p0,p4,p1,p5,pk,pv⟩:=h.part s3 (i:=0) rfl;exact⟨H',s1,⟨s2,p4 zzx,p1 zzx,h.vI,p5 zzx,pv,h.len,pk zzx zzx zzx,h.dj,h.lo,h.adY s3.1⟩,s3.mono λj hj=>kZ (k:=0) rfl hj,λj hj=>.inl hj,λj hj=>.inl hj⟩
theorem UF {p:Nat}{a':FA}(hs:mQ p a'=(mQ p a).set k l')(hk:(mQ p a)[k]?=some l)(hl:∀j∈l',j∈l\/N<=j):∀j∈own p a',j∈own p a\/N<=j:=by
 intro j hj;obtain⟨m,hm,hj⟩:=akG.1 hj;rw[hs] at hm;rcases adt hm with q|rfl;·exact .inl (akG.2 ⟨m,q,hj⟩)
 ·exact (hl j hj).imp (λq=>kZ hk q) id
theorem FL.aFU {p:Nat}(h:FL H p a f)(s:Str)(hn:f.nms.length<=1000):
  ∃lS H1 H2,(∀i,i=H.next->cL 9 1 [(.str [])] false a.nx (.slice i 0 1 1 true 1) (al H [.str s] 9 0)=some (lS,H1))/\st 1 (.ptr p 1) lS H1=some H2/\FL H2 p {a with nx:=lS} {f with nms:=f.nms++[s]}/\FSt H H2 p a {a with nx:=lS}/\aZ lS=true:=by
 obtain⟨lS,H1,p1,p2,p3,p4,p5⟩:=vf (el2:=9) (z:=[(.str [])]) (vs:=[.str s]) h.n rfl rfl zzx (by rw[gZ];simp;omega);obtain⟨q0,q4,q1,q5,qk,qv⟩:=h.part p3 (i:=4) rfl;obtain⟨H2,s1,s2,s3,s4⟩:=ff (q0 zzx) zzx (o:=1) zzy (v:=lS) p5;have hs:mQ p {a with nx:=lS}=(mQ p a).set 4 (ak lS):=rfl;have uK:(mQ p {a with nx:=lS}).Pairwise Dj:=by rw[hs];exact KQ h.dj (k:=4) rfl h.ltS p4
 have sep:∀{j:Nat} {l:List Nat},0≠j->(mQ p {a with nx:=lS})[j]?=some l->∀x∈l,x∉[p]:=λmO hl=>(zq uK mO (i:=0) rfl hl).symm;have hw:=UF (a:=a) (N:=H.next) hs (k:=4) rfl p4;have hi:∀j∈bD.dL {a with nx:=lS},j∉own p {a with nx:=lS}/\j<H2.next:=λj hj=>⟨λq=>(hw j q).elim (h.dL j hj).1 λz=>by have:=(h.dL j hj).2;omega,by have:=(h.dL j hj).2;have:=p3.1;have:=s3.1;omega⟩;obtain⟨bs,c,t1,t2⟩:=q1 zzx;have hO:Out (own p a) H H2:=(p3.mono λj hj=>kZ (k:=4) rfl hj).trans (s3.mono λj hj=>kZ (k:=0) rfl hj);refine⟨lS,H1,H2,p1,s1,⟨s2,?_,⟨bs,c,t1,t2.out s3 (sep (j:=1) zzx rfl _ (.head _))⟩,h.vI,(q5 zzx).out s3 (sep (j:=5) zzx rfl),λi r x hr hx=>(qv i r x hr hx).out s3 λj hj q=>(hi j (Nj (a:={a with nx:=lS}) hr j hj)).1 (kZ (k:=0) rfl q),h.len,(qk zzx zzx zzx).out s3 λj hj=>?_,uK,λj hj=>(hw j hj).elim (h.lo j) λq=>?_,hi⟩,⟨hO,hw,λj hj=>.inl hj⟩,p5⟩;·rw[show strs (f.nms++[s])=strs f.nms++[.str s] by rw[HY];rfl];exact p2.out s3 (sep (j:=4) zzx rfl)
 ·rcases aaD.1 hj with rfl|hj;·exact sep (j:=2) zzx rfl _ (.head _)
  ·rcases aaD.1 hj with rfl|hj;·exact sep (j:=3) zzx rfl _ (.head _)
   ·exact sep (j:=6) zzx rfl _ hj
 ·have:=h.lo p (kZ (k:=0) rfl (.head _));have:=h.c.1;omega
theorem Qq {l:List ((Str×Str)×Nat)}{s:Str}(h:∀x∈l,x.1.1≠s):∀e∈C0 l,∃q,e.key=.str q/\q≠s:=by intro e he;obtain⟨x,hx,rfl⟩:=abT.1 he;exact⟨_,rfl,h x hx⟩
def eE (l:List (Str×Str))(s:Str):Option Str:=(l.find? (λx=>x.1==s)).map (·.2)
theorem HV {l:List (Str×Str)}{k:Str}(h:eE l k=none):∀x∈l,x.1≠k:=by unfold eE at h;rw[Option.map_eq_none_iff,List.find?_eq_none] at h;intro x hx q;exact h x hx (by rw[q];exact beq_self_eq_true _)
theorem V4 {l:List (Str×Str)}{k t:Str}(h:eE l k=some t):∃a b,l=a++(k,t)::b/\∀x∈a,x.1≠k:=by
 unfold eE at h;rw[aaq] at h;obtain⟨x,h1,rfl⟩:=h;rw[List.find?_eq_some_iff_append] at h1;obtain⟨h2,a,b,rfl,h3⟩:=h1;have:x.1=k:=by simpa using h2
 subst this;exact⟨a,b,rfl,λy hy q=>by have:=h3 y hy;rw[q] at this;simp at this⟩
theorem awX {a b:List (Str×Str)}{x:Str×Str}{bs:List Nat}(h:bs.length=(a++x::b).length):∃b1 c b2,(a++x::b).zip bs=a.zip b1++(x,c)::b.zip b2:=by
 have h1:a.length<bs.length:=by rw[h,aal,aaP];omega
 refine⟨bs.take a.length,bs[a.length],bs.drop (a.length+1),?_⟩
 conv=>lhs;rw[show bs=bs.take a.length++bs[a.length]::bs.drop (a.length+1) by rw[List.getElem_cons_drop,ajx]]
 rw[List.zip_append (by rw[ad8];omega)];rfl
theorem Th {l:List (Str×Str)}{bs:List Nat}{k:Str}(h:∀x∈l,x.1≠k):∀y∈l.zip bs,y.1.1≠k:=λy hy=>h y.1 (List.of_mem_zip hy).1
theorem KG {tm:Nat}{l:List (Str×Str)}(hm:∃bs c,bs.length=l.length/\Mp H tm (C0 (l.zip bs)) c)(gW:(l.map (·.1)).Nodup)(k:Str)(ok:Bool):
  tv .str (.str []) ok (.map tm) (.str k) H=some (bif ok then .tuple [.str ((eE l k).getD []),.bool (eE l k).isSome] else .str ((eE l k).getD [])):=by
 obtain⟨bs,c,h1,h2⟩:=hm;cases hg:eE l k with
 |none=>
  rw[ado h2 (Qq (Th (bs:=bs) (HV hg)))];cases ok<;>rfl
 |some t=>
  obtain⟨a,b,rfl,h3⟩:=V4 hg;obtain⟨b1,c1,b2,h4⟩:=awX h1;rw[h4] at h2;have hb:∀x∈b,x.1≠k:=by intro x hx q;rw[acY,aby,aeg,akD] at gW;exact gW.2.1.1 (abT.2 ⟨x,hx,q⟩)
  have mL:C0 (a.zip b1++((k,t),c1)::b.zip b2)=C0 (a.zip b1)++⟨.str k,.str t,c1⟩::C0 (b.zip b2):=by simp[C0]
  rw[mL] at h2;rw[ajH (k:=k) h2 rfl (Qq (Th (bs:=b1) h3)) (Qq (Th (bs:=b2) hb))];cases ok<;>rfl
theorem FL.aqO {p:Nat}(h:FL H p a f){s:Str}(hs:eE f.aM s=none)(t:Str):
  ∃H',zg .str (.map a.tm) (.str s) (.str t) H=some H'/\FL H' p a {f with aM:=f.aM++[(s,t)]}/\FSt H H' p a a:=by
 obtain⟨bs,c,t1,t2⟩:=h.t;obtain⟨H',u1,u2,u3⟩:=amm t2 (Qq (Th (bs:=bs) (HV hs))) (.str t);obtain⟨q0,q4,q1,q5,qk,qv⟩:=h.part u3 (i:=1) rfl;refine⟨H',u1,⟨q0 zzx,q4 zzx,⟨bs++[c],c+1,by simp[t1],?_⟩,?_,q5 zzx,qv,h.len,qk zzx zzx zzx,h.dj,h.lo,h.adY u3.1⟩,u3.mono λj hj=>kZ (k:=1) rfl hj,λj hj=>.inl hj,λj hj=>.inl hj⟩;·rw[List.zip_append t1.symm];simpa[C0] using u2
 ·rw[acY,aeg];refine⟨h.vI,zzy,λx hx y hy q=>?_⟩;simp at hy;obtain⟨z,hz,rfl⟩:=abT.1 hx;exact HV hs z hz (q.trans hy)
theorem T8 {ras:List RA}{xs:List (Rn×Str)}(h1:ras[i]?=some r)(h2:xs[i]?=some x):(List.zipWith bJ ras xs)[i]?=some (bJ r x):=by rw[ac2,h1,h2]
theorem alA (h:RV H r.dx r.xs r.tx r.sx x.1):(bJ r x).all aZ=true:=by simp[bJ,h.d.row.one,h.t.one,h.s.one,iS,J5]
theorem FL.amy {p:Nat}(h:FL H p a f){b o:Nat}(hx:f.aw[i]?=some x)(qj:∀kd,ia 5 a.rx (.int kd i)=some (.ptr b o)){R':Rn}(hR:RV H r'.dx r'.xs r'.tx r'.sx R')(hn:∀j∈r'.fp,j∉own p a):
  ∃H',st 4 (.ptr b o) (.agg (rv r'.dx R'.st r'.tx r'.sx)) H=some H'/\FL H' p {a with ras:=a.ras.set i r'} {f with aw:=f.aw.set i (R',x.2)}/\Out (ak a.rx) H H'/\(∀j∈bD.dL {a with ras:=a.ras.set i r'},j∈bD.dL a\/j∈r'.fp):=by
 have aV:=(aag.1 hx).1;have hr:a.ras[i]?=some (a.ras[i]'(by rw[h.len];exact aV)):=aaC _;generalize a.ras[i]'(by rw[h.len];exact aV)=r at hr;have Na:∀v∈rv r'.dx R'.st r'.tx r'.sx,aZ v=true:=by
  intro v hv;simp only[aaD,aj6,or_false] at hv;rcases hv with rfl|rfl|rfl|rfl;·exact hR.d.row.one
  ·rfl
  ·exact hR.t.one
  ·exact hR.s.one
 obtain⟨H',s1,s2,s3,s4⟩:=h.r.Zd (k:=0) (vs:=rv r'.dx R'.st r'.tx r'.sx) (T8 hr hx) qj Na zzy zzx;rw[aed] at s1;obtain⟨q0,q4,q1,q5,qk,qv⟩:=h.part s3 (i:=5) rfl;have fY:kR (bJ r x) 0 (rv r'.dx R'.st r'.tx r'.sx)=bJ r' (R',x.2):=rfl;rw[fY] at s2;have B3:(List.zipWith bJ a.ras f.aw).set i (bJ r' (R',x.2))=List.zipWith bJ (a.ras.set i r') (f.aw.set i (R',x.2)):=by
  apply akn;intro m;rw[ac2,ahy,ahy,ahy,ac2];by_cases hm:i=m;·subst hm;rw[zz2 rfl,zz2 rfl,zz2 rfl,zz2 (by rw[aeV];have:=h.len;omega),zz2 (by rw[h.len];exact aV),zz2 aV]
  ·rw[zz1 hm,zz1 hm,zz1 hm]
 rw[B3] at s2;have Ht:∀j∈bD.dL {a with ras:=a.ras.set i r'},j∈bD.dL a\/j∈r'.fp:=by
  intro j hj;obtain⟨m,hm,lL⟩:=afn.1 hj;rcases adt hm with q|q;·exact .inl (afn.2 ⟨m,q,lL⟩)
  ·rw[q] at lL;exact .inr lL
 refine⟨H',?_,⟨q0 zzx,q4 zzx,q1 zzx,h.vI,s2,?_,by rw[acV,acV];exact h.len,qk zzx zzx zzx,h.dj,h.lo,λj hj=>?_⟩,s3,Ht⟩;·unfold st;have:Nat.beq 4 (rv r'.dx R'.st r'.tx r'.sx).length=true:=rfl;simp only[HM,this,cond_true];exact s1
 ·intro m r2 x2 h1 h2;simp only at h1 h2;rw[ahy] at h1 h2;by_cases hm:i=m;·subst hm;rw[zz2 rfl,zz2 (by rw[h.len];exact aV)] at h1;rw[zz2 rfl,zz2 aV] at h2;cases h1;cases h2;exact hR.out s3 λj hj q=>hn j hj (kZ (k:=5) rfl q)
  ·rw[zz1 hm] at h1 h2;exact qv m r2 x2 h1 h2
 ·have kD:=s3.1;rcases Ht j hj with q|q;·exact⟨(h.dL j q).1,by have:=(h.dL j q).2;omega⟩
  ·exact⟨hn j q,by have:=hR.lt j q;omega⟩
theorem FL.ZT {p:Nat}(h:FL H p a f)(hR:RV H r'.dx r'.xs r'.tx r'.sx x.1)(hn:∀j∈r'.fp,j∉own p a)(hlen:f.aw.length<=1000):
  ∃eH H1 H2,(∀i,i=H.next->cL 77 5 [.ah,(zi 0),.ah,.ah,(.str [])] false a.rx (.slice i 0 1 1 true 5) (al H (bJ r' x) 77 0)=some (eH,H1))/\st 1 (.ptr p 3) eH H1=some H2/\FL H2 p {a with rx:=eH,ras:=a.ras++[r']} {f with aw:=f.aw++[x]}/\Out (own p a) H H2/\(∀j∈own p {a with rx:=eH,ras:=a.ras++[r']},j∈own p a\/H.next<=j)/\(∀j∈bD.dL {a with rx:=eH,ras:=a.ras++[r']},j∈bD.dL a\/j∈r'.fp)/\aZ eH=true:=by
 obtain⟨eH,H1,p1,p2,p3,p4,p5⟩:=h.r.push (el2:=77) (z:=[.ah,(zi 0),.ah,.ah,(.str [])]) (vs:=bJ r' x) (alA hR) rfl zzx (by rw[aeV];have:=h.len;omega);obtain⟨q0,q4,q1,q5,qk,qv⟩:=h.part p3 (i:=5) rfl;obtain⟨H2,s1,s2,s3,s4⟩:=ff (q0 zzx) zzx (o:=3) zzy (v:=eH) p5;have hs:mQ p {a with rx:=eH,ras:=a.ras++[r']}=(mQ p a).set 5 (ak eH):=rfl;have uK:(mQ p {a with rx:=eH,ras:=a.ras++[r']}).Pairwise Dj:=by rw[hs];exact KQ h.dj (k:=5) rfl h.ltS p4
 have sep:∀{j:Nat} {l:List Nat},0≠j->(mQ p {a with rx:=eH,ras:=a.ras++[r']})[j]?=some l->∀x∈l,x∉[p]:=λmO hl=>(zq uK mO (i:=0) rfl hl).symm;have hw:=UF (a:=a) (N:=H.next) hs (k:=5) rfl p4;have Ht:∀j∈bD.dL {a with rx:=eH,ras:=a.ras++[r']},j∈bD.dL a\/j∈r'.fp:=by
  intro j hj;obtain⟨m,hm,lL⟩:=afn.1 hj;rcases aa2.1 hm with q|q;·exact .inl (afn.2 ⟨m,q,lL⟩)
  ·rw[No] at q;rw[q] at lL;exact .inr lL
 have fT:=hR.lt;have hi:∀j∈bD.dL {a with rx:=eH,ras:=a.ras++[r']},j∉own p {a with rx:=eH,ras:=a.ras++[r']}/\j<H2.next:=λj hj=>by
  have kD:=p3.1;have aJg:=s3.1;rcases Ht j hj with q|q;·exact⟨λz=>(hw j z).elim (h.dL j q).1 λy=>by have:=(h.dL j q).2;omega,by have:=(h.dL j q).2;omega⟩
  ·exact⟨λz=>(hw j z).elim (hn j q) λy=>by have:=fT j q;omega,by have:=fT j q;omega⟩
 obtain⟨bs,c,t1,t2⟩:=q1 zzx;have hO:Out (own p a) H H2:=(p3.mono λj hj=>kZ (k:=5) rfl hj).trans (s3.mono λj hj=>kZ (k:=0) rfl hj);have B3:List.zipWith bJ a.ras f.aw++[bJ r' x]=List.zipWith bJ (a.ras++[r']) (f.aw++[x]):=by rw[List.zipWith_append h.len];rfl
 rw[B3] at p2;refine⟨eH,H1,H2,p1,s1,⟨s2,(q4 zzx).out s3 (sep (j:=4) zzx rfl),⟨bs,c,t1,t2.out s3 (sep (j:=1) zzx rfl _ (.head _))⟩,h.vI,p2.out s3 (sep (j:=5) zzx rfl),λi r y hr hy=>?_,by simp[h.len],(qk zzx zzx zzx).out s3 λj hj=>?_,uK,λj hj=>(hw j hj).elim (h.lo j) λq=>?_,hi⟩,hO,hw,Ht,p5⟩
 ·have mV:=hi;have key:RV H1 r.dx r.xs r.tx r.sx y.1:=by
   simp only at hr hy;by_cases aV:i<a.ras.length;·rw[abd aV] at hr;rw[abd (by rw[<-h.len];exact aV)] at hy;exact qv i r y hr hy
   ·rw[abk zzz] at hr;rw[abk (by rw[<-h.len];omega),<-h.len] at hy;have h0:i-a.ras.length=0:=by have:=(aag.1 hr).1;simp at this;omega
    rw[h0] at hr hy;cases hr;cases hy;exact hR.out p3 λj hj q=>hn j hj (kZ (k:=5) rfl q)
  exact key.out s3 λj hj q=>(hi j (Nj (a:={a with rx:=eH,ras:=a.ras++[r']}) hr j hj)).1 (kZ (k:=0) rfl q)
 ·rcases aaD.1 hj with rfl|hj;·exact sep (j:=2) zzx rfl _ (.head _)
  ·rcases aaD.1 hj with rfl|hj;·exact sep (j:=3) zzx rfl _ (.head _)
   ·exact sep (j:=6) zzx rfl _ hj
 ·have:=h.lo p (kZ (k:=0) rfl (.head _));have:=h.c.1;omega
theorem FL.iY {p:Nat}(h:FL H p a f)(hn:f.ks.length<128){k:Ky}(hk:mY f.ks k=none)(id:Int):
  ∃xu H',cK (zf 33) [.ptr a.kp 0,.agg (bP k),zi id] H=some (.tuple [zi id,.bool true],H')/\FL H' p {a with kl:=xu} {f with ks:=f.ks++[(k,id)]}/\FSt H H' p a {a with kl:=xu}:=by
 obtain⟨xu,H',k1,k2,k3,k4⟩:=ax4 h.k hn hk id;have hS:∀j∈Gg a.kp a.km a.kl,j∈[a.kp]\/j∈[a.km]\/j∈ak a.kl:=λj hj=>by
  rcases aaD.1 hj with rfl|hj;·exact .inl (.head _)
  ·rcases aaD.1 hj with rfl|hj;·exact .inr (.inl (.head _))
   ·exact .inr (.inr hj)
 have sep:∀{j:Nat} {l:List Nat},j≠2->j≠3->j≠6->(mQ p a)[j]?=some l->∀x∈l,x∉Gg a.kp a.km a.kl:=λh2 h3 h6 hl x hx q=>by
  rcases hS x q with z|z|z;·exact zq h.dj h2 hl (j:=2) rfl x hx z
  ·exact zq h.dj h3 hl (j:=3) rfl x hx z
  ·exact zq h.dj h6 hl (j:=6) rfl x hx z
 have hso:∀j∈Gg a.kp a.km a.kl,j∈own p a:=λj hj=>by
  rcases hS j hj with z|z|z;·exact kZ (k:=2) rfl z
  ·exact kZ (k:=3) rfl z
  ·exact kZ (k:=6) rfl z
 have hs:mQ p {a with kl:=xu}=(mQ p a).set 6 (ak xu):=rfl;have uK:(mQ p {a with kl:=xu}).Pairwise Dj:=by rw[hs];exact KQ h.dj (k:=6) rfl h.ltS k4
 have hw:=UF (a:=a) (N:=H.next) hs (k:=6) rfl k4;have hi:∀j∈bD.dL {a with kl:=xu},j∉own p {a with kl:=xu}/\j<H'.next:=λj hj=>⟨λq=>(hw j q).elim (h.dL j hj).1 λz=>by have:=(h.dL j hj).2;omega,by have:=(h.dL j hj).2;have:=k3.1;omega⟩;obtain⟨bs,c,t1,t2⟩:=h.t;refine⟨xu,H',k1,⟨h.c.out k3 (sep (j:=0) zzx zzx zzx rfl _ (.head _)),h.n.out k3 (sep (j:=4) zzx zzx zzx rfl),⟨bs,c,t1,t2.out k3 (sep (j:=1) zzx zzx zzx rfl _ (.head _))⟩,h.vI,h.r.out k3 (sep (j:=5) zzx zzx zzx rfl),λi r x hr hx=>(h.v i r x hr hx).out k3 λj hj q=>(h.dL j (Nj hr j hj)).1 (hso j q),h.len,k2,uK,λj hj=>(hw j hj).elim (h.lo j) λq=>?_,hi⟩,k3.mono hso,hw,λj hj=>.inl hj⟩;have:=h.lo p (kZ (k:=0) rfl (.head _));have:=h.c.1;omega
end
end
def alY (n:Nat):Bool:=Nat.ble (dec n).length 4&&(dec n).all (λb=>Nat.ble 48 b&&Nat.ble b 57)&&(match Lib.atoiAll ((dec n).map UInt8.ofNat) with|.ok v=>v==(n:Int)|_=>false)
theorem aFt:∀n:Fin 1001,alY n.val=true:=by decide +kernel
theorem IZ {n:Int}(h0:0<=n)(h1:n<=1000):uq (dec n)=some n.toNat/\(dec n).length<=4/\∀b∈dec n,48<=b/\b<=57:=by
 obtain⟨m,rfl⟩:∃m:Nat,n=m:=⟨n.toNat,zzz⟩;have h:=aFt ⟨m,zzz⟩;unfold alY at h;simp only[aaM,ae2,acT] at h;obtain⟨⟨l,d⟩,a⟩:=h;refine⟨?_,l,λb hb=>d b hb⟩;unfold uq;rw[zz2 l];have e:Ao (dec (m:Int))=(dec (m:Int)).map UInt8.ofNat:=rfl;rw[e];revert a;cases Lib.atoiAll ((dec (m:Int)).map UInt8.ofNat) with
 |ok v=>
  intro a;obtain rfl:v=(m:Int):=by simpa using a
  simp
 |_=>intro a;cases a
theorem aDT {s:Str}{n:Nat}(h:uq s=some n):dec (n:Int)=s:=by
 unfold uq at h;split at h
 ·split at h
  ·split at h;·rename_i v _ hv;cases h;rw[show ((v.toNat:Nat):Int)=v by omega];exact hv.1
   ·cases h
  ·cases h
 ·cases h
theorem ahf {p:Nat->Bool}:∀{l:Str},l.dropWhile p=[]->∀b∈l,p b=true
 |[],_,b,hb=>by cases hb
 |a::l,h,b,hb=>by
  rw[List.dropWhile_cons] at h;split at h
  ·rename_i ha;rcases aaD.1 hb with rfl|hb;·exact ha
   ·exact ahf h b hb
  ·cases h
theorem apZ {s c:Str}(h:ES s c=[]):∀b∈s,b∈c:=by
 rw[aeZ] at h
 replace h:=ahf h
 intro b hb;have vX:b∈s.reverse:=List.mem_reverse.2 hb;rw[<-List.takeWhile_append_dropWhile (p:=(c.contains ·)) (l:=s.reverse),aa2] at vX;rcases vX with q|q;·have:=acT.1 (List.all_takeWhile (p:=(c.contains ·)) (l:=s.reverse)) b q;simpa using this
 ·have:=h b (List.mem_reverse.2 q);simpa using this
theorem TQ {s:Str}(h:tY s=true):s≠[]/\s.length<=16/\∀b∈s,b∈vc:=by unfold tY at h;simp only[aaM,alL,zz9,zz5,zz6] at h;exact⟨h.1,zzz,apZ h.2.2⟩
theorem QX:∀b∈vc,b≠32/\b≠44/\b≠59/\b≠61/\b<256:=zzx
theorem aHv:∀b:Nat,48<=b->b<=57->b∈vc:=by intro b h1 h2;have:∀k:Fin 10,48+k.val∈vc:=zzx;have:=this ⟨b-48,zzz⟩;simpa[show 48+(b-48)=b by omega] using this
def lC (ts:List Tk)(a:Int):Str:=(names ts).getD a.toNat []
def ju (ts:List Tk):Bool->List Int->Str
 |_,[]=>[]|f,a::r=>((if f then [32,97,102,116,101,114,61] else [44])++lC ts a)++ju ts false r
def kK (key:Str)(n p:Int):Str:=if n=p then [] else key++dec n
def gk (ts:List Tk)(t:Tk):Str:=
 ((t.name++ju ts true t.after)++((kK [32,114,101,116,114,121,61] t.cj 0++kK [32,119,97,105,116,61] t.wait 10)++kK [32,98,97,115,101,61] t.base 1))++(if t.on=[] then [] else [32,111,110,61]++t.on)
noncomputable def lE (ts:List Tk):Str:=if jD ts=0 then lH 59 (ts.map (gk ts)) else []
def EP (k v:Str):Str:=k++61::v
def lY (c:Prop) [Decidable c] (k v:Str):List Str:=if c then [] else [EP k v]
def Ec (ts:List Tk)(t:Tk):List Str:=t.name::(lY (t.after=[]) AZ (lH 44 (t.after.map (lC ts)))++(lY (t.cj=0) CN (dec t.cj)++(lY (t.wait=10) AT (dec t.wait)++(lY (t.base=1) zG (dec t.base)++lY (t.on=[]) vR t.on))))
theorem Ra (c:Nat):∀(l:List Str) (a:Str),lH c (a::l)=a++l.flatMap (λs=>c::s)
 |[],a=>by simp[lH]
 |b::l,a=>by show a++c::lH c (b::l)=_;rw[Ra c l b];simp
theorem aiV (c:Nat):∀(l:List Str),l≠[]->(lH c l).length+1=dJ l+l.length
 |[],h=>absurd rfl h|[a],_=>by simp[lH,dJ]
 |a::b::l,_=>by have:=aiV c (b::l) zzy;show (a++c::lH c (b::l)).length+1=_;simp[dJ] at this⊢;omega
theorem Q9 {c b:Nat}:∀{l:List Str},b∈lH c l->b=c\/∃s∈l,b∈s
 |[],h=>by cases h
 |[a],h=>.inr ⟨a,.head _,h⟩|a::d::l,h=>by
  have h:b∈a++c::lH c (d::l):=h;rw[aa2,aaD] at h;rcases h with h|h|h;·exact .inr ⟨a,.head _,h⟩
  ·exact .inl h
  ·exact (Q9 h).imp id λ⟨s,hs,hb⟩=>⟨s,.tail _ hs,hb⟩
theorem XX (ts:List Tk):∀l,ju ts false l=(l.map (lC ts)).flatMap (λs=>44::s)
 |[]=>rfl|a::r=>by simp[ju,XX ts r]
theorem alc (ts:List Tk)(a:Int)(r:List Int):ju ts true (a::r)=32::(AZ++61::lH 44 ((a::r).map (lC ts))):=by rw[aby,Ra,<-XX];simp[ju]
theorem ajq (ts:List Tk)(t:Tk):gk ts t=lH 32 (Ec ts t):=by
 have h1:ju ts true t.after=(lY (t.after=[]) AZ (lH 44 (t.after.map (lC ts)))).flatMap (λs=>32::s):=by
  unfold lY EP;cases h:t.after with
  |nil=>rfl|cons a r=>rw[alc];simp
 have h2:∀(k v:Str) (n p:Int),v=dec n->kK (32::(k++[61])) n p=(lY (n=p) k v).flatMap (λs=>32::s):=by intro k v n p hv;subst hv;unfold kK lY EP;split<;>simp
 have h3:(if t.on=[] then [] else [32,111,110,61]++t.on)=(lY (t.on=[]) vR t.on).flatMap (λs=>32::s):=by unfold lY EP;split<;>simp
 have a:=h2 CN _ t.cj 0 rfl;have b:=h2 AT _ t.wait 10 rfl;have c:=h2 zG _ t.base 1 rfl;unfold gk Ec;rw[Ra,amB,amB,amB,amB,<-h1,<-h3,<-a,<-b,<-c];simp only[abr,List.cons_append,afP]
section
variable {c i j:Nat}{k:Str}{nms r:List Str}{t':Tk}{ts:List Tk}
theorem aD4 {a:Str}(r:Str)(h:c∉a):cut c (a++c::r)=(a,r,true):=by
 unfold cut;rw[amZ r 0 h,ade];simp only;rw[List.take_left',List.drop_append];·simp
 ·rfl
theorem aup:∀j i:Fin 5,i.val<=j.val->∃k,mC[j.val]?=some k/\61∉k/\(mC.drop i.val).findIdx? (λa=>k==a)=some (j.val-i.val):=by intro j i h;have:∀j i:Fin 5,i.val<=j.val->61∉mC[j.val]! /\ (mC.drop i.val).findIdx? (λa=>mC[j.val]! == a)=some (j.val-i.val):=zzx;refine⟨mC[j.val]!,?_,this j i h⟩;have h5:∀j:Fin 5,mC[j.val]?=some mC[j.val]! :=zzx;exact h5 j
theorem ar9 {t:Tk}{v:Str}(hk:mC[j]?=some k)(hi:i<=j):oF nms (EP k v::r) t (mC.drop i)=match kA t k v nms with|none=>none|some t'=>oF nms r t' (mC.drop (j+1)):=by
 have hj:j<5:=(aag.1 hk).1;obtain⟨k',h1,h2,h3⟩:=aup ⟨j,hj⟩ ⟨i,zzz⟩ hi;rw[hk] at h1;cases h1;have hc:=aD4 v h2;rw[oF];unfold EP;rw[hc];simp only;simp only at h3;rw[h3];simp only;rw[zz1 zzy,List.drop_drop];rw[show i+(j-i+1)=j+1 by omega]
 try (cases kA t k v nms<;>rfl)
theorem Lh {t:Tk}{v:Str}{c:Prop} [Decidable c] (hk:mC[j]?=some k) (hi:i<=j) (h1:c->t'=t) (h2:¬c->kA t k v nms=some t'):
  ∃i',i'<=j+1/\oF nms (lY c k v++r) t (mC.drop i)=oF nms r t' (mC.drop i'):=by
 by_cases hc:c;·refine⟨i,zzz,?_⟩;rw[h1 hc];unfold lY;rw[zz2 hc];rfl
 ·refine⟨j+1,aaO _,?_⟩;unfold lY;rw[zz1 hc];show oF nms (EP k v::r) t _=_;rw[ar9 hk hi,h2 hc]
theorem afT:∀{l:List Str} {i:Nat} {s:Str},l.Nodup->l[i]?=some s->l.findIdx? (λa=>s==a)=some i
 |[],i,s,_,h=>by simp at h
 |a::l,0,s,hn,h=>by simp only[ada,acD] at h;subst h;simp[ajW]
 |a::l,i+1,s,hn,h=>by
  simp only[acJ] at h;rw[akD] at hn;have aF:(s==a)=false:=by rw[zz9];intro e;subst e;exact hn.1 (aac h)
  rw[ajW,aF,afT hn.2 h];rfl
theorem LL {a:Int}(h0:0<=a)(h1:a<=(ts.length:Int)-1):(names ts)[a.toNat]?=some (lC ts a)/\lC ts a∈names ts:=by
 have hl:a.toNat<(names ts).length:=by unfold names;rw[abv];omega
 have:(names ts)[a.toNat]?=some (lC ts a):=by unfold lC;rw[aie,aaC hl];rfl
 exact⟨this,aac this⟩
theorem aoA {ts:List Tk}(hn:(names ts).Nodup):∀{l:List Int},(∀a∈l,0<=a/\a<=(ts.length:Int)-1)->wE (names ts) (l.map (lC ts))=some l
 |[],_=>rfl|a::l,h=>by obtain⟨a0,a1⟩:=h a (.head _);show wE (names ts) (lC ts a::l.map (lC ts))=_;rw[wE,afT hn (LL a0 a1).1];simp only;rw[aoA hn λb hb=>h b (.tail _ hb)];show some ((a.toNat:Int)::l)=_;rw[show ((a.toNat:Nat):Int)=a by omega]
structure Fit (ts:List Tk):Prop where
 nd:(names ts).Nodup
 nm:∀s∈names ts,s≠[]/\s.length<=16/\∀b∈s,b∈vc
 lu:∀t∈ts,(∀a∈t.after,0<=a/\a<=(ts.length:Int)-1)/\t.after.length<=16
 num:∀t∈ts,0<=t.cj/\t.cj<=8/\1<=t.wait/\t.wait<=1000/\1<=t.base/\t.base<=1000
 on:∀t∈ts,t.on=[]\/(t.on.length<=16/\∀b∈t.on,b∈vc)
theorem Fit.aDu (h:Fit ts){s:Str}(hs:s∈names ts):44∉s:=λq=>(QX 44 ((h.nm s hs).2.2 44 q)).2.1 rfl
theorem aF5 (hF:Fit ts){t:Tk}(ht:t∈ts):yu (names ts) (Ec ts t)=some t:=by
 obtain⟨n1,n2,n3,n4,n5,n6⟩:=hF.num t ht;obtain⟨a1,a2⟩:=hF.lu t ht;have hm:∀s∈t.after.map (lC ts),s∈names ts:=λs hs=>by obtain⟨a,ha,rfl⟩:=abT.1 hs;exact (LL (a1 a ha).1 (a1 a ha).2).2
 unfold yu Ec;show oF (names ts) _ ⟨t.name,[],0,10,1,[]⟩ (mC.drop 0)=_;obtain⟨i1,l1,e1⟩:=Lh (nms:=names ts) (r:=lY (t.cj=0) CN (dec t.cj)++(lY (t.wait=10) AT (dec t.wait)++(lY (t.base=1) zG (dec t.base)++lY (t.on=[]) vR t.on))) (t:=⟨t.name,[],0,10,1,[]⟩) (t':=⟨t.name,t.after,0,10,1,[]⟩) (i:=0) (j:=0) (k:=AZ) (v:=lH 44 (t.after.map (lC ts))) (c:=t.after=[]) rfl (aaO _) (λh=>by rw[h]) λh=>by unfold kA;rw[zz2 rfl,TJ (by simpa using h) λs hs=>hF.aDu (hm s hs),aoA hF.nd a1];rfl
 obtain⟨i2,l2,e2⟩:=Lh (nms:=names ts) (r:=lY (t.wait=10) AT (dec t.wait)++(lY (t.base=1) zG (dec t.base)++lY (t.on=[]) vR t.on)) (t:=⟨t.name,t.after,0,10,1,[]⟩) (t':=⟨t.name,t.after,t.cj,10,1,[]⟩) (i:=i1) (j:=1) (k:=CN) (v:=dec t.cj) (c:=t.cj=0) rfl l1 (λh=>by rw[h]) λh=>by unfold kA;rw[zz1 zzx,zz2 rfl,(IZ n1 zzz).1];have e:((t.cj.toNat:Nat):Int)=t.cj:=zzz;simp only[adX,e]
 obtain⟨i3,l3,e3⟩:=Lh (nms:=names ts) (r:=lY (t.base=1) zG (dec t.base)++lY (t.on=[]) vR t.on) (t:=⟨t.name,t.after,t.cj,10,1,[]⟩) (t':=⟨t.name,t.after,t.cj,t.wait,1,[]⟩) (i:=i2) (j:=2) (k:=AT) (v:=dec t.wait) (c:=t.wait=10) rfl l2 (λh=>by rw[h]) λh=>by unfold kA;rw[zz1 zzx,zz1 zzx,zz2 rfl,(IZ zzz n4).1];have e:((t.wait.toNat:Nat):Int)=t.wait:=zzz;simp only[adX,e]
 obtain⟨i4,l4,e4⟩:=Lh (nms:=names ts) (r:=lY (t.on=[]) vR t.on) (t:=⟨t.name,t.after,t.cj,t.wait,1,[]⟩) (t':=⟨t.name,t.after,t.cj,t.wait,t.base,[]⟩) (i:=i3) (j:=3) (k:=zG) (v:=dec t.base) (c:=t.base=1) rfl l3 (λh=>by rw[h]) λh=>by unfold kA;rw[zz1 zzx,zz1 zzx,zz1 zzx,zz2 rfl,(IZ zzz n6).1];have e:((t.base.toNat:Nat):Int)=t.base:=zzz;simp only[adX,e]
 obtain⟨i5,l5,e5⟩:=Lh (nms:=names ts) (r:=[]) (t:=⟨t.name,t.after,t.cj,t.wait,t.base,[]⟩) (t':=t) (i:=i4) (j:=4) (k:=vR) (v:=t.on) (c:=t.on=[]) rfl l4 (λh=>by rw[<-h]) λh=>by unfold kA;rw[zz1 zzx,zz1 zzx,zz1 zzx,zz1 zzx,zz2 rfl,zz1 h]
 rw[acQ] at e5;rw[List.tail_cons,e1,e2,e3,e4,e5,oF]
theorem akd (hF:Fit ts){t:Tk}(ht:t∈ts):∀s∈Ec ts t,∀b∈s,b∈vc\/b=44\/b=61:=by
 obtain⟨n1,n2,n3,n4,n5,n6⟩:=hF.num t ht;obtain⟨a1,a2⟩:=hF.lu t ht;have aS:∀(c:Prop) [Decidable c] (k v:Str),(∀b∈k,b∈vc)->(¬c->∀b∈v,b∈vc\/b=44)->∀s∈lY c k v,∀b∈s,b∈vc\/b=44\/b=61:=by
  intro c _ k v hk hv s hs b hb;unfold lY at hs;split at hs;·cases hs
  ·rename_i hc;rw[No] at hs;subst hs;unfold EP at hb;rw[aa2,aaD] at hb;rcases hb with hb|hb|hb;·exact .inl (hk b hb)
   ·exact .inr (.inr hb)
   ·exact (hv hc b hb).imp id .inl
 have Xv:∀n:Int,0<=n->n<=1000->∀b∈dec n,b∈vc\/b=44:=λn h0 h1 b hb=>by obtain⟨x,y⟩:=(IZ h0 h1).2.2 b hb;exact .inl (aHv b x y)
 intro s hs;unfold Ec at hs;simp only[aaD,aa2] at hs;rcases hs with rfl|hs|hs|hs|hs|hs;·intro b hb;exact .inl ((hF.nm _ (abT.2 ⟨t,ht,rfl⟩)).2.2 b hb)
 ·refine aS _ _ _ zzx (λ_ b hb=>?_) s hs;rcases Q9 hb with rfl|⟨u,hu,hb⟩;·exact .inr rfl
  ·obtain⟨a,ha,rfl⟩:=abT.1 hu;exact .inl ((hF.nm _ (LL (a1 a ha).1 (a1 a ha).2).2).2.2 b hb)
 ·exact aS _ _ _ zzx (λ_=>Xv _ n1 zzz) s hs
 ·exact aS _ _ _ zzx (λ_=>Xv _ zzz n4) s hs
 ·exact aS _ _ _ zzx (λ_=>Xv _ zzz n6) s hs
 ·refine aS _ _ _ zzx (λhc b hb=>?_) s hs;rcases hF.on t ht with q|q;·exact absurd q hc
  ·exact .inl (q.2 b hb)
theorem okB {b:Nat}(h:b∈vc\/b=44\/b=61):b≠32/\b≠59/\b<256:=by
 rcases h with h|rfl|rfl;·have:=QX b h;omega
 ·decide
 ·decide
theorem aaH (hF:Fit ts){t:Tk}(ht:t∈ts):∀b∈gk ts t,b≠59/\b<256:=by
 intro b hb;rw[ajq] at hb;rcases Q9 hb with rfl|⟨s,hs,hb⟩;·decide
 ·have:=okB (akd hF ht s hs b hb);omega
theorem agn (hF:Fit ts){t:Tk}(ht:t∈ts):mz (gk ts t)=Ec ts t:=by unfold mz;rw[ajq];exact TJ (by unfold Ec;simp) λs hs q=>(okB (akd hF ht s hs 32 q)).1 rfl
theorem ao1 {ts:List Tk}(hF:Fit ts):∀{us:List Tk},(∀t∈us,t∈ts)->qH (names ts) (us.map (gk ts))=some us
 |[],_=>rfl|u::us,h=>by show qH (names ts) (gk ts u::us.map (gk ts))=_;rw[qH,agn hF (h u (.head _)),aF5 hF (h u (.head _)),ao1 hF λt ht=>h t (.tail _ ht)];rfl
theorem aCQ (h:(List.range ts.length).any (dup ts)=false):(names ts).Nodup:=by
 rw[akE] at h;have key:∀k,k<=ts.length->(names (ts.take k)).Nodup:=by
  intro k;induction k with
  |zero=>intro _;rw[akA];exact amN|succ k ih=>
   intro hk;have hg:ts[k]?=some (ts[k]' zzz):=aaC zzz;have h1:=h k (anM.2 zzz);unfold dup at h1;rw[hg] at h1;rw[akq,hg];have h2:((names (ts.take k)).any λs=>s==(ts[k]' zzz).name)=false:=by simp only at h1;rwa[ahM] at h1
   rw[akE] at h2;unfold names at ih h2⊢;rw[acY,aeg];refine⟨ih zzz,zzy,λa ha b hb e=>?_⟩;simp only[Option.toList_some,aby,ajn,No] at hb;subst hb;exact h2 a ha (by simp[e])
 have:=key ts.length (aaO _);rwa[List.take_length] at this
theorem azt (h:jD ts=0)(cZ:∀t∈ts,t.after.length<=16):Fit ts/\1<=ts.length/\ts.length<=16:=by
 unfold jD at h;split at h;·cases h
 ·rename_i h1;split at h;·cases h
  ·rename_i h2;split at h;·cases h
   ·rename_i h6;split at h;·cases h
    ·rename_i h3;split at h;·cases h
     ·rename_i h4;have h1:=ajy.1 h1;have ha:=Qm (by simpa using h4);rw[ahM,akE] at h2 h3;have hq:∀t∈ts,Bx t=false/\uA t=false/\∀a∈t.after,0<=a/\a<=(ts.length:Int)-1:=λt ht=>by obtain⟨i,hi⟩:=aca ht;have aV:=(aag.1 hi).1;have a:=h2 i (anM.2 aV);have b:=h3 i (anM.2 aV);unfold p1 at a;unfold p3 at b;rw[hi] at a b;exact⟨by simpa using a,by simpa using b,λa ha'=>⟨((Dn ha hi).1 a ha').1,((Dn ha hi).1 a ha').2.1⟩⟩
      refine⟨⟨aCQ (by simpa using h6),λs hs=>?_,λt ht=>⟨(hq t ht).2.2,cZ t ht⟩,λt ht=>?_,λt ht=>?_⟩,h1⟩;·obtain⟨t,ht,rfl⟩:=abT.1 hs;have:=(hq t ht).1;unfold Bx at this;rw[ahz] at this;exact TQ (by simpa using this.1)
      ·have:=(hq t ht).2.1;unfold uA at this;simp only[ahz,akX,aaM,zz5] at this;omega
      ·have:=(hq t ht).1;unfold Bx at this;rw[ahz,Bool.and_eq_false_iff] at this;rcases this.2 with q|q;·exact .inl (by simpa using q)
       ·exact .inr (TQ (by simpa using q)).2
theorem anl {ts:List Tk}:∀{r:List Str} {l:List Int},wE (names ts) r=some l->l.map (lC ts)=r
 |[],l,h=>by cases h;rfl
 |s::r,l,h=>by
  unfold wE at h;split at h
  ·rename_i i hi;rw[aaq] at h;obtain⟨l',h1,rfl⟩:=h;rw[aby,anl h1];have hs:lC ts (i:Int)=s:=by
    rw[List.findIdx?_eq_some_iff_getElem] at hi;obtain⟨h2,h3,_⟩:=hi;have h4:(names ts)[i]=s:=by simpa using (beq_iff_eq.1 h3).symm
    unfold lC;rw[abI,aie,aaC h2,h4];rfl
   rw[hs]
  ·cases h
theorem as6 (ts:List Tk):∀(l:List Int),l≠[]->(ju ts true l).length=7+(lH 44 (l.map (lC ts))).length/\(ju ts false l).length=1+(lH 44 (l.map (lC ts))).length
 |[],h=>absurd rfl h|a::r,_=>by
  constructor;·rw[alc];simp;omega
  ·rw[XX,aby,Ra,List.flatMap_cons];simp;omega
theorem ajC (ts:List Tk):∀(l m:List Int) (f:Bool),(ju ts f (l++m)).length=(ju ts f l).length+(ju ts (f&&l.isEmpty) m).length
 |[],m,f=>by simp[ju]
 |a::l,m,f=>by have:=ajC ts l m false;simp[ju] at this⊢;omega
theorem ayu {t:Tk}{v:Str}(h:kA t k v (names ts)=some t'):(gk ts t').length<=(gk ts t).length+k.length+v.length+2/\t'.name=t.name:=by
 have told:∀(key:Str) (n p q:Int),(kK key n p).length<=(kK key q p).length+key.length+(dec n).length:=by intro key n p q;unfold kK;split<;>split<;>simp<;>omega
 have zk:∀{n:Nat},uq v=some n->(dec (n:Int)).length=v.length:=λh=>by rw[aDT h]
 unfold kA at h;split at h
 ·rename_i hk;subst hk;rw[aaq] at h;obtain⟨l,h1,rfl⟩:=h;have h2:=anl h1;have hl:l≠[]:=by intro e;subst e;exact Cm 44 v h2.symm
  have h3:=as6 ts l hl;rw[h2,aer] at h3;have h4:=ajC ts t.after l true;refine⟨?_,rfl⟩;unfold gk;simp only[aal] at h4⊢;have h5:(ju ts (true&&t.after.isEmpty) l).length<=7+v.length:=by
   cases (true&&t.after.isEmpty);·rw[h3.2];omega
   ·rw[h3.1];omega
  show _<=_+5+_+2;omega
 ·split at h;·rename_i _ hk;subst hk;rw[aaq] at h;obtain⟨n,h1,rfl⟩:=h;refine⟨?_,rfl⟩;have a:=told [32,114,101,116,114,121,61] (n:Int) 0 t.cj;have b:=zk h1;unfold gk;simp only[aal,aaP,ach] at a⊢;omega
  ·split at h;·rename_i _ _ hk;subst hk;rw[aaq] at h;obtain⟨n,h1,rfl⟩:=h;refine⟨?_,rfl⟩;have a:=told [32,119,97,105,116,61] (n:Int) 10 t.wait;have b:=zk h1;unfold gk;simp only[aal,aaP,ach] at a⊢;omega
   ·split at h;·rename_i _ _ _ hk;subst hk;rw[aaq] at h;obtain⟨n,h1,rfl⟩:=h;refine⟨?_,rfl⟩;have a:=told [32,98,97,115,101,61] (n:Int) 1 t.base;have b:=zk h1;unfold gk;simp only[aal,aaP,ach] at a⊢;omega
    ·split at h
     ·rename_i _ _ _ _ hk;subst hk;split at h;·cases h
      ·rename_i hv;cases h;refine⟨?_,rfl⟩;unfold gk;simp only[zz1 hv,aal,aaP,ach];omega
     ·rw[aaq] at h;obtain⟨n,h1,rfl⟩:=h;exact⟨zzz,rfl⟩
theorem aFa {s:Str}(h:(cut c s).1.length≠s.length):s.length=(cut c s).1.length+1+(cut c s).2.1.length:=by
 unfold cut at h⊢;cases hi:lT c s 0 with
 |none=>rw[hi] at h;exact absurd rfl h|some i=>
  obtain⟨a,r,rfl,h2,h3⟩:=LD hi;rw[ade] at h2;subst h2;simp;omega
theorem aph {ts:List Tk}:∀{r:List Str} {t t':Tk} {ks:List Str},oF (names ts) r t ks=some t'->(gk ts t').length<=(gk ts t).length+dJ r+r.length/\t'.name=t.name
 |[],t,t',ks,h=>by cases h;exact⟨zzy,rfl⟩
 |s::r,t,t',ks,h=>by
  unfold oF at h;split at h;·cases h
  ·split at h;·cases h
   ·rename_i aF;split at h;·cases h
    ·rename_i t1 h1;obtain⟨a1,a2⟩:=ayu h1;obtain⟨b1,b2⟩:=aph h;have:=aFa aF;have hs:dJ (s::r)=s.length+dJ r:=by simp[dJ]
     refine⟨?_,b2.trans a2⟩;rw[hs];simp only[aaP];omega
theorem aCE {p:Str}{t:Tk}(h:yu (names ts) (mz p)=some t):(gk ts t).length<=p.length:=by
 unfold yu at h;obtain⟨h1,h2⟩:=aph h;have h3:dJ (mz p)+(mz p).length=p.length+1:=Jj 32 p;have aF:mz p≠[]:=Cm 32 p;cases hw:mz p with
 |nil=>exact absurd hw aF|cons a b=>
  rw[hw] at h1 h3;have e:gk ts ⟨(a::b).headD [],[],0,10,1,[]⟩=a:=by simp[gk,ju,kK]
  rw[e] at h1;have hs:dJ (a::b)=a.length+dJ b:=by simp[dJ]
  rw[hs] at h3;simp only[List.tail_cons,aaP] at h1 h3;omega
theorem amL {nms:List Str}:∀{r:List Str} {t t':Tk} {ks:List Str},oF nms r t ks=some t'->t'.name=t.name
 |[],t,t',ks,h=>by cases h;rfl
 |s::r,t,t',ks,h=>by
  unfold oF at h;split at h;·cases h
  ·split at h;·cases h
   ·split at h;·cases h
    ·rename_i t1 h1;rw[amL h];unfold kA at h1;split at h1;·rw[aaq] at h1;obtain⟨m,_,rfl⟩:=h1;rfl
     ·split at h1;·rw[aaq] at h1;obtain⟨m,_,rfl⟩:=h1;rfl
      ·split at h1;·rw[aaq] at h1;obtain⟨m,_,rfl⟩:=h1;rfl
       ·split at h1;·rw[aaq] at h1;obtain⟨m,_,rfl⟩:=h1;rfl
        ·split at h1
         ·split at h1;·cases h1
          ·cases h1;rfl
         ·rw[aaq] at h1;obtain⟨m,_,rfl⟩:=h1;rfl
theorem akL {nms:List Str}:∀{r:List Str} {ts:List Tk},qH nms r=some ts->names ts=r.map rJ
 |[],ts,h=>by cases h;rfl
 |s::r,ts,h=>by
  unfold qH at h;split at h;·cases h
  ·rename_i t ht;rw[aaq] at h;obtain⟨l,h1,rfl⟩:=h;have h2:=akL h1;unfold yu at ht;have h3:=amL ht;unfold names at h2⊢;rw[aby,aby,h2,h3]
theorem ak6 {ts:List Tk}:∀{r:List Str} {us:List Tk},qH (names ts) r=some us->dJ (us.map (gk ts))<=dJ r/\us.length=r.length
 |[],us,h=>by cases h;exact⟨aaO _,rfl⟩
 |s::r,us,h=>by
  unfold qH at h;split at h;·cases h
  ·rename_i t ht;rw[aaq] at h;obtain⟨l,h1,rfl⟩:=h;obtain⟨a,b⟩:=ak6 h1;have c:=aCE ht;simp only[dJ,aby,al8,aaP] at a b c⊢;omega
theorem als (hn:ts.length<=16)(ha:yG ts):∀t∈ts,t.after.length<=16:=λt ht=>by obtain⟨i,hi⟩:=aca ht;obtain⟨x1,x2⟩:=Dn ha hi;have:=Px (n:=ts.length) (λa h=>⟨(x1 a h).1,(x1 a h).2.1⟩) x2;omega
theorem QA {text:Str}(h:(aG text).2=0):jD (aG text).1=0/\Fit (aG text).1/\1<=(aG text).1.length/\(aG text).1.length<=16/\(lE (aG text).1).length<=text.length/\text.length<=1024/\aG (lE (aG text).1)=((aG text).1,0):=by
 obtain⟨g1,g2,g3,g4,g5,g6⟩:=IL h;have cZ:=als g3 g4;obtain⟨hF,f1,f2⟩:=azt g1 cZ;have hb:¬1024<text.length:=λhb=>by unfold aG at h;rw[zz2 hb] at h;cases h
 have lW:qH ((cJ 59 text).map rJ) (cJ 59 text)=some (aG text).1:=by
  unfold aG at h⊢;rw[zz1 hb] at h⊢;cases hq:qH ((cJ 59 text).map rJ) (cJ 59 text) with
  |none=>rw[hq] at h;cases h
  |some ts=>
   rw[hq] at h;simp only at h⊢;by_cases h0:jD ts=0;·rw[zz2 h0]
   ·rw[zz1 h0] at h;exact absurd h h0
 generalize (aG text).1=ts at*
 have AM:=akL lW;rw[<-AM] at lW;obtain⟨s1,s2⟩:=ak6 lW;have mL:=Jj 59 text;have aF:ts.map (gk ts)≠[]:=by
  intro e;have:(ts.map (gk ts)).length=0:=by rw[e];rfl
  rw[abv] at this;omega
 have tX:=aiV 59 _ aF;rw[abv] at tX;have ot:lE ts=lH 59 (ts.map (gk ts)):=by unfold lE;rw[zz2 g1]
 have hlen:(lE ts).length<=text.length:=by rw[ot];omega
 refine⟨g1,hF,f1,f2,hlen,zzz,?_⟩;have aD9:cJ 59 (lE ts)=ts.map (gk ts):=by rw[ot];refine TJ aF λp hp q=>?_;obtain⟨t,ht,rfl⟩:=abT.1 hp;exact (aaH hF ht 59 q).1 rfl
 have aGq:(ts.map (gk ts)).map rJ=names ts:=by rw[anY];unfold names;refine List.map_congr_left λt ht=>?_;show rJ (gk ts t)=t.name;unfold rJ;rw[agn hF ht];rfl
 unfold aG;rw[zz1 zzz,aD9,aGq,ao1 hF λt ht=>ht];simp only;rw[zz2 g1]
end
end
theorem aia (k:IntKind)(a:Int):same (.int k a) (.int k a)=true:=by cases k<;>simp[same,qP]
section
variable {H:Hp}{key:Str}{ts:List Tk}
theorem XF {n p:Int}(hk:key.length<=100)(h0:0<=n)(h1:n<=1000)(hg:Gl H):∃H',cK (zf 92) [.str key,zi n,zi p] H=some (.str (kK key n p),H')/\Out [] H H':=by
 by_cases he:n=p;·have d:(n==p)=true:=beq_iff_eq.2 he;refine⟨H,ahg ?_,Out.refl _ _⟩;unfold XD kK;simp only[d,zz2 he,zz0,Int.reduceBEq,Int.reduceBNe,Int.reduceLT,Int.reduceLE,Int.reduceGT,Int.reduceGE,Int.reduceNeg]
 ·have d:(n==p)=false:=beq_eq_false_iff_ne.2 he;obtain⟨H',i1,i2⟩:=age (n:=n) zzz zzz hg;have hl:=(IZ h0 h1).2.1;have hs:=AR (a:=key) (b:=dec n) zzz;refine⟨H',ahg ?_,i2⟩;unfold XD kK;simp only[d,zz1 he,i1,hs,zz0,Int.reduceBEq,Int.reduceBNe,Int.reduceLT,Int.reduceLE,Int.reduceGT,Int.reduceGE,Int.reduceNeg]
theorem Kb {n p:Int}(h0:0<=n)(h1:n<=1000):(kK key n p).length<=key.length+4:=by
 unfold kK;split;·simp
 ·have:=(IZ h0 h1).2.1;rw[aal];omega
theorem aeJ (hF:Fit ts){a:Int}(h0:0<=a)(h1:a<=(ts.length:Int)-1):(lC ts a).length<=16:=(hF.nm _ (LL h0 h1).2).2.1
theorem Ww {ts:List Tk}{dx:AV}{xs:List AV}{D:Nat}{l:List Int}{lx bG bN eI dK cN:AV}{H:Hp}(hF:Fit ts)(hl:l.length<=16)(ha:∀a∈l,0<=a/\a<=(ts.length:Int)-1)(gC:Rw H 1 lx (ints l))(hD:cellAt H D 0=some dx)(hR:RD H dx xs ts)(aX:K.Fn 1)(aK:K.Fn 5)(fP:K.Fn 7):
  ∀(r:List Int) (k:Nat) (s:Str),k<=l.length->l.drop k=r->s.length<=100+100*k->
  LM JN GO cK aX aK fP (.ptr D 0) cN bG (.str s) bN eI dK lx (zi (l.length:Nat)) (zi (k:Nat)) H=fP (.ptr D 0) cN bG (.str (s++ju ts (k==0) r)) bN eI dK H
 |[],k,s,hk,h,hs=>by obtain rfl:=drop_nil hk h;rw[X0];simp only[Nn,df,ju,acQ,zz0,Int.reduceBEq,Int.reduceBNe,Int.reduceLT,Int.reduceLE,Int.reduceGT,Int.reduceGE,Int.reduceNeg]
 |a::r,k,s,hk,h,hs=>by
  obtain⟨h1,h2,h3⟩:=dU h;obtain⟨q,q1,q2⟩:=gC.fW (Dw h2) .i64;have es:=dC h1 zzz;obtain⟨a0,a1⟩:=ha a (aac h2);have jw:=aeJ hF a0 a1;obtain⟨m,rfl⟩:∃m:Nat,a=m:=⟨a.toNat,zzz⟩;have hm:ts[m]?=some (ts[m]' zzz):=aaC zzz;obtain⟨x,b,o,g0,g1,g2,g3,g4,g5,g6⟩:=hR.at hm;have AM:(ts[m]' zzz).name=lC ts (m:Int):=by have:=(LL a0 a1).1;unfold names at this;rw[abI,ab9,hm] at this;simpa using this
  rw[AM] at g6;cases k with
  |zero=>
   have s1:=AR (a:=s) (b:=[32,97,102,116,101,114,61]) (by simp;omega);have s2:=AR (a:=s++[32,97,102,116,101,114,61]) (b:=lC ts (m:Int)) (by simp;omega);have ih:=Ww (cN:=cN) (bG:=bG) (bN:=bN) (eI:=eI) (dK:=dK) hF hl ha gC hD hR aX aK fP r 1 (s++[32,97,102,116,101,114,61]++lC ts (m:Int)) zzz h3 (by simp;omega);have e:s++ju ts ((0:Nat)==0) ((m:Int)::r)=s++[32,97,102,116,101,114,61]++lC ts (m:Int)++ju ts ((1:Nat)==0) r:=by simp[ju]
   have d0:(((0:Nat):Int)==0)=true:=rfl;rw[e,X0];simp(disch:=try exact zqq)only[Nn,aN h1,q1,q2,d0,s1,hD,g3,g6,s2,es,ih,ar,aq,Nat.reduceAdd,zz0,Int.reduceBEq,Int.reduceBNe,Int.reduceLT,Int.reduceLE,Int.reduceGT,Int.reduceGE,Int.reduceNeg]
  |succ k=>
   have s1:=AR (a:=s) (b:=[44]) (by simp;omega);have s2:=AR (a:=s++[44]) (b:=lC ts (m:Int)) (by simp;omega);have ih:=Ww (cN:=cN) (bG:=bG) (bN:=bN) (eI:=eI) (dK:=dK) hF hl ha gC hD hR aX aK fP r (k+1+1) (s++[44]++lC ts (m:Int)) zzz h3 (by simp;omega);have e:s++ju ts ((k+1)==0) ((m:Int)::r)=s++[44]++lC ts (m:Int)++ju ts ((k+1+1)==0) r:=by simp[ju]
   have d0:(((k+1:Nat):Int)==0)=false:=zz7 zzz;rw[e,X0];simp(disch:=try exact zqq)only[Nn,aN h1,q1,q2,d0,s1,hD,g3,g6,s2,es,ih,ar,aq,Nat.reduceAdd,zz0,Int.reduceBEq,Int.reduceBNe,Int.reduceLT,Int.reduceLE,Int.reduceGT,Int.reduceGE,Int.reduceNeg]
theorem ahW {ts:List Tk}(hF:Fit ts):∀{l:List Int} (f:Bool),(∀a∈l,0<=a/\a<=(ts.length:Int)-1)->(ju ts f l).length<=23*l.length
 |[],f,_=>by simp[ju]
 |a::r,f,h=>by obtain⟨h0,h1⟩:=h a (.head _);have:=aeJ hF h0 h1;have ih:=ahW hF (l:=r) false λb hb=>h b (.tail _ hb);cases f<;>simp[ju]<;>omega
theorem YP (hF:Fit ts){t:Tk}(ht:t∈ts):(t.name++ju ts true t.after).length<=400/\(gk ts t).length<=600:=by
 obtain⟨n1,n2,n3,n4,n5,n6⟩:=hF.num t ht;obtain⟨a1,a2⟩:=hF.lu t ht;have b1:=(hF.nm _ (abT.2 ⟨t,ht,rfl⟩)).2.1;have b2:=ahW hF true a1;have c1:=Kb (key:=[32,114,101,116,114,121,61]) (p:=0) n1 zzz;have c2:=Kb (key:=[32,119,97,105,116,61]) (p:=10) (show 0<=t.wait by omega) n4;have c3:=Kb (key:=[32,98,97,115,101,61]) (p:=1) (show 0<=t.base by omega) n6;have c4:(if t.on=[] then [] else [32,111,110,61]++t.on).length<=20:=by
  split;·simp
  ·rcases hF.on t ht with q|q;·contradiction
   ·simp;omega
 simp only[aaP,ach] at c1 c2 c3;refine⟨by rw[aal];omega,?_⟩;unfold gk;simp only[aal] at c4⊢;omega
theorem amQ {ts:List Tk}{dx:AV}{xs:List AV}{D:Nat}(hF:Fit ts)(hn:ts.length<=16)(LK:11<=D):
  ∀(r:List Tk) (i:Nat) (H:Hp) (lx:AV),i<=ts.length->ts.drop i=r->Gl H->cellAt H D 0=some dx->D<H.next->RD H dx xs ts->Ow H 9 1 lx (strs ((ts.take i).map (gk ts)))->(∀j∈ak lx,j≠D/\j∉nf dx xs/\11<=j)->
  ∃wW H',(∀aX:K.Fn 1,aa0 JN GO cK aX (.ptr D 0) lx dx (zi (ts.length:Nat)) (zi (i:Nat)) H=aX wW H')/\Rw H' 1 wW (strs (ts.map (gk ts)))/\Out (ak lx) H H'
 |[],i,H,lx,hi,h,hg,hD,Aq,hR,hO,hd=>by obtain rfl:=drop_nil hi h;refine⟨lx,H,λaX=>?_,by rw[List.take_length] at hO;exact hO.rw,Out.refl _ _⟩;rw[acX];simp only[Tx,df,zz0,Int.reduceBEq,Int.reduceBNe,Int.reduceLT,Int.reduceLE,Int.reduceGT,Int.reduceGE,Int.reduceNeg]
 |t::r,i,H,lx,hi,h,hg,hD,Aq,hR,hO,hd=>by
  obtain⟨h1,h2,h3⟩:=dU h;have ht:=aac h2;obtain⟨x,b,o,q0,q1,q2,q3,q4,q5,q6⟩:=hR.at h2;have es:=dC h1 zzz;obtain⟨n1,n2,n3,n4,n5,n6⟩:=hF.num t ht;obtain⟨a1,a2⟩:=hF.lu t ht;obtain⟨e0,e1,e2,e3,e4,e5⟩:=uQ t x;have o1:=aD H (aH t x) 99 0;have cT:=aP H (aH t x) 99 0;have Da:cellAt (al H (aH t x) 99 0) D 0=some dx:=by rw[xz Aq];exact hD
  have AI:=hR.au o1;have hl:=q2.gu;rw[nb] at hl;obtain⟨l1,l2⟩:=YP hF ht;have aJW:t.name.length<=16:=(hF.nm _ (abT.2 ⟨t,ht,rfl⟩)).2.1;have s1:=λaX aK fP=>Ww (cN:=lx) (bG:=.ptr H.next 0) (bN:=dx) (eI:=zi (ts.length:Nat)) (dK:=zi (i:Nat)) hF a2 a1 (q2.au o1) Da AI aX aK fP t.after 0 t.name (aa7 _) aaY zzz;rw[show (((0:Nat):Int))=0 from rfl] at s1;have EB:((0:Nat)==0)=true:=rfl;rw[EB] at s1;have aC:=Bb t x q1 H;obtain⟨H2,t1,o2⟩:=XF (key:=[32,114,101,116,114,121,61]) (p:=0) zzx n1 zzz (hg.au o1);obtain⟨H3,t2,o3⟩:=XF (key:=[32,119,97,105,116,61]) (p:=10) zzx (show 0<=t.wait by omega) n4 (hg.au (o1.trans o2));obtain⟨H4,t3,o4⟩:=XF (key:=[32,98,97,115,101,61]) (p:=1) zzx (show 0<=t.base by omega) n6 (hg.au ((o1.trans o2).trans o3));have c2:=cT.out o2 zzy;have c3:=c2.out o3 zzy;have c4:=c3.out o4 zzy;have k1:cellAt (al H (aH t x) 99 0) H.next 3=some (zi t.wait):=cT.cellAt e3;have k2:cellAt (al H (aH t x) 99 0) H.next 4=some (zi t.base):=cT.cellAt e4;have k3:cellAt H2 H.next 3=some (zi t.wait):=c2.cellAt e3;have k4:cellAt H2 H.next 4=some (zi t.base):=c2.cellAt e4;have k5:cellAt H3 H.next 4=some (zi t.base):=c3.cellAt e4;have k6:cellAt H4 H.next 5=some (.str t.on):=c4.cellAt e5;have b1:=Kb (key:=[32,114,101,116,114,121,61]) (p:=0) n1 zzz;have b2:=Kb (key:=[32,119,97,105,116,61]) (p:=10) (show 0<=t.wait by omega) n4;have b3:=Kb (key:=[32,98,97,115,101,61]) (p:=1) (show 0<=t.base by omega) n6;simp only[aaP,ach] at b1 b2 b3;have u1:=AR (a:=kK [32,114,101,116,114,121,61] t.cj 0) (b:=kK [32,119,97,105,116,61] t.wait 10) zzz;have u2:=AR (a:=kK [32,114,101,116,114,121,61] t.cj 0++kK [32,119,97,105,116,61] t.wait 10) (b:=kK [32,98,97,115,101,61] t.base 1) (by rw[aal];omega);have u3:=AR (a:=t.name++ju ts true t.after) (b:=kK [32,114,101,116,114,121,61] t.cj 0++kK [32,119,97,105,116,61] t.wait 10++kK [32,98,97,115,101,61] t.base 1) (by simp only[aal] at l1⊢;omega);have gw:Out [] H H4:=((o1.trans o2).trans o3).trans o4;have aIY:=gw.nx;have tC:(ts.take (i+1)).map (gk ts)=(ts.take i).map (gk ts)++[gk ts t]:=by rw[akq,h2];simp
  obtain⟨lx1,H5,p1,p2,p3,p4,p5⟩:=vf (el2:=9) (z:=[(.str [])]) (vs:=[.str (gk ts t)]) (hO.out gw zzy) rfl rfl zzx (by simp[strs];omega);have uw:strs ((ts.take i).map (gk ts))++[.str (gk ts t)]=strs ((ts.take (i+1)).map (gk ts)):=by rw[tC];simp[strs]
  rw[uw] at p2;have o5:Out (ak lx) H H5:=(gw.mono λj hj=>by cases hj).trans p3;have hn5:=p3.nx;have fT:=hR.lt;have hd5:∀j∈ak lx1,j≠D/\j∉nf dx xs/\11<=j:=λj hj=>(p4 j hj).elim (hd j) λz=>⟨zzz,λy=>by have:=fT j y;omega,zzz⟩;obtain⟨wW,H',i1,i2,i3⟩:=amQ hF hn LK r (i+1) H5 lx1 h1 h3 (hg.out o5 λj hj=>(hd j hj).2.2) (by rw[o5.cellAt Aq λz=>(hd D z).1 rfl];exact hD) zzz (hR.out o5 λj hj z=>(hd j z).2.1 hj) p2 hd5;have fI:=p1 _ rfl;refine⟨wW,H',λaX=>?_,i2,o5.then i3 λj hj=>(p4 j hj).imp id λz=>zzz⟩;have hTt:gk ts t=((t.name++ju ts true t.after)++((kK [32,114,101,116,114,121,61] t.cj 0++kK [32,119,97,105,116,61] t.wait 10)++kK [32,98,97,115,101,61] t.base 1))++(if t.on=[] then [] else [32,111,110,61]++t.on):=rfl;generalize kK [32,114,101,116,114,121,61] t.cj 0=T1 at*
  generalize kK [32,119,97,105,116,61] t.wait 10=T2 at*
  generalize kK [32,98,97,115,101,61] t.base 1=T3 at*
  generalize t.name++ju ts true t.after=s0 at*
  generalize gk ts t=sT at*
  by_cases sf:t.on=[]
  ·have d:(t.on==([]:Str))=true:=by rw[sf];rfl
   have ur:s0++(T1++T2++T3)=sT:=by rw[hTt,zz2 sf,acQ]
   rw[ur] at u3;rw[acX];simp(disch:=try exact zqq)only[Tx,aN h1,q3,q5,aC,e0,e1,e2,hl,s1,t1,t2,t3,k1,k2,k3,k4,k5,k6,u1,u2,u3,eG (aia _ _),d,fI,es,i1,ar,aq,Nat.reduceAdd,zz0,Int.reduceBEq,Int.reduceBNe,Int.reduceLT,Int.reduceLE,Int.reduceGT,Int.reduceGE,Int.reduceNeg]
  ·have d:(t.on==([]:Str))=false:=by simp[sf]
   have mG:t.on.length<=16:=(hF.on t ht).elim (λq=>absurd q sf) λq=>q.1;have u4:=AR (a:=[32,111,110,61]) (b:=t.on) (by simp;omega);have u5:=AR (a:=s0++(T1++T2++T3)) (b:=[32,111,110,61]++t.on) (by simp only[aal,aaP,ach] at l1⊢;omega);have ur:s0++(T1++T2++T3)++([32,111,110,61]++t.on)=sT:=by rw[hTt,zz1 sf]
   rw[ur] at u5;rw[acX];simp(disch:=try exact zqq)only[Tx,aN h1,q3,q5,aC,e0,e1,e2,hl,s1,t1,t2,t3,k1,k2,k3,k4,k5,k6,u1,u2,u3,u4,u5,eG (aia _ _),d,fI,es,i1,ar,aq,Nat.reduceAdd,zz0,Int.reduceBEq,Int.reduceBNe,Int.reduceLT,Int.reduceLE,Int.reduceGT,Int.reduceGE,Int.reduceNeg]
theorem anN {dx:AV}{xs:List AV}(hg:Gl H)(hF:Fit ts)(h1:1<=ts.length)(hn:ts.length<=16)(aip:jD ts=0)(hR:RD H dx xs ts):
  ∃H',cK (zf 55) [dv dx] H=some (.str (lE ts),H')/\Out [] H H':=by
 have fX:=hR.row.one;have il:=hR.aE;have o1:=aD H [dx] 72 0;have Ub:=hg.nx;have hc:av (al H [dx] 72 0) H.next 0 1=some [dx]:=Ou rfl zzy;obtain⟨H2,g1,o2⟩:=TA (ts:=ts) zzz (λt ht=>by have:=(hF.lu t ht).2;omega) (hR.au o1);rw[aip] at g1;have iN:=o2.nx;rw[bT] at iN;have hD2:cellAt H2 H.next 0=some dx:=by rw[o2.cellAt (by rw[bT];omega) zzy,BC rfl];rfl
 have mA:=(hR.au o1).au o2;have aO:bx 72 (.agg [dx]) H=some (H.next,al H [dx] 72 0):=iw zzy;obtain⟨lx,H3,l1,l2,l3⟩:=amQ (D:=H.next) hF hn zzz ts 0 H2 .ah (aa7 _) aaY (hg.au (o1.trans o2)) hD2 zzz mA .nil (λj hj=>by cases hj);rw[show (((0:Nat):Int))=0 from rfl] at l1;have l3':Out [] H2 H3:=l3;have uR:∀us:List Tk,(∀t∈us,t∈ts)->dJ (us.map (gk ts))<=600*us.length:=by
  intro us;induction us with
  |nil=>intro _;simp[dJ]|cons u us ih=>
   intro h;have a:=ih λt ht=>h t (.tail _ ht);have b:=(YP hF (h u (.head _))).2;simp only[dJ,aby,al8,aaP] at a⊢;omega
 have hs:=uR ts λt ht=>ht;obtain⟨H4,j1,j2⟩:=axg (sep:=[59]) rfl l2 (by rw[abv];omega) (λs hs=>by
  obtain⟨t,ht,rfl⟩:=abT.1 hs;have:=(YP hF ht).2;omega) zzz (λs hs b hb=>by
  rcases aaD.1 hs with rfl|hs;·rw[No] at hb;subst hb;decide
  ·obtain⟨t,ht,rfl⟩:=abT.1 hs;exact (aaH hF ht b hb).2)
 rw[aiR] at j1;have ot:lE ts=lH 59 (ts.map (gk ts)):=by unfold lE;rw[zz2 aip]
 rw[<-ot] at j1;refine⟨H4,afK ?_,((o1.trans o2).trans l3').trans j2⟩;have d:((0:Int) != 0)=false:=rfl;unfold acp;simp(disch:=try exact zqq)only[aO,hc,g1,d,hD2,il,l1,j1,ar,aq,Nat.reduceAdd,zz0,Int.reduceBEq,Int.reduceBNe,Int.reduceLT,Int.reduceLE,Int.reduceGT,Int.reduceGE,Int.reduceNeg]
end
section
variable {H:Hp}{a:FA}{f:Fm}
theorem P0 {text:Str}(hg:Gl H):∃dx xs H',cK (zf 53) [.str text] H=some (.tuple [dv dx,zi (aG text).2],H')/\RD H' dx xs (aG text).1/\Out [] H H'/\∀j∈nf dx xs,H.next<=j:=by
 by_cases hl:text.length<=4294967296;·exact auL hg hl
 have o1:=aD H [.ah] 72 0;have d:decide ((1024:Int)<(text.length:Int))=true:=zz3 zzz;have aC:st 1 (.ptr H.next 0) (.agg [.ah]) (al H [.ah] 72 0)=some (al H [.ah] 72 0):=gJ rfl rfl rfl zzx rfl;unfold aG;rw[zz2 zzz];refine⟨.ah,[],al H [.ah] 72 0,N6 ?_,RD.nil _,o1,λj hj=>by cases hj⟩;unfold JK;simp(disch:=try exact zqz)only[d,aC,ar,aq,zz0,simprocAttr]
theorem aGM (i:Nat):same (.map i) (.map i)=true:=by simp[same,qP,ait]
def pL:Fm:=⟨0,[],[],[],[]⟩
theorem alj (hn:11<=H.next):∃p a H',cK (zf 18) [] H=some (.ptr p 0,H')/\FL H' p a pL/\Out [] H H'/\(∀j∈own p a,H.next<=j)/\a.ras=[]:=by
 obtain⟨H1,m1,m2,m3,m4⟩:=Uo H;obtain⟨kp,km,H2,k1,k2,k3,k4,k5⟩:=aqD H1;have kN:=k2.lt;have hf:fl [(zi 0),.ah,.lG,.ah,.da] [(2,1,.map H.next),(4,1,.ptr kp 0)]=some (fv ⟨H.next,kp,km,.ah,.ah,.ah,[]⟩ pL):=rfl;have aO:bx 67 (.agg (fv ⟨H.next,kp,km,.ah,.ah,.ah,[]⟩ pL)) H2=some (H2.next,al H2 (fv ⟨H.next,kp,km,.ah,.ah,.ah,[]⟩ pL) 67 0):=iw zzy;have o3:=aD H2 (fv ⟨H.next,kp,km,.ah,.ah,.ah,[]⟩ pL) 67 0;have c3:=aP H2 (fv ⟨H.next,kp,km,.ah,.ah,.ah,[]⟩ pL) 67 0;have l1:=kN kp (.head _);have l2:=kN km (.tail _ (.head _));have n2:=k3.1;have J7:∀j∈own H2.next ⟨H.next,kp,km,.ah,.ah,.ah,[]⟩,H.next<=j:=by intro j hj;simp[own,mQ,ak] at hj;omega
 refine⟨H2.next,⟨H.next,kp,km,.ah,.ah,.ah,[]⟩,al H2 (fv ⟨H.next,kp,km,.ah,.ah,.ah,[]⟩ pL) 67 0,at4 ?_,⟨c3,.nil,⟨[],0,rfl,(m2.out k3 zzy).out o3 zzy⟩,by simp[pL],OL.nil _ _ _,λi r x hr=>by simp at hr,rfl,k2.au o3,?_,λj hj=>?_,λj hj=>by simp[dL] at hj⟩,(m3.trans k3).trans o3,J7,rfl⟩;·unfold akY;simp only[m1,k1,hf,aO,zz0,simprocAttr]
 ·have PF:=k2.d1;simp[mQ,Dj,ak];omega
 ·have:=J7 j hj;omega
theorem FL.JS {p:Nat}(h:FL H p a f):aE a.rx=some (zi (f.aw.length:Nat)):=by have:=h.r.rl.len zzx;rw[aeV,h.len,ajT] at this;exact this
theorem aFd {p:Nat}(h:FL H p a f):cK (zf 29) [.ptr p 0] H=some (zi (f.aw.length:Nat),H):=by have k3:cellAt H p 3=some a.rx:=h.c.cellAt rfl;refine aAc ?_;unfold ahZ;simp(disch:=try exact zqz)only[k3,h.JS,ar,aq,zz0,simprocAttr]
theorem aA9 {p:Nat}(h:FL H p a f)(s t:Str):∃H',cK (zf 45) [.ptr p 0,.str s,.str t] H=some (.tuple [zi ((mY f.ks (s,t)).getD 0),.bool (mY f.ks (s,t)).isSome],H')/\Out [] H H':=by have k4:cellAt H p 4=some (.ptr a.kp 0):=h.c.cellAt rfl;have hf:fl [(.str []),(.str [])] [(0,1,.str s),(1,1,.str t)]=some (bP (s,t)):=rfl;obtain⟨H',g1,g2⟩:=aDN h.k (s,t);refine⟨H',aum ?_,g2⟩;unfold ag9;simp(disch:=try exact zqz)only[k4,hf,g1,ar,aq,zz0,simprocAttr]
noncomputable def tJ (f:Fm)(s:Str):List Tk:=match eE f.aM s with|none=>[]|some t=>(aG t).1
theorem aiu {p:Nat}(h:FL H p a f)(hg:Gl H)(s:Str):
  ∃dx xs H',cK (zf 56) [.ptr p 0,.str s] H=some (.tuple [dv dx,.bool (eE f.aM s).isSome],H')/\RD H' dx xs (tJ f s)/\Out [] H H'/\∀j∈nf dx xs,H.next<=j:=by
 have o1:=aD H [.ah] 72 0;have c1:=aP H [.ah] 72 0;have n1:(al H [.ah] 72 0).next=H.next+1:=rfl;generalize bw:al H [.ah] 72 0=H1 at*
 have h1:=h.au o1;have k2:cellAt H1 p 2=some (.map a.tm):=h1.c.cellAt rfl;have lk:=KG h1.t h1.vI s true;unfold tJ;cases hs:eE f.aM s with
 |none=>
  rw[hs] at lk;obtain⟨H2,t1,t2,t3,t4⟩:=iC (n:=1) (vs:=[.ah]) c1 rfl rfl rfl;have k3:av H2 H.next 0 1=some [.ah]:=t2.av 1 0 zzy;refine⟨.ah,[],H2,aev ?_,RD.nil _,eR o1 t3 (ll (aaO _)),λj hj=>by cases hj⟩;unfold Yk;simp(disch:=try exact zqz)only[bw,k2,lk,Option.getD_none,agw,cond_true,t1,k3,ar,aq,zz0,simprocAttr]
 |some t=>
  rw[hs] at lk;obtain⟨dx,xs,H2,p1,p2,p3,p4⟩:=P0 (text:=t) (hg.au o1);have fX:=p2.row.one;have n2:=p3.nx;have o3:=aD H2 [dx] 72 0;have c3:=aP H2 [dx] 72 0;have aC:st 1 (.ptr H2.next 0) (.agg [dx]) (al H2 [.ah] 72 0)=some (al H2 [dx] 72 0):=gJ (by simp[fX]) rfl rfl zzx rfl;generalize iB:al H2 [dx] 72 0=H3 at*
  have k4:av H3 H2.next 0 1=some [dx]:=c3.av 1 0 zzy;have cR:=(c1.out p3 zzy).out o3 zzy;obtain⟨H4,t1,t2,t3,t4⟩:=iC (n:=1) (vs:=[dx]) cR rfl rfl (by simp[fX]);have k5:av H4 H.next 0 1=some [dx]:=t2.av 1 0 zzy;refine⟨dx,xs,H4,aev ?_,((p2.au o3).out t3 λj hj=>by rw[No];have:=p4 j hj;omega),eR ((o1.trans p3).trans o3) t3 (ll (aaO _)),λj hj=>by have:=p4 j hj;omega⟩;unfold Yk;simp(disch:=try exact zqz)only[bw,k2,lk,af7,agz,cond_true,p1,aC,k4,t1,k5,ar,aq,zz0,simprocAttr]
noncomputable def mH (f:Fm)(s t:Str):Fm×Int:=
 if (eE f.aM s).isSome then (f,5) else if (aG t).2≠0 then (f,(aG t).2) else if f.nms.length=16 then (f,6) else
  ({f with nms:=f.nms++[s],aM:=f.aM++[(s,lE (aG t).1)]},0)
theorem FSt.end {H1 H2:Hp}{p:Nat}{b:FA}(h:Out [] H H1)(k:FSt H1 H2 p a b):FSt H H2 p a b:=(FSt.same h p a).trans k
theorem aez {p:Nat}(h:FL H p a f)(hg:Gl H)(hn:f.nms.length<=16)(s t:Str):
  ∃a' H',cK (zf 40) [.ptr p 0,.str s,.str t] H=some (zi (mH f s t).2,H')/\FL H' p a' (mH f s t).1/\FSt H H' p a a':=by
 have k2:cellAt H p 2=some (.map a.tm):=h.c.cellAt rfl;have lk:=KG h.t h.vI s true;unfold mH;cases hs:eE f.aM s with
 |some t0=>
  rw[hs] at lk;rw[zz2 (show (some t0).isSome=true from rfl)];refine⟨a,H,TV ?_,h,FSt.same (Out.refl _ _) p a⟩;unfold Ms;simp(disch:=try exact zqz)only[k2,lk,af7,agz,cond_true,ar,aq,zz0,simprocAttr]
 |none=>
  rw[hs] at lk;rw[zz1 zzy];obtain⟨dx,xs,H2,p1,p2,p3,p4⟩:=P0 (text:=t) hg;have fX:=p2.row.one;have o3:=aD H2 [dx] 72 0;have c3:=aP H2 [dx] 72 0;have n3:(al H2 [dx] 72 0).next=H2.next+1:=rfl;have aC:st 1 (.ptr H2.next 0) (.agg [dx]) (al H2 [.ah] 72 0)=some (al H2 [dx] 72 0):=gJ (by simp[fX]) rfl rfl zzx rfl;have xg:st 1 (.ptr H2.next 0) (dv dx) (al H2 [.ah] 72 0)=some (al H2 [dx] 72 0):=aC;generalize iB:al H2 [dx] 72 0=H3 at*
  have gh:=p3.trans o3;have h3:=h.au gh;by_cases hp:(aG t).2=0
  ·have dp:((aG t).2 != 0)=false:=by simp[hp]
   rw[zz1 (by simp[hp])];have k1:cellAt H3 p 1=some a.nx:=h3.c.cellAt rfl;have gC:=h3.n.rw.gu;rw[gZ] at gC;by_cases bL:f.nms.length=16
   ·have d16:(((f.nms.length:Nat):Int)==16)=true:=by simp[bL]
    rw[zz2 bL];refine⟨a,H3,TV ?_,h3,FSt.same gh p a⟩;unfold Ms;simp(disch:=try exact zqz)only[k2,lk,Option.getD_none,agw,cond_true,p1,aC,xg,dp,k1,gC,d16,ar,aq,zz0,simprocAttr]
   ·have d16:(((f.nms.length:Nat):Int)==16)=false:=by rw[zz9];omega
    rw[zz1 bL];obtain⟨lS,H4,H5,a1,a2,a3,a4,a5⟩:=h3.aFU s zzz;have G4:=a1 H3.next rfl;have hf:fl [(.str [])] [(0,1,.str s)]=some [.str s]:=rfl;have cF:az H3 [.str s] 9 0=some (H3.next,al H3 [.str s] 9 0):=eh zzy;have aqn:H2.next∉own p a:=λq=>by have:=h.lt _ q;have:=p3.1;omega
    have c5:Cs H5 H2.next [dx] 72 0:=c3.out a4.o aqn;have k5:av H5 H2.next 0 1=some [dx]:=c5.av 1 0 zzy;have ku:=QA hp;have aqT:RD H5 dx xs (aG t).1:=(p2.au o3).out a4.o λj hj q=>by have:=p4 j hj;have:=h.lt _ q;omega
    have Jh:Gl H5:=(hg.au gh).out a4.o h.lo;obtain⟨H6,s1,s2⟩:=anN Jh ku.2.1 ku.2.2.1 ku.2.2.2.1 ku.1 aqT;have h6:=a3.au s2;obtain⟨H7,u1,u2,u3⟩:=h6.aqO (s:=s) (by simpa using hs) (lE (aG t).1);have k6:cellAt H5 p 2=some (.map a.tm):=a3.c.cellAt rfl;have k7:cellAt H6 p 2=some (.map a.tm):=h6.c.cellAt rfl;refine⟨{a with nx:=lS},H7,TV ?_,u2,FSt.end gh (a4.trans ((FSt.same s2 p _).trans u3))⟩;unfold Ms;simp(disch:=try exact zqz)only[k2,lk,Option.getD_none,agw,cond_true,p1,aC,xg,dp,k1,gC,d16,hf,cF,G4,a2,k5,k6,k7,s1,u1,eG (aGM _),ar,aq,zz0,simprocAttr]
  ·have dp:((aG t).2 != 0)=true:=by simp[hp]
   rw[zz2 hp];refine⟨a,H3,TV ?_,h3,FSt.same gh p a⟩;unfold Ms;simp(disch:=try exact zqz)only[k2,lk,Option.getD_none,agw,cond_true,p1,aC,xg,dp,ar,aq,zz0,simprocAttr]
end
end Go.Proofs.YtodfajmihkagnaaGreatDoor.bD
