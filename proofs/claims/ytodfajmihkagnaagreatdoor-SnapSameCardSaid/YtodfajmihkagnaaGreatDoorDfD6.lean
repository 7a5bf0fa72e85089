/- Laws that the proof uses. -/
import Derived.Test.YtodfajmihkagnaaGreatDoorDfM
set_option linter.unusedVariables false
set_option linter.unusedSimpArgs false
set_option maxRecDepth 10000
set_option maxHeartbeats 1000000
namespace Go.Proofs.YtodfajmihkagnaaGreatDoor.bq
open Go Am Am.K lq mU kJ oW
theorem Jc (c:Nat):∀s:Str,dJ (cN c s)+(cN c s).length=s.length+1
 |[]=>rfl|b::s=>by
  have ih:=Jc c s;unfold cN;by_cases h:b=c;·rw[zz2 h];simp only[dJ,abo,List.sum_cons,acj,aau] at*;omega
  ·rw[zz1 h];cases hs:cN c s with
   |nil=>exact absurd hs (Ch c s)|cons x y=>rw[hs] at ih;simp only[dJ,abo,List.sum_cons,aau] at*;omega
abbrev my (s:Str):List Str:=cN 32 s
abbrev rL (s:Str):Str:=(my s).headD []
structure PS (H:Hp)(rx nx:AV)(rws:List AV)(ps:List Str):Prop where
 r:Ow H 46 1 rx rws
 n:Ow H 9 1 nx (strs (ps.map rL))
 len:rws.length=ps.length
 w:∀(i:Nat) (wx:AV) (s:Str),rws[i]?=some wx->ps[i]?=some s->Rw H 1 wx (strs (my s))
 dw:∀wx∈rws,∀j∈ak wx,j∉ak rx/\j∉ak nx
 dn:∀j∈ak rx,j∉ak nx
theorem aea {R:AV}{px:AV}{ps:List Str}{B:Nat}(iS:ps.length<=5000)(kD:∀s∈ps,s.length<=5000):∀(r:List Str) (i:Nat) (H:Hp) (rx nx:AV) (rws:List AV),i<=ps.length->ps.drop i=r->Rw H 1 px (strs ps)->PS H rx nx rws (ps.take i)->(∀j∈ak px,j∉ak rx/\j∉ak nx)->B<=H.next->(∀j,j∈ak rx\/j∈ak nx->B<=j)->(∀wx∈rws,∀j∈ak wx,B<=j)->
  ∃cn gV Sz H' S,(∀jh:K.Fn 3,Zk JN GO cK jh R rx nx px (zi (ps.length:Nat)) (zi (i:Nat)) H=jh R cn gV H')/\PS H' cn gV Sz ps/\Out S H H'/\(∀j∈S,B<=j)/\(∀j,j∈ak cn\/j∈ak gV->B<=j)/\(∀wx∈Sz,∀j∈ak wx,B<=j)
 |[],i,H,rx,nx,rws,hi,h,TT,hP,hd,hB,hr,hw=>by obtain rfl:=drop_nil hi h;rw[ae2 (aaq _)] at hP;refine⟨rx,nx,rws,H,[],λjh=>?_,hP,Out.refl _ _,(λj hj=>by cases hj),hr,hw⟩;rw[akq];simp only[WZ,dA,zz0,simprocAttr]
 |s::r,i,H,rx,nx,rws,hi,h,TT,hP,hd,hB,hr,hw=>by
  obtain⟨h1,h2,h3⟩:=dU h;obtain⟨q,q1,q2⟩:=TT.gh (mP h2) .i64;have es:=dD h1 zzz;have mO:=kD s (aab h2);have tM:ps.take (i+1)=ps.take i++[s]:=by rw[ai6,h2];rfl
  have aX:(ps.take i).length=i:=by rw[ad9];omega
  obtain⟨wx,H1,s1,s2,s3,s4⟩:=Xv (c:=32) zzx (s:=s) zzz H;have lI:=s3.nx;have EZ:=s2.lt;have fS:=hP.r.rw.lt;have jC:=hP.n.rw.lt;obtain⟨SW,H2,p1,p2,p3,p4,p5⟩:=wL (el2:=46) (z:=[.ah]) (vs:=[wx]) (hP.r.out s3 zzy) (by simp[s2.one]) rfl zzx (by rw[hP.len,aX];simp;omega);have jo:=p3.nx;have Ou:Rw H2 1 wx (strs (my s)):=s2.out p3 λj hj z=>by have:=s4 j hj;have:=fS j z;omega
  have hN2:Ow H2 9 1 nx (strs ((ps.take i).map rL)):=(hP.n.out s3 zzy).out p3 λj hj z=>hP.dn j z hj;obtain⟨w0,w1,aen⟩:∃a b,my s=a::b:=by
   cases hs:my s with
   |nil=>exact absurd hs (Ch 32 s)|cons a b=>exact⟨a,b,rfl⟩
  obtain⟨y,y1,y2⟩:=Ou.gh (i:=0) (v:=.str w0) (by rw[aen];rfl) .i64;rw[show (((0:Nat):Int))=0 from rfl] at y1;obtain⟨nx1,H3,n1,n2,n3,n4,n5⟩:=wL (el2:=9) (z:=[.str []]) (vs:=[.str w0]) hN2 rfl rfl zzx (by rw[gQ,abF,aX];simp;omega);have FX:=n3.nx;have hh:rL s=w0:=by show (my s).headD []=w0;rw[aen];rfl
  have aFz:strs ((ps.take i).map rL)++[.str w0]=strs ((ps.take (i+1)).map rL):=by rw[tM,acZ,HK,abo,aiO,hh];rfl
  rw[aFz] at n2;have fX:=p1 _ rfl;have n1':=n1 _ rfl;have It:∀j∈ak SW,j∈ak rx\/H1.next<=j:=p4;have Gk:∀j∈ak nx1,j∈ak nx\/H2.next<=j:=n4;have aDX:∀j∈ak SW,j<H2.next:=p2.rw.lt;have arW:∀wy∈rws,∀j∈ak wy,j<H.next:=λwy oe j hj=>by obtain⟨k,hk⟩:=ab2 oe;have kL:=(aac.1 hk).1;rw[hP.len] at kL;exact (hP.w k wy _ hk (aai kL)).lt j hj
  have o2:Out (ak rx) H H2:=(s3.mono λj hj=>by cases hj).trans p3;have o3:Out (ak rx++ak nx) H H3:=(o2.mono λj hj=>aaG _ hj).trans (n3.mono λj hj=>aaw _ hj);have Fs:PS H3 SW nx1 (rws++[wx]) (ps.take (i+1)):=by
   refine⟨p2.out n3 λj hj z=>?_,n2,by rw[aah,hP.len,tM,aah];rfl,λk wy t hk ht=>?_,λwy oe j hj=>?_,λj hj z=>?_⟩
   ·rcases It j hj with y|y;·exact hP.dn j y z
    ·have:=jC j z;omega
   ·rw[tM] at ht;by_cases hki:k<i;·rw[abi (by rw[hP.len,aX];exact hki)] at hk;rw[abi (by rw[aX];exact hki)] at ht;have hm:=aab hk;exact (hP.w k wy t hk ht).out o3 λj hj z=>(aaQ.1 z).elim (hP.dw wy hm j hj).1 (hP.dw wy hm j hj).2
    ·have iw:=(aac.1 ht).1;rw[aah,aX] at iw;obtain rfl:k=i:=by simp at iw;omega
     rw[abm (by rw[hP.len,aX];exact aaq _),hP.len,aX,ajA] at hk;rw[abm (by rw[aX];exact aaq _),aX,ajA] at ht;cases hk;cases ht;exact Ou.out n3 λj hj z=>by have:=s4 j hj;have:=jC j z;omega
   ·rcases aaQ.1 oe with oe|oe;·have hjo:=arW wy oe j hj;exact⟨λz=>(It j z).elim (hP.dw wy oe j hj).1 λy=>zzz,λz=>(Gk j z).elim (hP.dw wy oe j hj).2 λy=>zzz⟩
    ·rw[No] at oe;subst oe;have:=s4 j hj;have:=EZ j hj;exact⟨λz=>(It j z).elim (λy=>by have:=fS j y;omega) λy=>zzz,λz=>(Gk j z).elim (λy=>by have:=jC j y;omega) λy=>zzz⟩
   ·rcases Gk j z with y|y
    ·rcases It j hj with x|x;·exact hP.dn j x y
     ·have:=jC j y;omega
    ·have:=aDX j hj;omega
  have air:=TT.lt;obtain⟨cn,gV,Sz,H',S,i1,i2,i3,i4,i5,i6⟩:=aea (R:=R) (B:=B) iS kD r (i+1) H3 SW nx1 (rws++[wx]) h1 h3 (TT.out o3 λj hj z=>(aaQ.1 z).elim (hd j hj).1 (hd j hj).2) Fs (λj hj=>⟨λz=>(It j z).elim (hd j hj).1 λy=>by have:=air j hj;omega,λz=>(Gk j z).elim (hd j hj).2 λy=>by have:=air j hj;omega⟩) zzz (λj hj=>by
   rcases hj with hj|hj;·exact (It j hj).elim (λz=>hr j (.inl z)) λz=>zzz
   ·exact (Gk j hj).elim (λz=>hr j (.inr z)) λz=>zzz) (λwy oe j hj=>by
   rcases aaQ.1 oe with oe|oe;·exact hw wy oe j hj
   ·rw[No] at oe;subst oe;have:=s4 j hj;omega)
  refine⟨cn,gV,Sz,H',(ak rx++ak nx)++S,λjh=>?_,i2,(o3.mono λj hj=>aaG _ hj).trans (i3.mono λj hj=>aaw _ hj),λj hj=>?_,i5,i6⟩;·have aIq:=s2.one;rw[akq];simp(disch:=try exact zqz)only[WZ,aQ h1,q1,q2,s1,fX,y1,y2,n1',es,i1,ar,aq,zz0,simprocAttr]
  ·rcases aaQ.1 hj with hj|hj;·exact hr j (aaQ.1 hj)
   ·exact i4 j hj
noncomputable def qG (names:List Str):List Str->Option (List Tk)
 |[]=>some []|s::r=>match yx names (my s) with
  |none=>none|some t=>(qG names r).map λl=>t::l
noncomputable def aF (text:Str):List Tk×Int:=
 if 1024<text.length then ([],14) else match qG ((cN 59 text).map rL) (cN 59 text) with
  |none=>([],2)|some ts=>if jH ts=0 then (ts,0) else ([],jH ts)
theorem ane {names:List Str}:∀{r:List Str} {t t':Tk} {ks:List Str},oD names r t ks=some t'->t'.after.length<=t.after.length+dJ r+r.length
 |[],t,t',ks,h=>by cases h;simp[dJ]
 |s::r,t,t',ks,h=>by
  unfold oD at h;split at h;·cases h
  ·split at h;·cases h
   ·split at h;·cases h
    ·rename_i t1 h1;have h2:=aln h1;have h3:=ane h;have:=(afU 61 s).2;have hs:dJ (s::r)=s.length+dJ r:=by simp[dJ]
     rw[hs];simp only[aau];omega
theorem ajM {names:List Str}{s:Str}{t:Tk}(h:yx names (my s)=some t):t.after.length<=s.length+1:=by
 unfold yx at h;have h1:=ane h;have h2:dJ (my s)+(my s).length=s.length+1:=Jc 32 s;have h3:dJ (my s).tail+(my s).tail.length<=dJ (my s)+(my s).length:=by
  cases my s with
  |nil=>simp|cons a b=>simp[dJ];omega
 simp only[acj] at h1;omega
theorem ag0 {names:List Str}:∀{r:List Str} {ts:List Tk},qG names r=some ts->ts.length=r.length/\∀B,(∀s∈r,s.length<=B)->∀t∈ts,t.after.length<=B+1
 |[],ts,h=>by cases h;exact⟨rfl,λB _ t ht=>by cases ht⟩
 |s::r,ts,h=>by
  unfold qG at h;split at h;·cases h
  ·rename_i t ht;rw[aag] at h;obtain⟨l,h1,rfl⟩:=h;obtain⟨i1,i2⟩:=ag0 h1;refine⟨by simp[i1],λB hB u hu=>?_⟩;rcases aal.1 hu with rfl|hu;·have:=ajM ht;have:=hB s (.head _);omega
   ·exact i2 B (λs hs=>hB s (.tail _ hs)) u hu
theorem RD.nil (H:Hp):RD H .ah [] []:=⟨rfl,RL.nil H 6,λi x t h=>by simp at h⟩
theorem akX {nx rx:AV}{rws:List AV}{ps:List Str}{R D:Nat}(iS:ps.length<=2000)(kD:∀s∈ps,s.length<=1100)(hRD:R≠D):∀(r:List Str) (i:Nat) (H:Hp) (dx:AV) (xs:List AV) (ts:List Tk),i<=ps.length->ps.drop i=r->Gl H->11<=D->(∀j∈ak dx,11<=j)->PS H rx nx rws ps->Cs H R [.ah] 72 0->Cs H D [dx] 72 0->OL H 99 6 dx (List.zipWith aJ ts xs)->RD H dx xs ts->ts.length=i->(∀x∈xs,∀j∈ak x,j∉ak dx/\j≠D)->D∉ak dx->(∀j,j∈ak rx\/j∈ak nx\/(∃wx∈rws,j∈ak wx)\/j=R->j∉ak dx/\j≠D)->
  ∃H' S,Out S H H'/\(∀j∈S,j=D\/j=R\/j∈ak dx\/H.next<=j)/\((∃ay aU l,qG (ps.map rL) r=some l/\(∀xN:K.Fn 2,S0 JN GO cK xN (.ptr R 0) nx (.ptr D 0) rx (zi (ps.length:Nat)) (zi (i:Nat)) H=xN (.ptr R 0) (.ptr D 0) H')/\Cs H' D [ay] 72 0/\Cs H' R [.ah] 72 0/\RD H' ay aU (ts++l)/\∀j∈mZ ay aU,j∈mZ dx xs\/H.next<=j)\/
   (qG (ps.map rL) r=none/\∀xN:K.Fn 2,S0 JN GO cK xN (.ptr R 0) nx (.ptr D 0) rx (zi (ps.length:Nat)) (zi (i:Nat)) H=some (.tuple [.agg [.ah],zi 2],H')))
 |[],i,H,dx,xs,ts,hi,h,hg,Ly,Xu,hP,hR,hD,hO,hT,Hd,NG,YX,hd=>by obtain rfl:=drop_nil hi h;refine⟨H,[],Out.refl _ _,(λj hj=>by cases hj),.inl ⟨dx,xs,[],rfl,λxN=>?_,hD,hR,by simpa using hT,λj hj=>.inl hj⟩⟩;rw[R1];simp only[KU,dA,zz0,simprocAttr]
 |s::r,i,H,dx,xs,ts,hi,h,hg,Ly,Xu,hP,hR,hD,hO,hT,Hd,NG,YX,hd=>by
  obtain⟨h1,h2,h3⟩:=dU h;have es:=dD h1 zzz;have mO:=kD s (aab h2);have Fb:rws[i]?=some (rws[i]'(by rw[hP.len];exact h1)):=aai _;generalize BT:rws[i]'(by rw[hP.len];exact h1)=wx at Fb;have hwm:=aab Fb;have hw:=hP.w i wx s Fb h2;obtain⟨q,q1,q2⟩:=hP.r.rw.gh Fb .i64;have u6:=Jc 32 s;have EZ:(my s).length<=5000:=by have:(my s).length=(cN 32 s).length:=rfl;omega
  have ID:∀a∈my s,a.length<=80000:=λa ha=>by have:=(MH ha).2.2;omega
  obtain⟨H1,t1,t2⟩:=aqx (names:=ps.map rL) hg (by rw[abF];omega) (Ch 32 s) EZ ID (by show dJ (cN 32 s)+(cN 32 s).length<=_;omega) hP.n.rw hw;have lI:=t1.nx;have Tv:=hg.nx;unfold qG;rcases t2 with⟨t,x,u1,u2,u3,u4⟩|⟨u1,v,u2,u3,u4⟩
  ·rw[u1];simp only;have lH:=u3.one;have aJd:=ajM u1;have zu:st 6 (.ptr H1.next 0) (.agg (aJ t x)) (al H1 [(.str []),.ah,(zi 0),(zi 0),(zi 0),(.str [])] 99 0)=some (al H1 (aJ t x) 99 0):=AX t x lH H1;have o2:=aD H1 (aJ t x) 99 0;have bG:Out [] H (al H1 (aJ t x) 99 0):=t1.trans o2;have aIA:=hD.1;have Fp:cellAt (al H1 (aJ t x) 99 0) D 0=some dx:=(hD.out bG zzy).cellAt rfl;obtain⟨Mf,H2,p1,p2,p3,p4,p5⟩:=(hO.out bG zzy).push (el2:=99) (z:=[(.str []),.ah,(zi 0),(zi 0),(zi 0),(.str [])]) (vs:=aJ t x) (by simp[aJ,JX,iV,lH]) rfl zzx (by rw[aey,hT.len,ajN];omega);have jo:=p3.nx;rw[bS] at jo;have hDD:=(hD.out bG zzy).out p3 YX;obtain⟨H3,w1,w2,w3,w4⟩:=eV hDD zzx (o:=0) zzy (v:=Mf) p5;have BW:List.zipWith aJ ts xs++[aJ t x]=List.zipWith aJ (ts++[t]) (xs++[x]):=by rw[List.zipWith_append (by rw[hT.len])];rfl
   rw[BW] at p2;have BK:∀j∈ak Mf,j∈ak dx\/H1.next+1<=j:=λj hj=>(p4 j hj).imp id λz=>by rw[bS] at z;exact z
   have ir:=hO.1.rw.lt;have anD:D∉ak Mf:=λz=>(BK D z).elim YX λy=>zzz;have o3:Out (D::ak dx) H H3:=((bG.mono λj hj=>by cases hj).trans (p3.mono λj hj=>.tail _ hj)).trans (w3.mono λj hj=>by rw[No] at hj;subst hj;exact .head _);have FX:=o3.nx;have Et:=u3.lt;have Ll:=p2.out w3 λj hj=>by rw[No];intro e;subst e;exact anD hj
   have ax9:∀y∈xs,∀j∈ak y,j<H.next:=λy hy j hj=>hT.lt j (aaw _ (ae8.2 ⟨y,hy,hj⟩));have zF:RD H3 Mf (xs++[x]) (ts++[t]):=by
    refine⟨by simp[hT.len],Ll.rl,λk y t' hy tO=>?_⟩;by_cases hk:k<xs.length;·rw[abi hk] at hy;rw[abi (by rw[<-hT.len];exact hk)] at tO;have hym:=aab hy;exact (hT.lh k y t' hy tO).out o3 λj hj=>by rw[aal,not_or];exact⟨(NG y hym j hj).2,(NG y hym j hj).1⟩
    ·have iw:=(aac.1 hy).1;rw[aah] at iw;obtain rfl:k=xs.length:=by simp at iw;omega
     rw[abm (aaq _),ajA] at hy;rw[abm (by rw[hT.len];exact aaq _),hT.len,ajA] at tO;cases hy;cases tO;refine ((u3.au o2).out p3 λj hj z=>?_).out w3 λj hj=>?_;·have:=u4 j hj;have:=ir j z;omega
     ·rw[No];have:=u4 j hj;omega
   have hPo:∀{A B:Hp} {S:List Nat},PS A rx nx rws ps->Out S A B->(∀j,j∈ak rx\/j∈ak nx\/(∃wx∈rws,j∈ak wx)->j∉S)->PS B rx nx rws ps:=λhp ho hs=>
    ⟨hp.r.out ho λj hj=>hs j (.inl hj),hp.n.out ho λj hj=>hs j (.inr (.inl hj)),hp.len,λk wy s' hk zL=>(hp.w k wy s' hk zL).out ho λj hj=>hs j (.inr (.inr ⟨wy,aab hk,hj⟩)),hp.dw,hp.dn⟩
   have vC:∀j,j∈ak rx\/j∈ak nx\/(∃wx∈rws,j∈ak wx)\/j=R->j∉D::ak dx:=λj hj=>by rw[aal,not_or];exact⟨(hd j hj).2,(hd j hj).1⟩
   have Of:∀j,j∈ak rx\/j∈ak nx\/(∃wx∈rws,j∈ak wx)\/j=R->j<H.next:=λj hj=>by
    rcases hj with hj|hj|⟨wy,oe,hj⟩|rfl;·exact hP.r.rw.lt j hj
    ·exact hP.n.rw.lt j hj
    ·obtain⟨k,hk⟩:=ab2 oe;have kL:=(aac.1 hk).1;rw[hP.len] at kL;exact (hP.w k wy _ hk (aai kL)).lt j hj
    ·exact hR.1
   obtain⟨H',S,i1,i2,i3⟩:=akX iS kD hRD r (i+1) H3 Mf (xs++[x]) (ts++[t]) h1 h3 (hg.out o3 λj hj=>by
    rcases aal.1 hj with rfl|hj;·exact Ly
    ·exact Xu j hj) Ly (λj hj=>(BK j hj).elim (Xu j) λz=>zzz) (hPo hP o3 λj hj=>vC j (hj.imp id λz=>z.imp id .inl)) (hR.out o3 (vC R (.inr (.inr (.inr rfl))))) w2 Ll zF (by simp[Hd]) (λy hy j hj=>by
     rcases aaQ.1 hy with hy|hy;·have:=ax9 y hy j hj;exact⟨λz=>(BK j z).elim (NG y hy j hj).1 λw=>zzz,(NG y hy j hj).2⟩
     ·rw[No] at hy;subst hy;have:=u4 j hj;have:=Et j hj;exact⟨λz=>(BK j z).elim (λw=>by have:=ir j w;omega) λw=>zzz,zzz⟩) anD (λj hj=>⟨λz=>(BK j z).elim (hd j hj).1 λw=>by have:=Of j hj;omega,(hd j hj).2⟩)
   refine⟨H',(D::ak dx)++S,(o3.mono λj hj=>aaG _ hj).trans (i1.mono λj hj=>aaw _ hj),λj hj=>?_,?_⟩
   ·rcases aaQ.1 hj with hj|hj
    ·rcases aal.1 hj with rfl|hj;·exact .inl rfl
     ·exact .inr (.inr (.inl hj))
    ·rcases i2 j hj with z|z|z|z;·exact .inl z
     ·exact .inr (.inl z)
     ·exact .inr (.inr ((BK j z).imp id λy=>zzz))
     ·exact .inr (.inr (.inr zzz))
   ·have ala:aA (al H1 (aJ t x) 99 0) (aJ t x) 99 0=some (H1.next+1,al (al H1 (aJ t x) 99 0) (aJ t x) 99 0):=eA (by rw[y9];omega);have Js:fl [(.str []),.ah,(zi 0),(zi 0),(zi 0),(.str [])] [(0,6,.agg (aJ t x))]=some (aJ t x):=rfl;have aoX:=ahG t x;have ahh:=y9 t x;have fX:=p1 _ rfl;rw[bS] at fX;rcases i3 with⟨ay,aU,l,k1,k2,k3,k4,k5,k6⟩|⟨k1,k2⟩
    ·refine .inl ⟨ay,aU,t::l,by rw[k1];rfl,λxN=>?_,k3,k4,by simpa[abC] using k5,λj hj=>(k6 j hj).elim (λz=>?_) λz=>.inr zzz⟩;·rw[R1];simp(disch:=try exact zqz)only[KU,aQ h1,q1,q2,u2,zu,Fp,ahh,aoX,Js,ala,fX,w1,es,k2,ar,aq,zz0,simprocAttr]
     ·rcases aaQ.1 z with z|z;·exact (BK j z).imp (λy=>aaG _ y) λy=>zzz
      ·rw[al4,aaQ] at z;rcases z with z|z;·exact .inl (aaw _ z)
       ·have:j∈ak x:=by simpa using z
        exact .inr (u4 j this)
    ·refine .inr ⟨by rw[k1];rfl,λxN=>?_⟩;rw[R1];simp(disch:=try exact zqz)only[KU,aQ h1,q1,q2,u2,zu,Fp,ahh,aoX,Js,ala,fX,w1,es,k2,ar,aq,zz0,simprocAttr]
  ·rw[u1];have zu:st 6 (.ptr H1.next 0) (.agg v) (al H1 [(.str []),.ah,(zi 0),(zi 0),(zi 0),(.str [])] 99 0)=some (al H1 v 99 0):=gy u4 u3.symm rfl zzx u3.symm;have o2:=aD H1 v 99 0;have iK:=hR.out (t1.trans o2) zzy;obtain⟨H3,w1,w2,w3,w4⟩:=iE (n:=1) (vs:=[AV.ah]) iK rfl rfl rfl;have tZ:av H3 R 0 1=some [.ah]:=w2.av 1 0 zzy;refine⟨H3,[R],((t1.trans o2).mono λj hj=>by cases hj).trans w3,λj hj=>by rw[No] at hj;exact .inr (.inl hj),.inr ⟨rfl,λxN=>?_⟩⟩;rw[R1];simp(disch:=try exact zqz)only[KU,aQ h1,q1,q2,u2,zu,w1,tZ,ar,aq,zz0,simprocAttr]
theorem atZ {text:Str}{H:Hp}(hg:Gl H)(hl:text.length<=4294967296):∃dx xs H',cK (zf 53) [.str text] H=some (.tuple [dv dx,zi (aF text).2],H')/\RD H' dx xs (aF text).1/\Out [] H H'/\∀j∈mZ dx xs,H.next<=j:=by
 have Tv:=hg.nx;have o1:=aD H [.ah] 72 0;have c1:=aP H [.ah] 72 0;unfold aF;by_cases Fe:1024<text.length;·rw[zz2 Fe];have d:decide ((1024:Int)<(text.length:Int))=true:=zz3 zzz;refine⟨.ah,[],al H [.ah] 72 0,NR ?_,RD.nil _,o1,λj hj=>by cases hj⟩;have aC:st 1 (.ptr H.next 0) (.agg [.ah]) (al H [.ah] 72 0)=some (al H [.ah] 72 0):=gy rfl rfl rfl zzx rfl;unfold JA;simp(disch:=try exact zqz)only[d,aC,ar,aq,zz0,simprocAttr]
 rw[zz1 Fe];have d:decide ((1024:Int)<(text.length:Int))=false:=zz4 zzz;obtain⟨px,H1,s1,s2,s3,s4⟩:=Xv (c:=59) zzx (s:=text) zzz (al H [.ah] 72 0);have lI:=s3.nx;rw[bS] at lI;have u6:=Jc 59 text;have iS:=s2.gX;rw[gQ] at iS;have kD:∀s∈cN 59 text,s.length<=1100:=λs hs=>by have:=(MH hs).2.2;omega
 have c2:=c1.out s3 zzy;obtain⟨rx,nx,rws,H2,S2,i1,i2,i3,i4,i5,i6⟩:=aea (R:=.ptr H.next 0) (B:=H1.next) (ps:=cN 59 text) zzz (λs hs=>by have:=kD s hs;omega) (cN 59 text) 0 H1 .ah .ah [] (abg _) aaM s2 ⟨.nil,.nil,by rw[akd];rfl,λi wx s h=>by simp at h,(λwx h=>by cases h),λj h=>by cases h⟩ (λj hj=>⟨by simp[ak],by simp[ak]⟩) (aaq _) (λj hj=>by rcases hj with hj|hj<;>cases hj) (λwx h=>by cases h);rw[show (((0:Nat):Int))=0 from rfl] at i1;have jo:=i3.nx;have qK:Out [] H H2:=(o1.trans s3).then i3 λj hj=>by have:=i4 j hj;exact .inr zzz
 have c3:=c2.out i3 λz=>by have:=i4 _ z;omega
 have o3:=aD H2 [.ah] 72 0;have cD:=aP H2 [.ah] 72 0;have Fs:PS (al H2 [.ah] 72 0) rx nx rws (cN 59 text):=⟨i2.r.out o3 zzy,i2.n.out o3 zzy,i2.len,λk wx s h1 h2=>(i2.w k wx s h1 h2).au o3,i2.dw,i2.dn⟩;have Of:∀j,j∈ak rx\/j∈ak nx\/(∃wx∈rws,j∈ak wx)->j<H2.next:=λj hj=>by
  rcases hj with hj|hj|⟨wy,oe,hj⟩;·exact i2.r.rw.lt j hj
  ·exact i2.n.rw.lt j hj
  ·obtain⟨k,hk⟩:=ab2 oe;have kL:=(aac.1 hk).1;rw[i2.len] at kL;exact (i2.w k wy _ hk (aai kL)).lt j hj
 obtain⟨H3,S3,k1,k2,k3⟩:=akX (R:=H.next) (D:=H2.next) zzz kD zzz (cN 59 text) 0 (al H2 [.ah] 72 0) .ah [] [] (abg _) aaM (hg.au (qK.trans o3)) zzz (λj hj=>by cases hj) Fs (c3.out o3 zzy) cD (OL.nil _ _ _) (RD.nil _) rfl (λx hx=>by cases hx) (by simp[ak]) (λj hj=>⟨by simp[ak],by
  rcases hj with hj|hj|hj|rfl;·have:=Of j (.inl hj);omega
  ·have:=Of j (.inr (.inl hj));omega
  ·have:=Of j (.inr (.inr hj));omega
  ·omega⟩)
 rw[show (((0:Nat):Int))=0 from rfl] at k3;have Uz:∀j∈S3,H.next<=j:=λj hj=>by
  rcases k2 j hj with z|z|z|z;·omega
  ·omega
  ·cases z
  ·rw[bS] at z;omega
 have Ax:Out [] H H3:=(qK.trans o3).then k1 λj hj=>.inr (Uz j hj);have fS:=i2.r.rw.gX;rw[i2.len] at fS;have gB:aG rx=some (zi ((cN 59 text).length:Nat)):=fS;have FX:=k1.nx;rw[bS] at FX;rcases k3 with⟨dx,xs,ts,m1,m2,m3,m4,m5,m6⟩|⟨m1,m2⟩
 ·rw[afV] at m5;rw[m1];simp only;obtain⟨tl1,tl2⟩:=ag0 m1;have tt:∀j∈mZ dx xs,H2.next+1<=j:=λj hj=>(m6 j hj).elim (λz=>by cases z) λz=>by rw[bS] at z;exact z
  obtain⟨H4,g1,g2⟩:=S6 (ts:=ts) (by rw[tl1];omega) (λt ht=>by have:=tl2 1100 kD t ht;omega) m5;have hn4:=g2.nx;have Fp:av H3 H2.next 0 1=some [dx]:=m3.av 1 0 zzy;have hD4:av H4 H2.next 0 1=some [dx]:=(m3.out g2 zzy).av 1 0 zzy;have cR:=m4.out g2 zzy;have BK:=m5.row.one;by_cases h0:jH ts=0
  ·rw[zz2 h0];have d0:((jH ts) != 0)=false:=by rw[h0];rfl
   obtain⟨H5,w1,w2,w3,w4⟩:=iE (n:=1) (vs:=[dx]) cR rfl rfl (by simp[BK]);have DD:av H5 H.next 0 1=some [dx]:=w2.av 1 0 zzy;refine⟨dx,xs,H5,NR ?_,(m5.au g2).out w3 λj hj=>by rw[No];have:=tt j hj;omega,(Ax.trans g2).then w3 λj hj=>by rw[No] at hj;exact .inr zzz,λj hj=>by have:=tt j hj;omega⟩;unfold JA;simp(disch:=try exact zqz)only[d,s1,iS,i1,gB,m2,Fp,hD4,g1,d0,w1,DD,ar,aq,zz0,simprocAttr]
  ·rw[zz1 h0];have d0:((jH ts) != 0)=true:=by simp[h0]
   obtain⟨H5,w1,w2,w3,w4⟩:=iE (n:=1) (vs:=[AV.ah]) cR rfl rfl rfl;have DD:av H5 H.next 0 1=some [.ah]:=w2.av 1 0 zzy;refine⟨.ah,[],H5,NR ?_,RD.nil _,(Ax.trans g2).then w3 λj hj=>by rw[No] at hj;exact .inr zzz,λj hj=>by cases hj⟩;unfold JA;simp(disch:=try exact zqz)only[d,s1,iS,i1,gB,m2,Fp,hD4,g1,d0,w1,DD,ar,aq,zz0,simprocAttr]
 ·rw[m1];simp only;refine⟨.ah,[],H3,NR ?_,RD.nil _,Ax,λj hj=>by cases hj⟩;unfold JA;simp(disch:=try exact zqz)only[d,s1,iS,i1,gB,m2,ar,aq,zz0,simprocAttr]
theorem IA {text:Str}(h:(aF text).2=0):jH (aF text).1=0/\1<=(aF text).1.length/\(aF text).1.length<=16/\yI (aF text).1/\DW (aF text).1.length (kW 0 (aF text).1)/\(∀t∈(aF text).1,Bq t=false/\uL t=false):=by
 have key:∀ts:List Tk,jH ts=0->1<=ts.length/\ts.length<=16/\yI ts/\DW ts.length (kW 0 ts)/\∀t∈ts,Bq t=false/\uL t=false:=by
  intro ts h;unfold jH at h;split at h;·cases h
  ·rename_i h1;split at h;·cases h
   ·rename_i h2;split at h;·cases h
    ·split at h;·cases h
     ·rename_i h3;split at h;·cases h
      ·rename_i h4;split at h;·rename_i h5;have h1:=ai8.1 h1;refine⟨h1.1,h1.2,P5 (by simpa using h4),h5,λt ht=>?_⟩;obtain⟨i,hi⟩:=ab2 ht;have aX:=(aac.1 hi).1;rw[ahP,aky] at h2 h3;have a:=h2 i (anm.2 aX);have b:=h3 i (anm.2 aX);unfold p1 at a;unfold p3 at b;rw[hi] at a b;exact⟨by simpa using a,by simpa using b⟩
       ·cases h
 have hg:jH (aF text).1=0:=by
  unfold aF at h⊢;by_cases hb:1024<text.length;·rw[zz2 hb] at h;cases h
  ·rw[zz1 hb] at h⊢;cases lP:qG ((cN 59 text).map rL) (cN 59 text) with
   |none=>rw[lP] at h;cases h
   |some ts=>
    rw[lP] at h;simp only at h⊢;by_cases h0:jH ts=0;·rw[zz2 h0];exact h0
    ·rw[zz1 h0] at h;exact absurd h h0
 exact⟨hg,key _ hg⟩
end Go.Proofs.YtodfajmihkagnaaGreatDoor.bq
namespace Go.Proofs.YtodfajmihkagnaaGreatDoor.Am.K
open Go
theorem amf:∀(vs c r:List AV) (k:Nat),k+vs.length<=c.length->kN (c++r) k vs=kN c k vs++r
 |[],c,r,k,h=>rfl|v::vs,c,r,k,h=>by simp only[aau] at h;show kN ((c++r).set k v) (k+1) vs=kN (c.set k v) (k+1) vs++r;rw[List.set_append_left _ _ zzz];exact amf vs _ _ _ (by rw[adi];omega)
theorem amh:∀(vs a r:List AV) (k:Nat),kN (a++r) (a.length+k) vs=a++kN r k vs
 |[],a,r,k=>rfl|v::vs,a,r,k=>by show kN ((a++r).set (a.length+k) v) (a.length+k+1) vs=a++kN (r.set k v) (k+1) vs;rw[amY _ _ zzz,aeE,ak3];exact amh vs _ _ _
theorem agQ {es:Nat}{vs:List AV}{k:Nat}(hk:k+vs.length<=es):∀{L:List (List AV)} {i:Nat} {c:List AV},(∀c∈L,c.length=es)->L[i]?=some c->(L.set i (kN c k vs)).flatten=kN L.flatten (i*es+k) vs
 |[],i,c,_,h=>by simp at h
 |a::L,0,c,hl,h=>by simp only[adp,acM] at h;subst h;have:=hl a (.head _);rw[ahD,adn];show kN a k vs++L.flatten=kN (a++L.flatten) k vs;rw[amf _ _ _ _ zzz]
 |a::L,i+1,c,hl,h=>by simp only[adb] at h;have ha:=hl a (.head _);show a++(L.set i (kN c k vs)).flatten=kN (a++L.flatten) ((i+1)*es+k) vs;rw[agQ hk (λd hd=>hl d (.tail _ hd)) h,afB,ajR,show i*es+es+k=a.length+(i*es+k) by omega,amh]
section
variable {H:Hp}{L:List (List AV)}{c vs:List AV}{el es i k o:Nat}{x:AV}
theorem OL.Ys (h:OL H el es x L){b:Nat}(hi:L[i]?=some c)(qg:∀kd,ia es x (.int kd i)=some (.ptr b o))(hv:∀v∈vs,aW v=true)(hk:k+vs.length<=es)(dY:0<es):
  ∃H',setCells H b (o+k) vs=some H'/\OL H' el es x (L.set i (kN c k vs))/\Out (ak x) H H'/\H'.next=H.next:=by
 obtain⟨ho,hl⟩:=h;have aX:=(aac.1 hi).1;have nN:=CY hl;have hfs:=agQ hk hl hi;have hc:=hl c (aab hi);have KH:i*es+es<=L.flatten.length:=by rw[nN];have:=adS es (show i+1<=L.length by omega);rw[afB,ajR] at this;exact this
 have Xp:∀d∈L.set i (kN c k vs),d.length=es:=λd hd=>by
  rcases adT hd with hd|rfl;·exact hl d hd
  ·rw[Oi];exact hc
 generalize hF:L.flatten=F at*
 cases ho with
 |nil=>simp at KH;omega|emp=>simp at KH;omega|@mk i0 off n cap ex _ ct lo CP fl jN hg hf iL lD jG hn jI hs h1 he=>
  have jv:i<n:=by rw[nN] at hn;exact Nat.eq_of_mul_eq_mul_right dY hn▸aX
  have e:=qg .i64;rw[DL jv] at e;injection e with e;injection e with eb eo;subst eb;subst eo;have hcn:n*es<=cap*es:=adS _ jG;obtain⟨H',c',q1,q2,q3,q4,q5⟩:=RF vs H i0 (off+i*es+k) ct lo CP el fl hg hf zzz zzz (λm hm=>by have:=hs (i*es+k+m) zzz;rw[show off+i*es+k+m=off+(i*es+k+m) by omega];exact this) hv;refine⟨H',q1,⟨?_,Xp⟩,⟨zzz,λj hj Oy=>q4 j λe=>Oy (by subst e;rw[pH he];exact .head _)⟩,q2⟩;rw[hfs];refine .mk zzz q3 hf iL lD jG (by rw[Oi];exact hn) (λm w hm=>?_) (λm hm=>?_) (λw hw=>?_) he
  ·rw[q5];rw[FC _ _ _ _ zzz] at hm;split at hm;·rw[zz2 zzz,show off+m-(off+i*es+k)=m-(i*es+k) by omega];exact hm
   ·rw[zz1 zzz];exact jI m w hm
  ·rw[q5];split;·rename_i hb;rw[aai zzz];rfl
   ·exact hs m hm
  ·obtain⟨m,hm⟩:=ab2 hw;rw[FC _ _ _ _ zzz] at hm;split at hm;·exact hv w (aab hm)
   ·exact h1 w (aab hm)
theorem OL.eV (h:OL H el es x L){b:Nat}{v:AV}(hi:L[i]?=some c)(qg:∀kd,ia es x (.int kd i)=some (.ptr b o))(hv:aW v=true)(hk:k<es):
  ∃H',st 1 (.ptr b (o+k)) v H=some H'/\OL H' el es x (L.set i (c.set k v))/\Out (ak x) H H'/\H'.next=H.next:=by
 obtain⟨H',h1,h2⟩:=h.Ys (k:=k) (vs:=[v]) hi qg (λu hu=>by rw[No] at hu;subst hu;exact hv) (by simp only[aau,acj];omega) zzz;refine⟨H',?_,h2⟩;unfold st;simp only[PI hv];exact h1
theorem OL.eS (h:OL H el es x L){b:Nat}(hi:i<L.length)(qg:∀kd,ia es x (.int kd i)=some (.ptr b o))(hv:vs.all aW=true)(hn:vs.length=es)(dY:0<es):
  ∃H',st es (.ptr b o) (.agg vs) H=some H'/\OL H' el es x (L.set i vs)/\Out (ak x) H H'/\H'.next=H.next:=by
 have jN:L[i]?=some L[i]:=aai hi;obtain⟨H',h1,h2⟩:=h.Ys (k:=0) (vs:=vs) jN qg (adP.1 hv) zzz dY;rw[aiB vs _ (by rw[hn,h.2 _ (aab jN)])] at h2;refine⟨H',?_,h2⟩;unfold st;have:Nat.beq es vs.length=true:=by rw[hn];exact aiw _
 simp only[HA,this,cond_true];exact h1
end
end Go.Proofs.YtodfajmihkagnaaGreatDoor.Am.K
namespace Go.Proofs.YtodfajmihkagnaaGreatDoor.bq
open Go Am Am.K lq mU kJ oW
section
section
section
structure RT where
 ph:Int
 tr:Int
 fF:Int
 iT:Str
 deriving DecidableEq
def dQ (t:RT):List AV:=[zi t.ph,zi t.tr,zi t.fF,.str t.iT]
def eG (l:List RT):List (List AV):=l.map dQ
structure Rn where
 ts:List Tk
 st:Int
 rs:List RT
 sg:List Str
abbrev rv (dx:AV)(st:Int)(tx sx:AV):List AV:=[dx,zi st,tx,sx]
structure RV (H:Hp)(dx:AV)(xs:List AV)(tx sx:AV)(R:Rn):Prop where
 d:RD H dx xs R.ts
 t:RL H 4 tx (eG R.rs)
 s:Rw H 1 sx (strs R.sg)
def pj (dx:AV)(xs:List AV)(tx sx:AV):List Nat:=mZ dx xs++(ak tx++ak sx)
section
variable {H H':Hp}{dx sx tx:AV}{i:Nat}{task:Int}{xs:List AV}
theorem RV.out {R:Rn}{S:List Nat}(h:RV H dx xs tx sx R)(k:Out S H H')(hs:∀j∈pj dx xs tx sx,j∉S):RV H' dx xs tx sx R:=
 ⟨h.d.out k λj hj=>hs j (aaG _ hj),h.t.out k λj hj=>hs j (aaw _ (aaG _ hj)),h.s.out k λj hj=>hs j (aaw _ (aaw _ hj))⟩
theorem RV.au {R:Rn}(h:RV H dx xs tx sx R)(k:Out [] H H'):RV H' dx xs tx sx R:=h.out k λ_ _ q=>by cases q
theorem RV.lt {R:Rn}(h:RV H dx xs tx sx R):∀j∈pj dx xs tx sx,j<H.next:=λj hj=>by
 rcases aaQ.1 hj with hj|hj;·exact h.d.lt j hj
 ·rcases aaQ.1 hj with hj|hj;·exact h.t.1.lt j hj
  ·exact h.s.lt j hj
theorem AA (l:List RT):(eG l).length=l.length:=by simp[eG]
theorem sU {l:List RT}{t:RT}(h:l[i]?=some t):(eG l)[i]?=some (dQ t):=by simp[eG,h]
theorem RV.ang {R:Rn}(h:RV H dx xs tx sx R):aG tx=some (zi (R.rs.length:Nat)):=by have:=h.t.len zzx;rw[AA] at this;exact this
theorem OX (t:RT):(dQ t).length=4:=rfl
theorem Es (t:RT):(dQ t)[0]?=some (zi t.ph)/\(dQ t)[1]?=some (zi t.tr)/\(dQ t)[2]?=some (zi t.fF)/\(dQ t)[3]?=some (.str t.iT):=⟨rfl,rfl,rfl,rfl⟩
theorem aiG (t:RT)(H:Hp):st 4 (.ptr H.next 0) (.agg (dQ t)) (al H [(zi 0),(zi 0),(zi 0),(.str [])] 132 0)=some (al H (dQ t) 132 0):=
 gy rfl rfl rfl zzx rfl
def rH (R:Rn)(task:Int):Int:=if task<0\/(R.rs.length:Int)<=task then 1 else if R.st=0 then 0 else 9
theorem ahB {R:Rn}(h:RV H dx xs tx sx R)(task:Int):
  cK (zf 108) [.agg (rv dx R.st tx sx),zi task] H=some (zi (rH R task),al H (rv dx R.st tx sx) 75 0):=by
 refine avQ ?_;have hl:=h.ang;have c:=aP H (rv dx R.st tx sx) 75 0;have aO:bx 75 (.agg (rv dx R.st tx sx)) H=some (H.next,al H (rv dx R.st tx sx) 75 0):=iz zzy;have k1:cellAt (al H (rv dx R.st tx sx) 75 0) H.next 1=some (zi R.st):=c.cellAt rfl;have k2:cellAt (al H (rv dx R.st tx sx) 75 0) H.next 2=some tx:=c.cellAt rfl;generalize al H (rv dx R.st tx sx) 75 0=H1 at*
 unfold ajQ rH;by_cases h1:task<0;·have d1:decide (task<0)=true:=zz3 h1;rw[zz2 (.inl h1)];simp(disch:=try exact zqz)only[aO,d1,ar,aq,zz0,simprocAttr]
 ·have d1:decide (task<0)=false:=zz4 h1;by_cases h2:(R.rs.length:Int)<=task;·have d2:decide ((R.rs.length:Int)<=task)=true:=zz3 h2;rw[zz2 (.inr h2)];simp(disch:=try exact zqz)only[aO,d1,d2,k1,k2,hl,ar,aq,zz0,simprocAttr]
  ·have d2:decide ((R.rs.length:Int)<=task)=false:=zz4 h2;rw[zz1 (λq=>q.elim h1 h2)];by_cases h3:R.st=0
   ·have d3:(R.st != 0)=false:=by simp[h3]
    rw[zz2 h3];simp(disch:=try exact zqz)only[aO,d1,d2,d3,k1,k2,hl,ar,aq,zz0,simprocAttr]
   ·have d3:(R.st != 0)=true:=by simp[h3]
    rw[zz1 h3];simp(disch:=try exact zqz)only[aO,d1,d2,d3,k1,k2,hl,ar,aq,zz0,simprocAttr]
theorem L5 {R:Rn}(h:rH R task=0):∃(i:Nat) (t:RT),task=i/\R.rs[i]?=some t/\R.st=0:=by
 unfold rH at h;split at h;·cases h
 ·rename_i h1;rw[not_or] at h1;split at h;·rename_i h2;exact⟨task.toNat,R.rs[task.toNat]' zzz,zzz,aai _,h2⟩
  ·cases h
def pJ (R:Rn)(task bC:Int):Int:=if rH R task=0 then (match R.rs[task.toNat]? with|some t=>if t.ph=2/\t.tr=bC then 0 else 8|none=>0) else rH R task
theorem ajC {R:Rn}(h:RV H dx xs tx sx R)(task bC:Int):
  ∃H',cK (zf 109) [.agg (rv dx R.st tx sx),zi task,zi bC] H=some (zi (pJ R task bC),H')/\Out [] H H':=by
 have c:=aP H (rv dx R.st tx sx) 75 0;have o1:=aD H (rv dx R.st tx sx) 75 0;have aO:bx 75 (.agg (rv dx R.st tx sx)) H=some (H.next,al H (rv dx R.st tx sx) 75 0):=iz zzy;have k0:av (al H (rv dx R.st tx sx) 75 0) H.next 0 4=some (rv dx R.st tx sx):=c.av 4 0 zzy;have hm:=ahB (h.au o1) task;have o2:=aD (al H (rv dx R.st tx sx) 75 0) (rv dx R.st tx sx) 75 0;have c2:=c.out o2 zzy;have bG:=o1.trans o2;generalize al H (rv dx R.st tx sx) 75 0=H1 at*
 generalize al H1 (rv dx R.st tx sx) 75 0=H2 at*
 have k2:cellAt H2 H.next 2=some tx:=c2.cellAt rfl;by_cases h0:rH R task=0
 ·obtain⟨i,t,rfl,ht,aC⟩:=L5 h0;have d0:(rH R (i:Int) != 0)=false:=by simp[h0]
  obtain⟨b,o,q1,q2,q3,q4,q5⟩:=(h.t.au bG).at zzx (sU ht);have DF:=aiG t H2;obtain⟨e0,e1,e2,e3⟩:=Es t;have o3:=aD H2 (dQ t) 132 0;refine⟨al H2 (dQ t) 132 0,ac7 ?_,bG.trans o3⟩;unfold VG pJ;rw[zz2 h0,abO,ht];simp only;by_cases p1:t.ph=2
  ·have d1:(t.ph != 2)=false:=by simp[p1]
   by_cases p2:t.tr=bC
   ·have d2:(t.tr != bC)=false:=by simp[p2]
    rw[zz2 ⟨p1,p2⟩];simp(disch:=try exact zqz)only[aO,k0,hm,d0,k2,q1,q4,DF,e0,e1,d1,d2,ar,aq,zz0,simprocAttr]
   ·have d2:(t.tr != bC)=true:=by simp[p2]
    rw[zz1 (λq=>p2 q.2)];simp(disch:=try exact zqz)only[aO,k0,hm,d0,k2,q1,q4,DF,e0,e1,d1,d2,ar,aq,zz0,simprocAttr]
  ·have d1:(t.ph != 2)=true:=by simp[p1]
   rw[zz1 (λq=>p1 q.1)];simp(disch:=try exact zqz)only[aO,k0,hm,d0,k2,q1,q4,DF,e0,e1,d1,ar,aq,zz0,simprocAttr]
 ·have d0:(rH R task != 0)=true:=by simp[h0]
  refine⟨H2,ac7 ?_,bG⟩;unfold VG pJ;rw[zz1 h0];simp(disch:=try exact zqz)only[aO,k0,hm,d0,ar,aq,zz0,simprocAttr]
theorem TB {R:Rn}{bC:Int}(h:pJ R task bC=0):∃(i:Nat) (t:RT),task=i/\R.rs[i]?=some t/\R.st=0/\t.ph=2/\t.tr=bC:=by
 unfold pJ at h;split at h
 ·rename_i h1;obtain⟨i,t,rfl,ht,aC⟩:=L5 h1;rw[abO,ht] at h;simp only at h;split at h;·rename_i h2;exact⟨i,t,rfl,ht,aC,h2.1,h2.2⟩
  ·cases h
 ·rename_i h1;exact absurd h h1
end
end
section
variable {H:Hp}{dx x:AV}{es:Nat}{l xs:List AV}{ts:List Tk}
theorem ami (h:Rw H es x l):sY x x=true:=by cases h<;>simp[sY]
theorem lG (h:Rw H es x l):same x x=true:=by cases h<;>simp[same,sY]
theorem afu (k:IntKind)(a:Int):same (.int k a) (.int k a)=true:=by cases k<;>simp[same,sY]
theorem aGC {t:Tk}(hx:aW x=true):∀v∈aJ t x,aW v=true:=by intro v hv;simp only[aJ,aal,List.not_mem_nil,or_false] at hv;rcases hv with rfl|rfl|rfl|rfl|rfl|rfl<;>first|rfl|exact hx
theorem RD.xt (h:RD H dx xs ts):∀v∈(List.zipWith aJ ts xs).flatten,aW v=true:=by
 intro v hv;obtain⟨c,hc,hv⟩:=ah8.1 hv;obtain⟨i,hi⟩:=ab2 hc;rw[adf] at hi;cases ht:ts[i]? with
 |none=>rw[ht] at hi;simp at hi|some t=>
  cases hx:xs[i]? with
  |none=>rw[ht,hx] at hi;simp at hi|some x=>
   rw[ht,hx] at hi;simp only[acM] at hi;subst hi;exact aGC (h.lh i x t hx ht).one v hv
theorem aEN (l:List RT):∀v∈(eG l).flatten,aW v=true:=by intro v hv;obtain⟨c,hc,hv⟩:=ah8.1 hv;obtain⟨t,_,rfl⟩:=abN.1 hc;simp only[dQ,aal,List.not_mem_nil,or_false] at hv;rcases hv with rfl|rfl|rfl|rfl<;>rfl
theorem ZT:∀c∈List.zipWith aJ ts xs,c.length=6:=by
 intro c hc;obtain⟨i,hi⟩:=ab2 hc;rw[adf] at hi;cases ht:ts[i]? with
 |none=>rw[ht] at hi;simp at hi|some t=>
  cases hx:xs[i]? with
  |none=>rw[ht,hx] at hi;simp at hi|some x=>
   rw[ht,hx] at hi;simp only[acM] at hi;subst hi;rfl
theorem TQ (l:List RT):∀c∈eG l,c.length=4:=λc hc=>by obtain⟨t,_,rfl⟩:=abN.1 hc;rfl
theorem aqJ {i:Nat}{t:Tk}{y:AV}(ht:ts[i]?=some t)(hx:xs[i]?=some x):(List.zipWith aJ ts xs).set i ((aJ t x).set 1 y)=List.zipWith aJ ts (xs.set i y):=by
 apply aj8;intro k;rw[agZ,adf,adf,agZ];have aX:=(aac.1 ht).1;have dC:=(aac.1 hx).1;by_cases e:i=k;·subst e;rw[zz2 rfl,zz2 rfl,zz2 dC,zz2 (by rw[aey];omega),ht];rfl
 ·rw[zz1 e,zz1 e]
theorem anZ {ts:List Tk}{dx cj:AV}{P B:Nat}(hn:ts.length<=1000)(dd:∀t∈ts,t.after.length<=1000):∀(r:List Tk) (i:Nat) (H:Hp) (xk:List AV),i<=ts.length->ts.drop i=r->RD H dx xk ts->OL H 99 6 dx (List.zipWith aJ ts xk)->cellAt H P 0=some dx->P<H.next->B<=H.next->P∉ak dx->(∀x∈xk,∀j∈ak x,j∉ak dx)->(∀(m:Nat) (x:AV),m<i->xk[m]?=some x->∀j∈ak x,B<=j)->
  ∃PZ H',(∀rW:K.Fn 2,abR JN GO cK rW (.ptr P 0) cj dx (zi (ts.length:Nat)) (zi (i:Nat)) H=rW (.ptr P 0) cj H')/\RD H' dx PZ ts/\(∀x∈PZ,∀j∈ak x,B<=j/\j∉ak dx)/\Out (ak dx) H H'
 |[],i,H,xk,hi,h,hR,hO,hP,YB,hB,EE,hd,hb=>by
  obtain rfl:=drop_nil hi h;refine⟨xk,H,λrW=>?_,hR,λx hx j hj=>⟨?_,hd x hx j hj⟩,Out.refl _ _⟩;·rw[aj6];simp only[abv,dA,zz0,simprocAttr]
  ·obtain⟨m,hm⟩:=ab2 hx;have:=(aac.1 hm).1;rw[hR.len] at this;exact hb m x this hm j hj
 |t::r,i,H,xk,hi,h,hR,hO,hP,YB,hB,EE,hd,hb=>by
  obtain⟨h1,h2,h3⟩:=dU h;have ht:=aab h2;obtain⟨x,b,o,q0,q1,q2,q3,q4,q5,q6⟩:=hR.at h2;have es:=dD h1 zzz;have o1:=aD H (aJ t x) 99 0;have aC:=AX t x q1 H;obtain⟨e0,e1,e2,e3,e4,e5⟩:=uZ t x;obtain⟨y,H2,y1,y2,y3,y4,y5⟩:=aFZ (q2.au o1) (λv hv=>by obtain⟨z,_,rfl⟩:=abN.1 hv;rfl) (by rw[mX];have:=dd t ht;omega);have o2:=o1.trans y3;have jo:=o2.nx;have ir:=hR.row.1.lt;have HE:=hO.out o2 zzy;have hzi:(List.zipWith aJ ts xk)[i]?=some (aJ t x):=by rw[adf,h2,q0]
  obtain⟨H3,w1,w2,w3,w4⟩:=HE.eV (k:=1) hzi q3 y2.lg zzx;rw[aqJ h2 q0] at w2;have hP1:cellAt (al H (aJ t x) 99 0) P 0=some dx:=by rw[xE YB];exact hP
  have hP2:cellAt H2 P 0=some dx:=by rw[o2.cellAt YB zzy];exact hP
  have Fs:cellAt H3 P 0=some dx:=by rw[w3.cellAt zzz EE];exact hP2
  have aH4:=(aac.1 q0).1;have hyd:∀j∈ak y,j∉ak dx:=λj hj z=>by have:=y4 j hj;rw[bS] at this;have:=ir j z;omega
  have hyb:∀j∈ak y,B<=j:=λj hj=>by have:=y4 j hj;rw[bS] at this;omega
  have tZ:RD H3 dx (xk.set i y) ts:=by
   refine⟨by rw[adi];exact hR.len,w2.rl,λm z u hz hu=>?_⟩;rw[agZ] at hz;split at hz;·rename_i e;subst e;cases hz;rw[h2] at hu;cases hu;exact y2.rw.out w3 hyd
   ·exact ((hR.lh m z u hz hu).au o2).out w3 (hd z (aab hz))
  obtain⟨PZ,H',i1,i2,i3,i4⟩:=anZ (cj:=cj) (P:=P) (B:=B) hn dd r (i+1) H3 (xk.set i y) h1 h3 tZ w2 Fs zzz zzz EE (λz hz=>by
   rcases adT hz with hz|rfl;·exact hd z hz
   ·exact hyd) (λm z hm hz=>by
   rw[agZ] at hz;split at hz;·cases hz;exact hyb
   ·exact hb m z zzz hz)
  refine⟨PZ,H',λrW=>?_,i2,i3,((o2.mono λj hj=>by cases hj).trans w3).trans i4⟩;rw[aj6];simp(disch:=try exact zqz)only[abv,aQ h1,q3,q5,aC,hP1,e1,y1,w1,hP2,eP (lG hR.row.1),es,i1,ar,aq,zz0,simprocAttr]
structure RO (H:Hp)(dx:AV)(xs:List AV)(tx sx:AV)(R:Rn):Prop where
 v:RV H dx xs tx sx R
 t:OL H 132 4 tx (eG R.rs)
 s:Ow H 9 1 sx (strs R.sg)
 dt:∀j∈ak tx,j∉mZ dx xs/\j∉ak sx
 ds:∀j∈ak sx,j∉mZ dx xs
structure Sm (R:Rn):Prop where
 n:R.ts.length<=1000
 a:∀t∈R.ts,t.after.length<=1000
 r:R.rs.length<=1000
 s:R.sg.length<=1000
theorem DV {tx sx:AV}{R:Rn}(h:RV H dx xs tx sx R)(hs:Sm R):
  ∃ay aU ax az H',cK (zf 97) [.agg (rv dx R.st tx sx)] H=some (.agg (rv ay R.st ax az),H')/\RO H' ay aU ax az R/\Out [] H H'/\∀j∈pj ay aU ax az,H.next<=j:=by
 have aO:bx 75 (.agg (rv dx R.st tx sx)) H=some (H.next,al H (rv dx R.st tx sx) 75 0):=iz zzy;have o1:=aD H (rv dx R.st tx sx) 75 0;have c1:=aP H (rv dx R.st tx sx) 75 0;have n1:(al H (rv dx R.st tx sx) 75 0).next=H.next+1:=rfl;generalize al H (rv dx R.st tx sx) 75 0=H1 at*
 have cB:aA H1 [.ah,(zi 0),.ah,.ah] 75 0=some (H.next+1,al H1 [.ah,(zi 0),.ah,.ah] 75 0):=by rw[<-n1];exact eA zzy
 have o2:=aD H1 [.ah,(zi 0),.ah,.ah] 75 0;have c2:=aP H1 [.ah,(zi 0),.ah,.ah] 75 0;have n2:(al H1 [.ah,(zi 0),.ah,.ah] 75 0).next=H.next+2:=by rw[bS,n1]
 rw[n1] at c2;generalize bF:al H1 [.ah,(zi 0),.ah,.ah] 75 0=H2 at*
 have bG:=o1.trans o2;have lW:=c1.out o2 zzy;have vY:=h.au bG;have k1:cellAt H2 H.next 0=some dx:=lW.cellAt rfl;have iK:=vY.d;have nN:(List.zipWith aJ R.ts xs).flatten.length<=6000:=by rw[CY ZT,aey];have:=hs.n;have:min R.ts.length xs.length<=1000:=afi (Nat.min_le_left _ _) hs.n;omega
 obtain⟨ay,H3,a1,a2,a3,a4,a5⟩:=avK iK.row.1 iK.xt zzz;have rG:=lW.out a3 zzy;have eU:aW ay=true:=a2.lg;obtain⟨H4,b1,b2,b3,b4⟩:=eV rG zzx (o:=0) zzy (v:=ay) eU;have vM:(rv dx R.st tx sx).set 0 ay=rv ay R.st tx sx:=rfl;rw[vM] at b2;have n3:=a3.nx;have EE:H.next∉ak ay:=λz=>by have:=a4 _ z;omega
 have IC:cellAt H4 H.next 0=some ay:=b2.cellAt rfl;have tZ:=iK.au a3;have aIF:=iK.lt;have ayN:=h.d.lt;have mV:RD H4 ay xs R.ts:=⟨tZ.len,(show OL H3 99 6 ay (List.zipWith aJ R.ts xs) from⟨a2,ZT⟩).rl.out b3 (λj hj=>by rw[No];intro e;subst e;exact EE hj),λm z u hz hu=>(tZ.lh m z u hz hu).out b3 λj hj=>by rw[No];have:=(h.d.lh m z u hz hu).lt j hj;omega⟩;have UP:OL H4 99 6 ay (List.zipWith aJ R.ts xs):=(show OL H3 99 6 ay (List.zipWith aJ R.ts xs) from⟨a2,ZT⟩).out b3 (λj hj=>by rw[No];intro e;subst e;exact EE hj);have ir:=mV.aG;obtain⟨aU,H5,l1,l2,l3,l4⟩:=anZ (cj:=.ptr (H.next+1) 0) (P:=H.next) (B:=H.next+2) hs.n hs.a R.ts 0 H4 xs (abg _) aaM mV UP IC b2.1 zzz EE (λx hx j hj z=>by obtain⟨m,hm⟩:=ab2 hx;have yd:=(aac.1 hm).1;rw[h.d.len] at yd;have:=(h.d.lh m x _ hm (aai yd)).lt j hj;have:=a4 j z;omega) (λm x hm=>zzz);rw[show (((0:Nat):Int))=0 from rfl] at l1;have cP5:=b2.out l4 EE;have n5:=l4.nx;have aJk:∀{S:List Nat} {A B:Hp},Out S A B->True:=λ_=>trivial;have o25:Out (H.next::ak ay) H2 H5:=((a3.mono (S':=H.next::ak ay) λj hj=>by cases hj).trans (b3.mono λj hj=>by rw[No] at hj;subst hj;exact .head _)).trans (l4.mono λj hj=>.tail _ hj);have ak0:∀j,j<H.next->j∉H.next::ak ay:=λj hj z=>by
  rcases aal.1 z with e|z;·omega
  ·have:=a4 j z;omega
 have ht5:RL H5 4 tx (eG R.rs):=vY.t.out o25 λj hj=>ak0 j (h.t.1.lt j hj);have hs5:Rw H5 1 sx (strs R.sg):=vY.s.out o25 λj hj=>ak0 j (h.s.lt j hj);have k2:cellAt H5 H.next 2=some tx:=cP5.cellAt rfl;obtain⟨ax,H6,t1,t2,t3,t4,t5⟩:=aFg ht5.1 (aEN R.rs) (by rw[CY (TQ _),AA];have:=hs.r;omega);have cP6:=cP5.out t3 zzy;obtain⟨H7,u1,u2,u3,u4⟩:=eV cP6 zzx (o:=2) zzy (v:=ax) t2.lg;have om:(rv ay R.st tx sx).set 2 ax=rv ay R.st ax sx:=rfl;rw[om] at u2;have n6:=t3.nx;have k3:cellAt H7 H.next 3=some sx:=u2.cellAt rfl;have MO:∀j,H.next+2<=j\/j<H.next->j∉[H.next]:=λj hj=>by rw[No];omega
 have hs7:Rw H7 1 sx (strs R.sg):=(hs5.au t3).out u3 λj hj=>MO j (.inr (h.s.lt j hj));obtain⟨az,H8,v1,v2,v3,v4,v5⟩:=Yq hs7 (λv hv=>by obtain⟨z,_,rfl⟩:=abN.1 hv;rfl) (by rw[gQ];have:=hs.s;omega);have cP8:=u2.out v3 zzy;obtain⟨H9,w1,w2,w3,w4⟩:=eV cP8 zzx (o:=3) zzy (v:=az) v2.lg;have Cn:(rv ay R.st ax sx).set 3 az=rv ay R.st ax az:=rfl;rw[Cn] at w2;have n8:=v3.nx;have k4:av H9 H.next 0 4=some (rv ay R.st ax az):=w2.av 4 0 zzy;have hQd:H.next+1∉ak ay:=λz=>by have:=a4 _ z;omega
 have hQ:∀S:List Nat,S=[H.next]->H.next+1∉S:=λS e=>by rw[e,No];omega
 have cQ9:=(((((((c2.out a3 zzy).out b3 (hQ _ rfl)).out l4 hQd).out t3 zzy).out u3 (hQ _ rfl)).out v3 zzy).out w3 (hQ _ rfl));obtain⟨mz,z1,z2,z3,z4⟩:=iE (n:=4) (vs:=rv ay R.st ax az) cQ9 rfl rfl (by simp[eU,t2.lg,v2.lg,iV]);have k5:av mz (H.next+1) 0 4=some (rv ay R.st ax az):=z2.av 4 0 zzy;have GN:OL H6 132 4 ax (eG R.rs):=⟨t2,TQ _⟩;have n7:=u3.nx;have n9:=w3.nx;have po:∀j,H.next+2<=j->j∉[H.next]/\j∉[H.next+1]:=λj hj=>by rw[No,No];omega
 have gw:∀j∈mZ ay aU,H.next+2<=j/\j<H5.next:=λj hj=>⟨by
  rcases aaQ.1 hj with hj|hj;·have:=a4 j hj;omega
  ·obtain⟨x,hx,hj⟩:=ae8.1 hj;exact (l3 x hx j hj).1,l2.lt j hj⟩
 have tO:∀j∈ak ax,H5.next<=j/\j<H6.next:=λj hj=>⟨t4 j hj,t2.rw.lt j hj⟩;have zL:∀j∈ak az,H7.next<=j:=v4;have n45:H.next+2<=H5.next:=zzz;have aiL:OL mz 132 4 ax (eG R.rs):=(((GN.out u3 λj hj=>(po j (by have:=tO j hj;omega)).1).out v3 zzy).out w3 λj hj=>(po j (by have:=tO j hj;omega)).1).out z3 λj hj=>(po j (by have:=tO j hj;omega)).2;have aeX:Ow mz 9 1 az (strs R.sg):=(v2.out w3 λj hj=>(po j (by have:=zL j hj;omega)).1).out z3 λj hj=>(po j (by have:=zL j hj;omega)).2;have arl:RD mz ay aU R.ts:=((((l2.au t3).out u3 λj hj=>(po j (gw j hj).1).1).au v3).out w3 λj hj=>(po j (gw j hj).1).1).out z3 λj hj=>(po j (gw j hj).1).2;have key:∀{S:List Nat} {A B:Hp},Out [] H A->Out S A B->(∀j∈S,H.next<=j)->Out [] H B:=λh k hS=>h.then k λj hj=>.inr (hS j hj);have one:∀(m:Nat),H.next<=m->∀j∈[m],H.next<=j:=λm hm j hj=>by rw[No] at hj;omega
 have out:Out [] H mz:=key (key (key (key (key (key (key (key bG a3 (λj hj=>by cases hj)) b3 (one _ (aaq _))) l4 λj hj=>by have:=a4 j hj;omega) t3 (λj hj=>by cases hj)) u3 (one _ (aaq _))) v3 (λj hj=>by cases hj)) w3 (one _ (aaq _))) z3 (one _ (agD _));refine⟨ay,aU,ax,az,mz,aDj ?_,⟨⟨arl,aiL.rl,aeX.rw⟩,aiL,aeX,λj hj=>⟨λz=>?_,λz=>?_⟩,λj hj z=>?_⟩,out,λj hj=>?_⟩;·unfold ae4;simp(disch:=try exact zqz)only[aO,cB,n1,bF,k1,a1,b1,IC,ir,l1,k2,t1,u1,k3,v1,w1,k4,z1,k5,ar,aq,zz0,simprocAttr]
 ·have:=tO j hj;have:=gw j z;omega
 ·have:=tO j hj;have:=zL j z;omega
 ·have:=zL j hj;have:=gw j z;omega
 ·rcases aaQ.1 hj with hj|hj;·have:=gw j hj;omega
  ·rcases aaQ.1 hj with hj|hj;·have:=tO j hj;omega
   ·have:=zL j hj;omega
end
def BL (rs:List RT)(a:Int):Int:=((rs[a.toNat]?).map (·.ph)).getD 0
def cC (rs:List RT)(t:Tk):Bool:=t.after.any (λa=>BL rs a != 3)
def Ep (rs:List RT)(sg:List Str)(t:Tk)(r:RT):Bool:=(r.ph==0)&&(!(cC rs t)&&((t.on==[])||sg.any (λa=>t.on==a)))
def lB (rs:List RT)(sg:List Str)(t:Tk)(r:RT):RT:=if Ep rs sg t r then {r with ph:=1} else r
def jx (R:Rn):Rn:={R with rs:=List.zipWith (lB R.rs R.sg) R.ts R.rs,st:=if R.rs.all (λr=>r.ph==3) then 1 else R.st}
theorem XB (rs:List RT)(sg:List Str)(t:Tk)(r:RT):((lB rs sg t r).ph==3)=(r.ph==3):=by
 unfold lB;split;·rename_i h;unfold Ep at h;rw[aam,zz6] at h;rw[h.1];rfl
 ·rfl
theorem Vd {α:Type}{p q:α->Bool}:∀{l:List α},(∀a∈l,p a=q a)->l.any p=l.any q
 |[],_=>rfl|a::l,h=>by rw[List.any_cons,List.any_cons,h a (.head _),Vd λb hb=>h b (.tail _ hb)]
theorem aCQ {H:Hp}{p G:Nat}{tx:AV}{rk:List RT}(hG:cellAt H G 0=some (.ptr p 0))(hC:cellAt H p 2=some tx)(hT:RL H 4 tx (eG rk)){a:Int}(h0:0<=a)(h1:a<rk.length):
  cK (.func (.func 144) [] [.ptr G 0]) [zi a] H=some (.bool (BL rk a != 3),H):=by
 obtain⟨m,rfl⟩:∃m:Nat,a=m:=⟨a.toNat,zzz⟩;have hm:rk[m]?=some (rk[m]' zzz):=aai _;obtain⟨b,o,q1,q2,q3,q4,q5⟩:=hT.at zzx (sU hm);have e0:=q5 0 _ (Es _).1;rw[aeA] at e0;have hp:BL rk (m:Int)=(rk[m]' zzz).ph:=by unfold BL;rw[abO,hm];rfl
 refine azw ?_;unfold aks;rw[hp];simp(disch:=try exact zqz)only[hG,hC,q1,e0,ar,aq,zz0,simprocAttr]
theorem PF (l:List RT)(i:Nat)(t:RT):(eG l).set i (dQ t)=eG (l.set i t):=by simp[eG,List.map_set]
theorem al1 {ts:List Tk}{dx tx sx:AV}{xs:List AV}{st:Int}{p G:Nat}{sg:List Str}{fI:List RT}(hn:ts.length<=1000)(dd:∀t∈ts,t.after.length<=1000)(rM:sg.length<=1000)(Hi:fI.length=ts.length)(ha:∀t∈ts,∀a∈t.after,0<=a/\a<(ts.length:Int))(BQ:p∉ak tx)(hGt:G∉ak tx)(hd:∀j∈ak tx,j∉mZ dx xs/\j∉ak sx):
  ∀(r:List Tk) (i:Nat) (H:Hp) (rk:List RT) (all:Bool),i<=ts.length->ts.drop i=r->Cs H p (rv dx st tx sx) 75 0->cellAt H G 0=some (.ptr p 0)->G<H.next->RD H dx xs ts->OL H 132 4 tx (eG rk)->Rw H 1 sx (strs sg)->rk.length=ts.length->(∀k,i<=k->rk[k]?=fI[k]?)->(∀k,k<i->rk[k]?=(List.zipWith (lB fI sg) ts fI)[k]?)->
  ∃H',(∀bA:K.Fn 2,CE JN GO cK bA (.ptr G 0) (.bool all) dx (zi (ts.length:Nat)) (zi (i:Nat)) H=bA (.ptr G 0) (.bool (all&&(fI.drop i).all (λr=>r.ph==3))) H')/\Cs H' p (rv dx st tx sx) 75 0/\cellAt H' G 0=some (.ptr p 0)/\OL H' 132 4 tx (eG (List.zipWith (lB fI sg) ts fI))/\Out (ak tx) H H'
 |[],i,H,rk,all,hi,h,hC,hG,Yz,hR,hO,hS,hl,h1,h2=>by
  obtain rfl:=drop_nil hi h;have HV:rk=List.zipWith (lB fI sg) ts fI:=by
   apply aj8;intro k;by_cases hk:k<ts.length;·exact h2 k hk
   ·rw[agM zzz,agM (by rw[aey];omega)]
  refine⟨H,λbA=>?_,hC,hG,by rw[<-HV];exact hO,Out.refl _ _⟩;rw[ZF,aiA zzz,List.all_nil,Bool.and_true];simp only[GR,dA,zz0,simprocAttr]
 |t::r,i,H,rk,all,hi,h,hC,hG,Yz,hR,hO,hS,hl,h1,h2=>by
  obtain⟨g1,g2,g3⟩:=dU h;have ht:=aab g2;obtain⟨x,b,o,q0,q1,q2,q3,q4,q5,q6⟩:=hR.at g2;have es:=dD g1 zzz;have aC:=AX t x q1 H;obtain⟨e0,e1,e2,e3,e4,e5⟩:=uZ t x;have o1:=aD H (aJ t x) 99 0;have cT:=aP H (aJ t x) 99 0;have BC:∀H':Hp,Out [] H H'->cellAt H' G 0=some (.ptr p 0)/\cellAt H' p 2=some tx/\cellAt H' p 3=some sx:=λH' k=>⟨by rw[k.cellAt Yz zzy];exact hG,(hC.out k zzy).cellAt rfl,(hC.out k zzy).cellAt rfl⟩;obtain⟨H2,f1,f2⟩:=aEl (fv:=.func (.func 144) [] [.ptr G 0]) (p:=λa=>BL rk a != 3) (q2.au o1) (by have:=dd t ht;omega) (λH' k a hm=>by obtain⟨c1,c2,c3⟩:=BC H' (o1.trans k);exact⟨H',aCQ c1 c2 (hO.rl.au (o1.trans k)) (ha t ht a hm).1 (by rw[hl];exact (ha t ht a hm).2),Out.refl _ _⟩);have o2:=o1.trans f2;have jo:=o2.nx;obtain⟨c1,c2,c3⟩:=BC H2 o2;have cT2:=cT.out f2 zzy;have k5:cellAt H2 H.next 5=some (.str t.on):=cT2.cellAt e5;have kx:cellAt (al H (aJ t x) 99 0) H.next 1=some x:=cT.cellAt e1;have aX:i<fI.length:=zzz;have Fb:fI[i]?=some (fI[i]'aX):=aai _;have HV:rk[i]?=some (fI[i]'aX):=by rw[h1 i (aaq _),Fb]
  have Ej:fI.drop i=(fI[i]'aX)::fI.drop (i+1):=(List.getElem_cons_drop aX).symm;generalize fI[i]'aX=u at*
  obtain⟨b',o',p1,p2,p3,p4,p5⟩:=(hO.rl.au o2).at zzx (sU HV);have u0:=p5 0 _ (Es u).1;rw[aeA] at u0;have N6:(t.after.any λa=>BL rk a != 3)=cC fI t:=by
   unfold cC;refine Vd λa hm=>?_;obtain⟨a0,a1⟩:=ha t ht a hm;unfold BL;by_cases hk:a.toNat<i;·have hz:=h2 _ hk;rw[adf,aai (show a.toNat<ts.length by omega),aai (show a.toNat<fI.length by omega)] at hz;rw[hz,aai (show a.toNat<fI.length by omega)];simp only[ael,afK];have:=XB fI sg (ts[a.toNat]' zzz) (fI[a.toNat]' zzz);simp only[bne,this]
   ·rw[h1 _ zzz]
  rw[N6] at f1;have hz:(List.zipWith (lB fI sg) ts fI)[i]?=some (lB fI sg t u):=by rw[adf,g2,Fb]
  have nY:=WC (hS.au o2) zzz t.on;rw[Ej,alq];have fin:∀(H3:Hp) (JJ:List RT),Out (ak tx) H2 H3->OL H3 132 4 tx (eG JJ)->JJ.length=ts.length->(∀k,k≠i->JJ[k]?=rk[k]?)->JJ[i]?=some (lB fI sg t u)->
    (∀H':Hp,(∀bA:K.Fn 2,CE JN GO cK bA (.ptr G 0) (.bool (all&&(u.ph==3))) dx (zi (ts.length:Nat)) (zi ((i+1:Nat):Int)) H3=bA (.ptr G 0) (.bool ((all&&(u.ph==3))&&(fI.drop (i+1)).all (λr=>r.ph==3))) H')->(∀b3 o3,ia 4 tx (zi (i:Nat))=some (.ptr b3 o3)->cellAt H3 b3 o3=some (zi (lB fI sg t u).ph))->cellAt H3 G 0=some (.ptr p 0)->cellAt H3 p 2=some tx->∀bA:K.Fn 2,CE JN GO cK bA (.ptr G 0) (.bool all) dx (zi (ts.length:Nat)) (zi (i:Nat)) H=bA (.ptr G 0) (.bool ((all&&(u.ph==3))&&(fI.drop (i+1)).all (λr=>r.ph==3))) H')->
    ∃H',(∀bA:K.Fn 2,CE JN GO cK bA (.ptr G 0) (.bool all) dx (zi (ts.length:Nat)) (zi (i:Nat)) H=bA (.ptr G 0) (.bool (all&&((u.ph==3)&&(fI.drop (i+1)).all (λr=>r.ph==3)))) H')/\Cs H' p (rv dx st tx sx) 75 0/\cellAt H' G 0=some (.ptr p 0)/\OL H' 132 4 tx (eG (List.zipWith (lB fI sg) ts fI))/\Out (ak tx) H H':=by
   intro H3 JJ k3 Ll Gu aE hei kF;have o3:Out (ak tx) H H3:=(o2.mono λj hj=>by cases hj).trans k3;have BR:cellAt H3 G 0=some (.ptr p 0):=by rw[o3.cellAt Yz hGt];exact hG
   have Ni:=hC.out o3 BQ;have FX:=k3.nx;obtain⟨H',i1,i2,i3,i4,i5⟩:=al1 hn dd rM Hi ha BQ hGt hd r (i+1) H3 JJ (all&&(u.ph==3)) g1 g3 Ni BR zzz (hR.out o3 λj hj z=>(hd j z).1 hj) Ll (hS.out o3 λj hj z=>(hd j z).2 hj) Gu (λk hk=>by rw[aE k zzz];exact h1 k zzz) (λk hk=>by
    by_cases e:k=i;·subst e;rw[hei,hz]
    ·rw[aE k e];exact h2 k zzz)
   refine⟨H',λbA=>?_,i2,i3,i4,o3.trans i5⟩;rw[<-Bool.and_assoc];refine kF H' i1 (λb3 o3' hb=>?_) BR (Ni.cellAt rfl) bA;obtain⟨b4,o4,r1,r2,r3,r4,r5⟩:=Ll.rl.at zzx (sU hei);have e4:=r1 .i64;rw[hb] at e4;cases e4;have:=r5 0 _ (Es (lB fI sg t u)).1;rwa[aeA] at this
  have pE:=XB fI sg t u;have au4:lB fI sg t u=u->(∀H':Hp,(∀bA:K.Fn 2,CE JN GO cK bA (.ptr G 0) (.bool (all&&(u.ph==3))) dx (zi (ts.length:Nat)) (zi ((i+1:Nat):Int)) H2=bA (.ptr G 0) (.bool ((all&&(u.ph==3))&&(fI.drop (i+1)).all (λr=>r.ph==3))) H')->∀bA:K.Fn 2,CE JN GO cK bA (.ptr G 0) (.bool all) dx (zi (ts.length:Nat)) (zi (i:Nat)) H=bA (.ptr G 0) (.bool ((all&&(u.ph==3))&&(fI.drop (i+1)).all (λr=>r.ph==3))) H')->
    ∃H',(∀bA:K.Fn 2,CE JN GO cK bA (.ptr G 0) (.bool all) dx (zi (ts.length:Nat)) (zi (i:Nat)) H=bA (.ptr G 0) (.bool (all&&((u.ph==3)&&(fI.drop (i+1)).all (λr=>r.ph==3)))) H')/\Cs H' p (rv dx st tx sx) 75 0/\cellAt H' G 0=some (.ptr p 0)/\OL H' 132 4 tx (eG (List.zipWith (lB fI sg) ts fI))/\Out (ak tx) H H':=by
   intro e kF;exact fin H2 rk (Out.refl _ _) (hO.out o2 zzy) hl (λk hk=>rfl) (by rw[HV,e]) λH' z _ _ _=>kF H' z
  have d3:∀z:Bool,(u.ph==3)=z->(u.ph==3)=z:=λz h=>h;by_cases hr:Ep fI sg t u=true
  ·have hs:lB fI sg t u={u with ph:=1}:=by unfold lB;rw[zz2 hr]
   obtain⟨H3,w1,w2,w3,w4⟩:=(hO.out o2 zzy).eV (k:=0) (v:=zi 1) (sU HV) p1 rfl zzx;have fY:(dQ u).set 0 (zi 1)=dQ {u with ph:=1}:=rfl;rw[fY,PF] at w2;rw[aeA] at w1;have kL:=(aac.1 HV).1;refine fin H3 (rk.set i {u with ph:=1}) w3 w2 (by rw[adi];exact hl) (λk hk=>by rw[aji (λe=>hk e.symm)]) (by rw[ae0 kL,hs]) λH' z hb BR Ni bA=>?_;have vc:=hb b' o' (p1 .i64);rw[hs] at vc;have aou:cellAt H3 b' o'=some (zi 1):=vc;unfold Ep at hr;simp only[aam,aiJ,akk] at hr;obtain⟨r1,r2,r3⟩:=hr;have r0:u.ph=0:=by simpa using r1
   have r13:(u.ph==3)=false:=by rw[r0];rfl
   rw[r13,Bool.and_false] at z⊢;rw[ZF];cases sw:(t.on==[]) with
   |true=>cases all<;>simp(disch:=try exact zqz)only[GR,aQ g1,q3,q5,aC,kx,f1,c1,c2,c3,p1,u0,r1,r2,k5,sw,w1,BR,Ni,aou,es,z,ar,aq,zz0,simprocAttr]|false=>
    have r3':=r3.resolve_left (by rw[sw];simp);rw[r3'] at nY;cases all<;>simp(disch:=try exact zqz)only[GR,aQ g1,q3,q5,aC,kx,f1,c1,c2,c3,p1,u0,r1,r2,k5,sw,nY,w1,BR,Ni,aou,es,z,ar,aq,zz0,simprocAttr]
  ·have hs:lB fI sg t u=u:=by unfold lB;rw[zz1 hr]
   refine au4 hs λH' z bA=>?_;rw[ZF];unfold Ep at hr;cases r1:(u.ph==0) with
   |false=>cases all<;>simp only[acy,acn] at z⊢ <;> simp(disch:=try exact zqz)only[GR,aQ g1,q3,q5,aC,kx,f1,c1,c2,c3,p1,u0,r1,k5,es,z,ar,aq,zz0,simprocAttr]|true=>
    cases r2:cC fI t with
    |true=>
     rw[r2] at f1;cases all<;>simp only[acy,acn] at z⊢ <;> simp(disch:=try exact zqz)only[GR,aQ g1,q3,q5,aC,kx,f1,c1,c2,c3,p1,u0,r1,r2,k5,es,z,ar,aq,zz0,simprocAttr]
    |false=>
     rw[r2] at f1;rw[r1,r2] at hr;have sw:(t.on==[])=false:=by
      cases hq:(t.on==[]) with
      |false=>rfl|true=>rw[hq] at hr;simp at hr
     have jc:(sg.any λa=>t.on==a)=false:=by
      rw[sw] at hr;cases hq:(sg.any λa=>t.on==a) with
      |false=>rfl|true=>rw[hq] at hr;simp at hr
     rw[jc] at nY;cases all<;>simp only[acy,acn] at z⊢ <;> simp(disch:=try exact zqz)only[GR,aQ g1,q3,q5,aC,kx,f1,c1,c2,c3,p1,u0,r1,r2,k5,sw,nY,es,z,ar,aq,zz0,simprocAttr]
theorem Vz {H:Hp}{p:Nat}{dx tx sx:AV}{xs:List AV}{R:Rn}(hC:Cs H p (rv dx R.st tx sx) 75 0)(hO:RO H dx xs tx sx R)(hp:p∉pj dx xs tx sx)(hs:Sm R)(hl:R.rs.length=R.ts.length)(ha:∀t∈R.ts,∀a∈t.after,0<=a/\a<(R.ts.length:Int)):
  ∃H',cK (zf 106) [.ptr p 0] H=some (.tuple [],H')/\Cs H' p (rv dx (jx R).st tx sx) 75 0/\RO H' dx xs tx sx (jx R)/\Out (p::ak tx) H H':=by
 have aO:bx 146 (.ptr p 0) H=some (H.next,al H [.ptr p 0] 146 0):=Ms rfl;have o1:=aD H [.ptr p 0] 146 0;have BQ:p∉ak tx:=λz=>hp (aaw _ (aaG _ z));have hG1:cellAt (al H [.ptr p 0] 146 0) H.next 0=some (.ptr p 0):=by rw[Bw rfl];rfl
 have Mq:=hC.out o1 zzy;have k0:cellAt (al H [.ptr p 0] 146 0) p 0=some dx:=Mq.cellAt rfl;have qW:=hO.v.d.au o1;have ir:=qW.aG;have Hd:=hO.v.t.1.lt;obtain⟨H2,i1,i2,i3,i4,i5⟩:=al1 (G:=H.next) hs.n hs.a hs.s hl ha BQ (λz=>by have:=Hd _ z;omega) hO.dt R.ts 0 (al H [.ptr p 0] 146 0) R.rs true (abg _) aaM Mq hG1 (by rw[bS];omega) qW (hO.t.out o1 zzy) (hO.s.rw.au o1) hl (λk _=>rfl) (λk hk=>zzz);rw[aaM,acy,show (((0:Nat):Int))=0 from rfl] at i1;have iK:=qW.out i5 λj hj z=>(hO.dt j z).1 hj;have El:=(hO.s.out o1 zzy).out i5 λj hj z=>(hO.dt j z).2 hj;have o2:Out (ak tx) H H2:=(o1.mono λj hj=>by cases hj).trans i5;cases mM:R.rs.all (λr=>r.ph==3) with
 |true=>
  rw[mM] at i1;obtain⟨H3,w1,w2,w3,w4⟩:=eV i2 zzx (o:=1) zzy (v:=zi 1) rfl;have aC:(jx R).st=1:=by unfold jx;rw[mM];rfl
  have fY:(rv dx R.st tx sx).set 1 (zi 1)=rv dx 1 tx sx:=rfl;rw[fY] at w2;have yJ:∀{x:AV},(∀j∈ak x,j∈pj dx xs tx sx)->∀j∈ak x,j∉[p]:=λhx j hj=>by rw[No];intro e;subst e;exact hp (hx j hj)
  have vC:RD H3 dx xs R.ts:=iK.out w3 λj hj=>by rw[No];intro e;subst e;exact hp (aaG _ hj)
  have SE:=i4.out w3 (yJ λj hj=>aaw _ (aaG _ hj));have Cn:=El.out w3 (yJ λj hj=>aaw _ (aaw _ hj));refine⟨H3,aiv ?_,by rw[aC];exact w2,⟨⟨vC,SE.rl,Cn.rw⟩,SE,Cn,hO.dt,hO.ds⟩,(o2.mono λj hj=>.tail _ hj).trans (w3.mono λj hj=>by rw[No] at hj;subst hj;exact .head _)⟩;unfold Wq;simp(disch:=try exact zqz)only[aO,hG1,k0,ir,i1,i3,w1,ar,aq,zz0,simprocAttr]
 |false=>
  rw[mM] at i1;have aC:(jx R).st=R.st:=by unfold jx;rw[mM];rfl
  refine⟨H2,aiv ?_,by rw[aC];exact i2,⟨⟨iK,i4.rl,El.rw⟩,i4,El,hO.dt,hO.ds⟩,o2.mono λj hj=>.tail _ hj⟩;unfold Wq;simp(disch:=try exact zqz)only[aO,hG1,k0,ir,i1,i3,ar,aq,zz0,simprocAttr]
abbrev kc (n:Int):Int:=IntKind.wrap .i64 n
section
variable {H H':Hp}{S:List Nat}{dx sx tx:AV}{i m:Nat}{xs:List AV}
theorem RO.out {R:Rn}(h:RO H dx xs tx sx R)(k:Out S H H')(hs:∀j∈pj dx xs tx sx,j∉S):RO H' dx xs tx sx R:=
 ⟨h.v.out k hs,h.t.out k λj hj=>hs j (aaw _ (aaG _ hj)),h.s.out k λj hj=>hs j (aaw _ (aaw _ hj)),h.dt,h.ds⟩
theorem RO.au {R:Rn}(h:RO H dx xs tx sx R)(k:Out [] H H'):RO H' dx xs tx sx R:=h.out k λ_ _ q=>by cases q
theorem aEO (t:RT):(dQ t).all aW=true:=rfl
theorem RO.set {R:Rn}{b o:Nat}(h:RO H dx xs tx sx R)(hi:i<R.rs.length)(qg:∀kd,ia 4 tx (.int kd i)=some (.ptr b o))(t:RT):
  ∃H',st 4 (.ptr b o) (.agg (dQ t)) H=some H'/\RO H' dx xs tx sx {R with rs:=R.rs.set i t}/\Out (ak tx) H H'/\H'.next=H.next:=by
 obtain⟨H',h1,h2,h3,h4⟩:=h.t.eS (vs:=dQ t) (by rw[AA];exact hi) qg (aEO t) rfl zzx;rw[PF] at h2;exact⟨H',h1,⟨⟨h.v.d.out h3 λj hj z=>(h.dt j z).1 hj,h2.rl,h.v.s.out h3 λj hj z=>(h.dt j z).2 hj⟩,h2,h.s.out h3 λj hj z=>(h.dt j z).2 hj,h.dt,h.ds⟩,h3,h4⟩
theorem RD.at2 {ts:List Tk}(h:RD H dx xs ts){t:Tk}(ht:ts[i]?=some t):
  ∃x b o,(∀k,ia 6 dx (.int k i)=some (.ptr b o))/\b∈ak dx/\b<H.next/\aW x=true/\av H b o 6=some (aJ t x)/\∀k v,(aJ t x)[k]?=some v->cellAt H b (o+k)=some v:=by
 have hi:=(aac.1 ht).1;have hx:xs[i]?=some (xs[i]'(by rw[h.len];exact hi)):=aai _;have hw:=h.lh i _ t hx ht;have hz:(List.zipWith aJ ts xs)[i]?=some (aJ t (xs[i]'(by rw[h.len];exact hi))):=by rw[adf,ht,hx]
 obtain⟨b,o,h1,h2,h3,h4,h5⟩:=h.row.at zzx hz;exact⟨_,b,o,h1,h2,h3,hw.one,h4,h5⟩
abbrev zR:List AV:=[.ah,zi 0,.ah,.ah]
abbrev tA:Rn:=⟨[],0,[],[]⟩
theorem RO.zero (H:Hp):RO H .ah [] .ah .ah tA:=
 ⟨⟨RD.nil H,RL.nil H 4,.nil⟩,OL.nil H _ 4,.nil,λj hj=>(by cases hj),λj hj=>by cases hj⟩
structure oC (R:Rn):Prop where
 sm:Sm R
 len:R.rs.length=R.ts.length
 lh:∀t∈R.ts,∀a∈t.after,0<=a/\a<(R.ts.length:Int)
def qe (f:AV)(args:List AV)(H:Hp)(R:Rn)(e:Int):Prop:=
 ∃dx xs tx sx H',cK f args H=some (.tuple [.agg (rv dx R.st tx sx),zi e],H')/\RO H' dx xs tx sx R/\Out [] H H'/\∀j∈pj dx xs tx sx,H.next<=j
theorem qe.err {f:AV}{args:List AV}{H1:Hp}{e:Int}(h:cK f args H=some (.tuple [.agg zR,zi e],H'))(k:Out [] H H1)(k2:Out [m] H1 H')(hm:H.next<=m):qe f args H tA e:=
 ⟨.ah,[],.ah,.ah,H',h,RO.zero H',k.then k2 (λj hj=>by rw[No] at hj;exact .inr zzz),λj hj=>by cases hj⟩
theorem la {n:Nat}(h:n<=m):∀j∈[m],n<=j:=λj hj=>by rw[No] at hj;omega
theorem fh {A B:Hp}(h:Out [] H A)(k:Out S A B)(hS:∀j∈S,H.next<=j):Out [] H B:=h.then k λj hj=>.inr (hS j hj)
def qj (R:Rn)(task bC now:Int):Rn×Int:=
 if rH R task=0 then (match R.rs[task.toNat]?,R.ts[task.toNat]? with
  |some t,some d=>if t.ph=1 then (if bC=kc (t.tr+1) then ({R with rs:=R.rs.set task.toNat ⟨2,bC,kc (now+d.wait),t.iT⟩},0) else (tA,8)) else (tA,4)
  |_,_=>(tA,4)) else (tA,rH R task)
theorem axH {R:Rn}(h:RV H dx xs tx sx R)(hk:oC R)(task bC now:Int):
  qe (zf 78) [.agg (rv dx R.st tx sx),zi task,zi bC,zi now] H (qj R task bC now).1 (qj R task bC now).2:=by
 have aO:bx 75 (.agg (rv dx R.st tx sx)) H=some (H.next,al H (rv dx R.st tx sx) 75 0):=iz zzy;have o1:=aD H (rv dx R.st tx sx) 75 0;have c1:=aP H (rv dx R.st tx sx) 75 0;have n1:(al H (rv dx R.st tx sx) 75 0).next=H.next+1:=rfl;generalize al H (rv dx R.st tx sx) 75 0=H1 at*
 have o2:=aD H1 zR 75 0;have c2:=aP H1 zR 75 0;have n2:(al H1 zR 75 0).next=H.next+2:=by rw[bS,n1]
 rw[n1] at c2;generalize bF:al H1 zR 75 0=H2 at*
 have bG:=o1.trans o2;have lW:=c1.out o2 zzy;have k1:av H2 H.next 0 4=some (rv dx R.st tx sx):=lW.av 4 0 zzy;have hm:=ahB (h.au bG) task;have o3:=aD H2 (rv dx R.st tx sx) 75 0;have n3:(al H2 (rv dx R.st tx sx) 75 0).next=H.next+3:=by rw[bS,n2]
 generalize al H2 (rv dx R.st tx sx) 75 0=H3 at*
 have gg:=bG.trans o3;have rG:=lW.out o3 zzy;have vd:=c2.out o3 zzy;unfold qj;by_cases h0:rH R task=0
 ·obtain⟨i,t,rfl,ht,aC⟩:=L5 h0;have aX:=(aac.1 ht).1;have hd:R.ts[i]?=some (R.ts[i]'(by rw[<-hk.len];exact aX)):=aai _;have d0:(rH R (i:Int) != 0)=false:=by simp[h0]
  rw[zz2 h0,abO,ht,hd];simp only;generalize R.ts[i]'(by rw[<-hk.len];exact aX)=d at*
  have k2:cellAt H3 H.next 2=some tx:=rG.cellAt rfl;obtain⟨b,o,q1,q2,q3,q4,q5⟩:=(h.t.au gg).at zzx (sU ht);have DF:=aiG t H3;rw[n3] at DF;obtain⟨e0,e1,e2,e3⟩:=Es t;have o4:=aD H3 (dQ t) 132 0;have Qx:=aP H3 (dQ t) 132 0;rw[n3] at Qx;have n4:(al H3 (dQ t) 132 0).next=H.next+4:=by rw[bS,n3]
  generalize al H3 (dQ t) 132 0=H4 at*
  have hz4:aA H3 [(zi 0),(zi 0),(zi 0),(.str [])] 132 0=some (H.next+3,al H3 [(zi 0),(zi 0),(zi 0),(.str [])] 132 0):=by rw[<-n3];exact eA zzy
  have gq:=gg.trans o4;have cP4:=rG.out o4 zzy;have Vq:=vd.out o4 zzy;have t0:cellAt H4 (H.next+3) 0=some (zi t.ph):=Qx.cellAt e0;have t1:cellAt H4 (H.next+3) 1=some (zi t.tr):=Qx.cellAt e1;by_cases h1:t.ph=1
  ·have d1:(t.ph != 1)=false:=by simp[h1]
   rw[zz2 h1];by_cases h2:bC=kc (t.tr+1)
   ·have d2:(bC != IntKind.wrap .i64 (t.tr+1))=false:=by simp[h2]
    rw[zz2 h2];have k4:av H4 H.next 0 4=some (rv dx R.st tx sx):=cP4.av 4 0 zzy;obtain⟨ay,aU,ax,az,H5,r1,r2,r3,r4⟩:=DV (h.au gq) hk.sm;have n5:=r3.nx;obtain⟨H6,s1,s2,s3,s4⟩:=iE (n:=4) (vs:=rv ay R.st ax az) (cP4.out r3 zzy) rfl rfl (by simp[r2.v.d.row.one,r2.t.rl.one,r2.s.lg,iV]);have fr:∀m,m<H.next+4->∀j∈pj ay aU ax az,j∉[m]:=λm hm j hj=>by rw[No];have:=r4 j hj;omega
    have R6:=r2.out s3 (fr _ zzz);obtain⟨x,b2,Th,p1,p2,p3,p4,p5,p6⟩:=R6.v.d.at2 hd;have kw6:cellAt H6 b2 (Th+3)=some (zi d.wait):=p6 3 _ rfl;have kd6:cellAt H6 H.next 0=some ay:=s2.cellAt rfl;have cT6:=(Qx.out r3 zzy).out s3 (by rw[No];omega);have jd:b2≠H.next+3:=by have:=r4 b2 (aaG _ (aaG _ p2));omega
    obtain⟨H7,u1,u2,u3,u4⟩:=eV cT6 zzx (o:=0) (by rw[OX];omega) (v:=zi 2) rfl;obtain⟨H8,v1,v2,v3,v4⟩:=eV u2 zzx (o:=1) (by rw[adi,OX];omega) (v:=zi bC) rfl;obtain⟨H9,w1,w2,w3,w4⟩:=eV v2 zzx (o:=2) (by rw[adi,adi,OX];omega) (v:=zi (kc (now+d.wait))) rfl;have fY:(((dQ t).set 0 (zi 2)).set 1 (zi bC)).set 2 (zi (kc (now+d.wait)))=dQ ⟨2,bC,kc (now+d.wait),t.iT⟩:=rfl;rw[fY] at w2;have kw7:cellAt H7 b2 (Th+3)=some (zi d.wait):=by rw[u3.cellAt p3 (by rw[No];exact jd)];exact kw6
    have kw8:cellAt H8 b2 (Th+3)=some (zi d.wait):=by rw[v3.cellAt zzz (by rw[No];exact jd)];exact kw7
    have zF:H.next∉[H.next+3]:=by rw[No];omega
    have s7:=s2.out u3 zF;have s8:=s7.out v3 zF;have s9:=s8.out w3 zF;have kd7:cellAt H7 H.next 0=some ay:=s7.cellAt rfl;have kd8:cellAt H8 H.next 0=some ay:=s8.cellAt rfl;have kt9:cellAt H9 H.next 2=some ax:=s9.cellAt rfl;have kT9:av H9 (H.next+3) 0 4=some (dQ ⟨2,bC,kc (now+d.wait),t.iT⟩):=w2.av 4 0 (by rw[OX];omega);have R9:=((R6.out u3 (fr _ zzz)).out v3 (fr _ zzz)).out w3 (fr _ zzz);obtain⟨b3,o3',y1,y2,y3,y4,y5⟩:=R9.v.t.at zzx (sU ht);obtain⟨mz,z1,z2,z3,z4⟩:=R9.set aX y1 ⟨2,bC,kc (now+d.wait),t.iT⟩;have AK:∀m,m<H.next+4->m∉ak ax:=λm hm z=>by have:=r4 m (aaw _ (aaG _ z));omega
    have s10:=s9.out z3 (AK _ zzz);have aC7:av mz H.next 0 4=some (rv ay R.st ax az):=s10.av 4 0 zzy;have hQ:∀m,m≠H.next+1->H.next+1∉[m]:=λm hm=>by rw[No];omega
    have aAJ:=((((((Vq.out r3 zzy).out s3 (hQ _ zzz)).out u3 (hQ _ zzz)).out v3 (hQ _ zzz)).out w3 (hQ _ zzz)).out z3 (AK _ zzz));obtain⟨K8,g1,g2,g3,g4⟩:=iE (n:=4) (vs:=rv ay R.st ax az) aAJ rfl rfl (by simp[r2.v.d.row.one,r2.t.rl.one,r2.s.lg,iV]);have kQ:av K8 (H.next+1) 0 4=some (rv ay R.st ax az):=g2.av 4 0 zzy;have out:=fh (fh (fh (fh (fh (fh (gq.trans r3) s3 (la (aaq _))) u3 (la zzz)) v3 (la zzz)) w3 (la zzz)) z3 (λj hj=>by have:=r4 j (aaw _ (aaG _ hj));omega)) g3 (la zzz);refine⟨ay,aU,ax,az,K8,Tz ?_,z2.out g3 (fr _ zzz),out,λj hj=>by have:=r4 j hj;omega⟩;unfold OD;simp(disch:=try exact zqz)only[aO,n1,bF,k1,hm,d0,k2,q1,q4,n3,DF,t0,t1,d1,d2,k4,r1,s1,kd6,p1,kw6,u1,v1,w1,kd7,kd8,kw7,kw8,eP (lG r2.v.d.row.1),eP (afu _ _),kt9,kT9,y1,z1,aC7,g1,kQ,ar,aq,zz0,simprocAttr]
   ·have d2:(bC != IntKind.wrap .i64 (t.tr+1))=true:=by simp[h2]
    rw[zz1 h2];obtain⟨H5,w1,w2,w3,w4⟩:=iE (n:=4) (vs:=zR) Vq rfl rfl rfl;have k5:av H5 (H.next+1) 0 4=some zR:=w2.av 4 0 zzy;refine qe.err (Tz (?_:_=some (_,H5))) gq w3 (agD _);unfold OD;simp(disch:=try exact zqz)only[aO,n1,bF,k1,hm,d0,k2,q1,q4,n3,DF,t0,t1,d1,d2,w1,k5,ar,aq,zz0,simprocAttr]
  ·have d1:(t.ph != 1)=true:=by simp[h1]
   rw[zz1 h1];obtain⟨H5,w1,w2,w3,w4⟩:=iE (n:=4) (vs:=zR) Vq rfl rfl rfl;have k5:av H5 (H.next+1) 0 4=some zR:=w2.av 4 0 zzy;refine qe.err (Tz (?_:_=some (_,H5))) gq w3 (agD _);unfold OD;simp(disch:=try exact zqz)only[aO,n1,bF,k1,hm,d0,k2,q1,q4,n3,DF,t0,d1,w1,k5,ar,aq,zz0,simprocAttr]
 ·have d0:(rH R task != 0)=true:=by simp[h0]
  rw[zz1 h0];obtain⟨H4,w1,w2,w3,w4⟩:=iE (n:=4) (vs:=zR) vd rfl rfl rfl;have k5:av H4 (H.next+1) 0 4=some zR:=w2.av 4 0 zzy;refine qe.err (Tz (?_:_=some (_,H4))) gg w3 (agD _);unfold OD;simp(disch:=try exact zqz)only[aO,n1,bF,k1,hm,d0,w1,k5,ar,aq,zz0,simprocAttr]
end
section
variable {H:Hp}{dx:AV}{xs:List AV}
theorem aBc {z:List AV}{el n s:Nat}(k j:IntKind)(hn:n<=1048576)(hl:n*z.length<=16777216):B0 z el s (.int k n) (.int j n) H=some (.slice H.next 0 n n true s,al H (List.replicate n z).flatten el 0):=by
 unfold B0;have hr:rep n z=(List.replicate n z).flatten:=by unfold rep;rfl
 have hlen:(List.replicate n z).flatten.length=n*z.length:=zzy;simp only;rw[zz2 ⟨zzz,zzz,zzz⟩,abO,hr,eA (by rw[hlen];omega)];rfl
abbrev qa:RT:=⟨0,0,0,[]⟩
noncomputable def bh (ts:List Tk):Rn×Int:=if jH ts=0 then (jx ⟨ts,0,List.replicate ts.length qa,[]⟩,0) else (tA,jH ts)
theorem T8 {ts:List Tk}(h:RD H dx xs ts)(hn:ts.length<=1000)(dd:∀t∈ts,t.after.length<=1000):
  qe (zf 76) [dv dx] H (bh ts).1 (bh ts).2:=by
 have eU:=h.row.one;have aO:bx 72 (.agg [dx]) H=some (H.next,al H [dx] 72 0):=iz zzy;have o1:=aD H [dx] 72 0;have c1:=aP H [dx] 72 0;have n1:(al H [dx] 72 0).next=H.next+1:=rfl;generalize al H [dx] 72 0=H1 at*
 have o2:=aD H1 zR 75 0;have c2:=aP H1 zR 75 0;have n2:(al H1 zR 75 0).next=H.next+2:=by rw[bS,n1]
 rw[n1] at c2;generalize bF:al H1 zR 75 0=H2 at*
 have bG:=o1.trans o2;have lW:=c1.out o2 zzy;have k1:av H2 H.next 0 1=some [dx]:=lW.av 1 0 zzy;obtain⟨H3,g1,o3⟩:=S6 (ts:=ts) zzz (λt ht=>by have:=dd t ht;omega) (h.au bG);have n3:=o3.nx;have gg:=bG.trans o3;have rG:=lW.out o3 zzy;have vd:=c2.out o3 zzy;unfold bh;by_cases h0:jH ts=0
 ·rw[zz2 h0];have hq:1<=ts.length/\ts.length<=16/\yI ts:=by
   have h:=h0;unfold jH at h;split at h;·cases h
   ·rename_i h1;split at h;·cases h
    ·split at h;·cases h
     ·split at h;·cases h
      ·split at h;·cases h
       ·rename_i h4;have h1:=ai8.1 h1;exact⟨h1.1,h1.2,P5 (by simpa using h4)⟩
  rw[h0] at g1;have k2:av H3 H.next 0 1=some [dx]:=rG.av 1 0 zzy;have k3:cellAt H3 H.next 0=some dx:=rG.cellAt rfl;have tZ:=h.au gg;have ir:=tZ.aG;have nN:(List.replicate ts.length [(AV.int .i64 0),(zi 0),(zi 0),(.str [])]).flatten=(eG (List.replicate ts.length qa)).flatten:=by simp[eG,dQ]
  have DH:=aBc (H:=H3) (z:=[(zi 0),(zi 0),(zi 0),(.str [])]) (el:=132) (s:=4) (n:=ts.length) .i64 .i64 zzz (by simp;omega);rw[nN] at DH;have o4:=aD H3 (eG (List.replicate ts.length qa)).flatten 132 0;have cM:=aP H3 (eG (List.replicate ts.length qa)).flatten 132 0;have n4:(al H3 (eG (List.replicate ts.length qa)).flatten 132 0).next=H3.next+1:=rfl;generalize al H3 (eG (List.replicate ts.length qa)).flatten 132 0=H4 at*
  have acI:(eG (List.replicate ts.length qa)).flatten.length=ts.length*4:=by rw[CY (TQ _),AA,afc]
  have Dx:RL H4 4 (.slice H3.next 0 ts.length ts.length true 4) (eG (List.replicate ts.length qa)):=⟨.mk cM.ro (by rw[acI]) (aaq _) (by rw[acy,<-ahP,Nat.beq_eq];omega),TQ _⟩;have hV4:RV H4 dx xs (.slice H3.next 0 ts.length ts.length true 4) .ah ⟨ts,0,List.replicate ts.length qa,[]⟩:=⟨tZ.au o4,Dx,.nil⟩;have Tl:oC ⟨ts,0,List.replicate ts.length qa,[]⟩:=⟨⟨hn,dd,by rw[afc];omega,zzy⟩,zzy,λt ht a ha=>by obtain⟨i,hi⟩:=ab2 ht;have:=(Dp hq.2.2 hi).1 a ha;exact⟨this.1,by show a<(ts.length:Int);omega⟩⟩;obtain⟨ay,aU,ax,az,H5,r1,r2,r3,r4⟩:=DV hV4 Tl.sm;have n5:=r3.nx;have Bg:cK (zf 97) [.agg [dx,zi 0,.slice H3.next 0 ts.length ts.length true 4,.ah]] H4=some (.agg (rv ay 0 ax az),H5):=r1;have o5:=aD H5 (rv ay 0 ax az) 75 0;have cA:=aP H5 (rv ay 0 ax az) 75 0;have stA:st 4 (.ptr H5.next 0) (.agg (rv ay 0 ax az)) (al H5 zR 75 0)=some (al H5 (rv ay 0 ax az) 75 0):=gy (by simp[r2.v.d.row.one,r2.t.rl.one,r2.s.lg,iV]) rfl rfl zzx rfl;have n6:(al H5 (rv ay 0 ax az) 75 0).next=H5.next+1:=rfl;have avV:aA H5 zR 75 0=some (H5.next,al H5 zR 75 0):=eA zzy;generalize hA6:al H5 (rv ay 0 ax az) 75 0=H6 at*
  have fl5:=r2.v.lt;obtain⟨H7,s1,s2,s3,s4⟩:=Vz (R:=⟨ts,0,List.replicate ts.length qa,[]⟩) cA (r2.au o5) (λz=>by have:=fl5 _ z;omega) Tl.sm Tl.len Tl.lh;have htx:∀j∈H5.next::ak ax,H4.next<=j:=λj hj=>by
   rcases aal.1 hj with rfl|hj;·exact n5
   ·exact r4 j (aaw _ (aaG _ hj))
  have hQ7:Cs H7 (H.next+1) zR 75 0:=(((vd.out o4 zzy).out r3 zzy).out o5 zzy).out s4 λz=>by have:=htx _ z;omega
  generalize jx ⟨ts,0,List.replicate ts.length qa,[]⟩=R7 at*
  have kA7:av H7 H5.next 0 4=some (rv ay R7.st ax az):=s2.av 4 0 zzy;obtain⟨H8,w1,w2,w3,w4⟩:=iE (n:=4) (vs:=rv ay R7.st ax az) hQ7 rfl rfl (by simp[r2.v.d.row.one,r2.t.rl.one,r2.s.lg,iV]);have kQ:av H8 (H.next+1) 0 4=some (rv ay R7.st ax az):=w2.av 4 0 zzy;have k4:av H4 H.next 0 1=some [dx]:=(rG.out o4 zzy).av 1 0 zzy;have fl1:fl zR [(0,1,.agg [dx]),(2,1,.slice H3.next 0 ts.length ts.length true 4)]=some [dx,zi 0,.slice H3.next 0 ts.length ts.length true 4,.ah]:=by rw[z8 (l:=[dx]) (n:=1) rfl zzy,yW rfl zzy,pW];rfl
  have smd:same (.agg [dx]) (.agg [dx])=true:=by show yf _ _=true;unfold yf;rw[ami h.row.1];rfl
  have d0:((0:Int) != 0)=false:=rfl;have out:=fh (fh (((gg.trans o4).trans r3).trans o5) s4 λj hj=>by have:=htx j hj;omega) w3 (la (agD _));refine⟨ay,aU,ax,az,H8,acO ?_,s3.out w3 (λj hj=>by rw[No];have:=r4 j hj;omega),out,λj hj=>by have:=r4 j hj;omega⟩;unfold V9;simp(disch:=try exact zqz)only[aO,n1,bF,k1,g1,d0,k2,k3,ir,DH,fl1,Bg,avV,stA,k4,eP smd,s1,kA7,w1,kQ,ar,aq,zz0,simprocAttr]
 ·rw[zz1 h0];have d0:(jH ts != 0)=true:=by simp[h0]
  obtain⟨H4,w1,w2,w3,w4⟩:=iE (n:=4) (vs:=zR) vd rfl rfl rfl;have k5:av H4 (H.next+1) 0 4=some zR:=w2.av 4 0 zzy;refine qe.err (acO (?_:_=some (_,H4))) gg w3 (agD _);unfold V9;simp(disch:=try exact zqz)only[aO,n1,bF,k1,g1,d0,w1,k5,ar,aq,zz0,simprocAttr]
def rU (R:Rn)(task bC:Int)(data:Str):Rn×Int:=
 if pJ R task bC=0 then (jx {R with rs:=R.rs.set task.toNat ⟨3,bC,0,data⟩},0) else (tA,pJ R task bC)
theorem oC.set {R:Rn}(h:oC R)(i:Nat)(t:RT):oC {R with rs:=R.rs.set i t}:=⟨⟨h.sm.n,h.sm.a,by rw[adi];exact h.sm.r,h.sm.s⟩,by rw[adi];exact h.len,h.lh⟩
theorem atW {tx sx:AV}{R:Rn}(h:RV H dx xs tx sx R)(hk:oC R)(task bC:Int)(data:Str):
  qe (zf 79) [.agg (rv dx R.st tx sx),zi task,zi bC,.str data] H (rU R task bC data).1 (rU R task bC data).2:=by
 have aO:bx 75 (.agg (rv dx R.st tx sx)) H=some (H.next,al H (rv dx R.st tx sx) 75 0):=iz zzy;have o1:=aD H (rv dx R.st tx sx) 75 0;have c1:=aP H (rv dx R.st tx sx) 75 0;have n1:(al H (rv dx R.st tx sx) 75 0).next=H.next+1:=rfl;generalize al H (rv dx R.st tx sx) 75 0=H1 at*
 have o2:=aD H1 zR 75 0;have c2:=aP H1 zR 75 0;have n2:(al H1 zR 75 0).next=H.next+2:=by rw[bS,n1]
 rw[n1] at c2;generalize bF:al H1 zR 75 0=H2 at*
 have bG:=o1.trans o2;have lW:=c1.out o2 zzy;have k1:av H2 H.next 0 4=some (rv dx R.st tx sx):=lW.av 4 0 zzy;obtain⟨H3,hm,o3⟩:=ajC (h.au bG) task bC;have n3:=o3.nx;have gg:=bG.trans o3;have rG:=lW.out o3 zzy;have vd:=c2.out o3 zzy;unfold rU;by_cases h0:pJ R task bC=0
 ·obtain⟨i,t,rfl,ht,aC,pE,Lg⟩:=TB h0;have aX:=(aac.1 ht).1;have d0:(pJ R (i:Int) bC != 0)=false:=by simp[h0]
  rw[zz2 h0,abO];have k3:av H3 H.next 0 4=some (rv dx R.st tx sx):=rG.av 4 0 zzy;obtain⟨ay,aU,ax,az,H4,r1,r2,r3,r4⟩:=DV (h.au gg) hk.sm;have n4:=r3.nx;have xt:(rv ay R.st ax az).all aW=true:=by simp[r2.v.d.row.one,r2.t.rl.one,r2.s.lg,iV]
  obtain⟨H5,s1,s2,s3,s4⟩:=iE (n:=4) (vs:=rv ay R.st ax az) (rG.out r3 zzy) rfl rfl xt;have fr:∀m,m<H.next+2->∀j∈pj ay aU ax az,j∉[m]:=λm hm j hj=>by rw[No];have:=r4 j hj;omega
  have R5:=r2.out s3 (fr _ zzz);have k5:cellAt H5 H.next 2=some ax:=s2.cellAt rfl;obtain⟨b,o,q1,q2,q3,q4,q5⟩:=R5.v.t.at zzx (sU ht);obtain⟨H6,z1,z2,z3,z4⟩:=R5.set aX q1 ⟨3,bC,0,data⟩;have AK:∀m,m<H.next+2->m∉ak ax:=λm hm z=>by have:=r4 m (aaw _ (aaG _ z));omega
  have s6:=s2.out z3 (AK _ zzz);have iw:=hk.set i ⟨3,bC,0,data⟩;obtain⟨H7,t1,t2,t3,t4⟩:=Vz (R:={R with rs:=R.rs.set i ⟨3,bC,0,data⟩}) s6 z2 (λz=>by have:=r4 _ z;omega) iw.sm iw.len iw.lh;have M6:∀m,m<H.next+2->m≠H.next->m∉H.next::ak ax:=λm hm aE z=>(aal.1 z).elim aE (AK m hm);have KX:=(((vd.out r3 zzy).out s3 (by rw[No];omega)).out z3 (AK _ zzz)).out t4 (M6 _ zzz zzz);generalize jx {R with rs:=R.rs.set i ⟨3,bC,0,data⟩}=R7 at*
  have k7:av H7 H.next 0 4=some (rv ay R7.st ax az):=t2.av 4 0 zzy;obtain⟨H8,w1,w2,w3,w4⟩:=iE (n:=4) (vs:=rv ay R7.st ax az) KX rfl rfl (by simp[r2.v.d.row.one,r2.t.rl.one,r2.s.lg,iV]);have k8:av H8 (H.next+1) 0 4=some (rv ay R7.st ax az):=w2.av 4 0 zzy;have z1':st 4 (.ptr b o) (.agg [zi 3,zi bC,zi 0,.str data]) H5=some H6:=z1;have u7:∀j∈ak ax,H.next<=j:=λj hj=>by have:=r4 j (aaw _ (aaG _ hj));omega
  have out:=fh (fh (fh (fh (gg.trans r3) s3 (la (aaq _))) z3 u7) t4 (λj hj=>(aal.1 hj).elim (λe=>zzz) (u7 j))) w3 (la (agD _));refine⟨ay,aU,ax,az,H8,al9 ?_,t3.out w3 (fr _ zzz),out,λj hj=>by have:=r4 j hj;omega⟩;unfold WB;simp(disch:=try exact zqz)only[aO,n1,bF,k1,hm,d0,k3,r1,s1,k5,q1,z1',t1,k7,w1,k8,ar,aq,zz0,simprocAttr]
 ·have d0:(pJ R task bC != 0)=true:=by simp[h0]
  rw[zz1 h0];obtain⟨H4,w1,w2,w3,w4⟩:=iE (n:=4) (vs:=zR) vd rfl rfl rfl;have k5:av H4 (H.next+1) 0 4=some zR:=w2.av 4 0 zzy;refine qe.err (al9 (?_:_=some (_,H4))) gg w3 (agD _);unfold WB;simp(disch:=try exact zqz)only[aO,n1,bF,k1,hm,d0,w1,k5,ar,aq,zz0,simprocAttr]
end
def Gc:Nat->Nat->Nat
 |0,d=>d|n+1,d=>if d<64000 then Gc n (min (2*d) 64000) else d
def LH (base bC:Nat):Nat:=if base=0\/bC=0 then 0 else Gc (bC-1) (min base 64000)
theorem L4 (ty:Array TypeId)(x y:Int)(H:Hp):jn P .min ty [zi x,zi y] H=some (zi (if y<x then y else x),H):=abk rfl (id rfl)
theorem agf:∀(n d:Nat),d<=64000->Gc n d<=64000
 |0,d,h=>h|n+1,d,h=>by
  unfold Gc;split;·exact agf n _ (aoj _ _)
  ·exact h
theorem azb (b t:Nat):LH b t<=64000:=by
 unfold LH;split;·omega
 ·exact agf _ _ (aoj _ _)
theorem anA {t:Nat}(ht:t<=1000000){H:Hp}(iJ:K.Fn 1):∀(n d k:Nat),k+n=t->d<=64000->ZJ JN GO cK iJ (zi (t:Nat)) (zi (d:Nat)) (zi (k:Nat)) H=iJ (zi (Gc n d:Nat)) H
 |0,d,k,h,hd=>by obtain rfl:k=t:=zzz;rw[afA];simp only[Qt,dA,Gc,zz0,simprocAttr]
 |n+1,d,k,h,hd=>by
  have h1:k<t:=zzz;have es:=dD h1 zzz;rw[afA];unfold Gc;by_cases h2:d<64000
  ·have d2:decide (((d:Nat):Int)<64000)=true:=zz3 zzz;have sh:wD (zi ((d:Nat):Int)) (.int .u64 1)=some (zi ((2*d:Nat):Int)):=by have:=P9 (k:=.i64) (j:=.u64) (a:=d) (b:=1);rw[show (((1:Nat):Int))=1 from rfl] at this;rw[this,show min 1 IntKind.i64.bits=1 from rfl,Nat.pow_one,anH,wrap_i64 zzz zzz]
   have hm:(if (64000:Int)<((2*d:Nat):Int) then (64000:Int) else ((2*d:Nat):Int))=((min (2*d) 64000:Nat):Int):=by split<;>omega
   have Ox:=L4 #[2,2] ((2*d:Nat):Int) 64000 H;rw[hm] at Ox;have ih:=anA ht (H:=H) iJ n (min (2*d) 64000) (k+1) zzz (aoj _ _);rw[zz2 h2];simp only[Qt,aQ h1,d2,sh,Ox,es,ih,zz0,simprocAttr]
  ·have d2:decide (((d:Nat):Int)<64000)=false:=zz4 zzz;rw[zz1 h2];simp only[Qt,aQ h1,d2,zz0,simprocAttr]
theorem auU {base t:Nat}(hb:base<=1000000)(ht:t<=1000000)(H:Hp):cK (zf 145) [zi (base:Nat),zi (t:Nat)] H=some (zi (LH base t:Nat),H):=by
 refine aq5 ?_;unfold am7 LH;by_cases h0:base=0;·have d0:decide (((base:Nat):Int)<1)=true:=zz3 zzz;rw[zz2 (.inl h0)];simp only[d0,zz0,simprocAttr]<;>rfl
 ·have d0:decide (((base:Nat):Int)<1)=false:=zz4 zzz;by_cases h1:t=0;·have d1:decide (((t:Nat):Int)<1)=true:=zz3 zzz;rw[zz2 (.inr h1)];simp only[d0,d1,zz0,simprocAttr]<;>rfl
  ·have d1:decide (((t:Nat):Int)<1)=false:=zz4 zzz;rw[zz1 (λq=>q.elim h0 h1)];have hm:(if (64000:Int)<((base:Nat):Int) then (64000:Int) else ((base:Nat):Int))=((min base 64000:Nat):Int):=by split<;>omega
   have Ox:=L4 #[2,2] ((base:Nat):Int) 64000 H;rw[hm] at Ox;have ih:=λiJ=>anA ht (H:=H) iJ (t-1) (min base 64000) 1 zzz (aoj _ _);rw[show (((1:Nat):Int))=1 from rfl] at ih;simp only[d0,d1,Ox,ih,zz0,simprocAttr]
def dM (base tr:Int):Int:=(LH base.toNat tr.toNat:Nat)
def nu (R:Rn)(i:Nat)(t:RT)(d:Tk)(now:Int):Rn:=
 if t.tr<=d.cu then {R with rs:=R.rs.set i {t with ph:=5,fF:=kc (now+dM d.base t.tr)} } else {R with rs:=R.rs.set i {t with ph:=4,fF:=0},st:=2}
section
variable {H:Hp}{dx sx tx:AV}{xs:List AV}
theorem RO.bW {H':Hp}{R:Rn}{l:List RT}(h:RO H dx xs tx sx R)(hO:OL H' 132 4 tx (eG l))(k:Out (ak tx) H H'):RO H' dx xs tx sx {R with rs:=l}:=
 ⟨⟨h.v.d.out k λj hj z=>(h.dt j z).1 hj,hO.rl,h.v.s.out k λj hj z=>(h.dt j z).2 hj⟩,hO,h.s.out k λj hj z=>(h.dt j z).2 hj,h.dt,h.ds⟩
theorem acR {p i:Nat}{R:Rn}{t:RT}{d:Tk}(hC:Cs H p (rv dx R.st tx sx) 75 0)(hO:RO H dx xs tx sx R)(hp:p∉pj dx xs tx sx)(ht:R.rs[i]?=some t)(hd:R.ts[i]?=some d)(ja:0<=d.base)(hb:d.base<=1000000)(ht0:0<=t.tr)(ht1:t.tr<=1000000)(now:Int):
  ∃H',cK (zf 107) [.ptr p 0,zi (i:Nat),zi now] H=some (.tuple [],H')/\Cs H' p (rv dx (nu R i t d now).st tx sx) 75 0/\RO H' dx xs tx sx (nu R i t d now)/\Out (p::ak tx) H H':=by
 have BQ:p∉ak tx:=λz=>hp (aaw _ (aaG _ z));obtain⟨x,b2,Th,p1,p2,p3,p4,p5,p6⟩:=hO.v.d.at2 hd;have aC:=AX d x p4 H;have o1:=aD H (aJ d x) 99 0;have cT:=aP H (aJ d x) 99 0;have c2:cellAt H p 2=some tx:=hC.cellAt rfl;have c0:cellAt H p 0=some dx:=hC.cellAt rfl;obtain⟨b,o,q1,q2,q3,q4,q5⟩:=(hO.v.t.au o1).at zzx (sU ht);have r1:cellAt (al H (aJ d x) 99 0) b (o+1)=some (zi t.tr):=q5 1 _ (Es t).2.1;have m2:cellAt (al H (aJ d x) 99 0) H.next 2=some (zi d.cu):=cT.cellAt (uZ d x).2.2.1;have m4:cellAt (al H (aJ d x) 99 0) H.next 4=some (zi d.base):=cT.cellAt (uZ d x).2.2.2.2.1;have zG:=hO.au o1;have Mq:=hC.out o1 zzy;have aX:=(aac.1 ht).1;have Iw:cK (zf 145) [zi d.base,zi t.tr] (al H (aJ d x) 99 0)=some (zi (dM d.base t.tr),al H (aJ d x) 99 0):=by have:=auU (base:=d.base.toNat) (t:=t.tr.toNat) zzz zzz (al H (aJ d x) 99 0);rw[show ((d.base.toNat:Nat):Int)=d.base by omega,show ((t.tr.toNat:Nat):Int)=t.tr by omega] at this;exact this
 generalize hA:al H (aJ d x) 99 0=H1 at*
 have two:∀(a c:Int),∃H3 H2,st 1 (.ptr b o) (zi a) H1=some H2/\st 1 (.ptr b (o+2)) (zi c) H2=some H3/\OL H3 132 4 tx (eG (R.rs.set i {t with ph:=a,fF:=c}))/\Out (ak tx) H1 H3:=by intro a c;obtain⟨H2,w1,w2,w3,w4⟩:=zG.t.eV (k:=0) (v:=zi a) (sU ht) q1 rfl zzx;have e2:((eG R.rs).set i ((dQ t).set 0 (zi a)))[i]?=some ((dQ t).set 0 (zi a)):=ae0 (by rw[AA];exact aX);obtain⟨H3,v1,v2,v3,v4⟩:=w2.eV (k:=2) (v:=zi c) e2 q1 rfl zzx;rw[List.set_set] at v2;have fY:((dQ t).set 0 (zi a)).set 2 (zi c)=dQ {t with ph:=a,fF:=c}:=rfl;rw[fY,PF] at v2;rw[aeA] at w1;exact⟨H3,H2,w1,v1,v2,w3.trans v3⟩
 unfold nu;by_cases hle:t.tr<=d.cu;·have dl:decide (t.tr<=d.cu)=true:=zz3 hle;obtain⟨H3,H2,v1,v2,v3,v4⟩:=two 5 (kc (now+dM d.base t.tr));rw[zz2 hle];refine⟨H3,aka ?_,Mq.out v4 BQ,zG.bW v3 v4,(o1.mono λj hj=>by cases hj).trans (v4.mono λj hj=>.tail _ hj)⟩;unfold Wp;simp(disch:=try exact zqz)only[c2,c0,q1,p1,p5,aC,hA,r1,m2,m4,dl,Iw,v1,v2,ar,aq,zz0,simprocAttr]
 ·have dl:decide (t.tr<=d.cu)=false:=zz4 hle;obtain⟨H3,H2,v1,v2,v3,v4⟩:=two 4 0;rw[zz1 hle];obtain⟨H4,w1,w2,w3,w4⟩:=eV (Mq.out v4 BQ) zzx (o:=1) zzy (v:=zi 2) rfl;have fY:(rv dx R.st tx sx).set 1 (zi 2)=rv dx 2 tx sx:=rfl;rw[fY] at w2;have mV:=(zG.bW v3 v4).out w3 λj hj=>by rw[No];intro e;subst e;exact hp hj
  refine⟨H4,aka ?_,w2,⟨⟨mV.v.d,mV.v.t,mV.v.s⟩,mV.t,mV.s,mV.dt,mV.ds⟩,((o1.mono λj hj=>by cases hj).trans (v4.mono λj hj=>.tail _ hj)).trans (w3.mono λj hj=>by rw[No] at hj;subst hj;exact .head _)⟩;unfold Wp;simp(disch:=try exact zqz)only[c2,c0,q1,p1,p5,aC,hA,r1,m2,m4,dl,v1,v2,w1,ar,aq,zz0,simprocAttr]
structure yv (R:Rn):Prop where
 d:∀t∈R.ts,0<=t.base/\t.base<=1000000
 t:∀t∈R.rs,0<=t.tr/\t.tr<=1000000
def zZ (R:Rn)(task bC now:Int):Rn×Int:=
 if pJ R task bC=0 then (match R.rs[task.toNat]?,R.ts[task.toNat]? with
  |some t,some d=>(nu R task.toNat t d now,0)|_,_=>(tA,0)) else (tA,pJ R task bC)
theorem az5 {R:Rn}(h:RV H dx xs tx sx R)(hk:oC R)(hb:yv R)(task bC now:Int):
  qe (zf 80) [.agg (rv dx R.st tx sx),zi task,zi bC,zi now] H (zZ R task bC now).1 (zZ R task bC now).2:=by
 have aO:bx 75 (.agg (rv dx R.st tx sx)) H=some (H.next,al H (rv dx R.st tx sx) 75 0):=iz zzy;have o1:=aD H (rv dx R.st tx sx) 75 0;have c1:=aP H (rv dx R.st tx sx) 75 0;have n1:(al H (rv dx R.st tx sx) 75 0).next=H.next+1:=rfl;generalize al H (rv dx R.st tx sx) 75 0=H1 at*
 have o2:=aD H1 zR 75 0;have c2:=aP H1 zR 75 0;have n2:(al H1 zR 75 0).next=H.next+2:=by rw[bS,n1]
 rw[n1] at c2;generalize bF:al H1 zR 75 0=H2 at*
 have bG:=o1.trans o2;have lW:=c1.out o2 zzy;have k1:av H2 H.next 0 4=some (rv dx R.st tx sx):=lW.av 4 0 zzy;obtain⟨H3,hm,o3⟩:=ajC (h.au bG) task bC;have n3:=o3.nx;have gg:=bG.trans o3;have rG:=lW.out o3 zzy;have vd:=c2.out o3 zzy;unfold zZ;by_cases h0:pJ R task bC=0
 ·obtain⟨i,t,rfl,ht,aC,pE,Lg⟩:=TB h0;have aX:=(aac.1 ht).1;have hd:R.ts[i]?=some (R.ts[i]'(by rw[<-hk.len];exact aX)):=aai _;have d0:(pJ R (i:Int) bC != 0)=false:=by simp[h0]
  rw[zz2 h0,abO,ht,hd];simp only;generalize R.ts[i]'(by rw[<-hk.len];exact aX)=d at*
  have k3:av H3 H.next 0 4=some (rv dx R.st tx sx):=rG.av 4 0 zzy;obtain⟨ay,aU,ax,az,H4,r1,r2,r3,r4⟩:=DV (h.au gg) hk.sm;have n4:=r3.nx;have xt:∀z:Int,(rv ay z ax az).all aW=true:=λz=>by simp[r2.v.d.row.one,r2.t.rl.one,r2.s.lg,iV]
  obtain⟨H5,s1,s2,s3,s4⟩:=iE (n:=4) (vs:=rv ay R.st ax az) (rG.out r3 zzy) rfl rfl (xt _);have fr:∀m,m<H.next+2->∀j∈pj ay aU ax az,j∉[m]:=λm hm j hj=>by rw[No];have:=r4 j hj;omega
  have R5:=r2.out s3 (fr _ zzz);have AK:∀m,m<H.next+2->m∉ak ax:=λm hm z=>by have:=r4 m (aaw _ (aaG _ z));omega
  have b1:=hb.d d (aab hd);have b2:=hb.t t (aab ht);obtain⟨H7,t1,t2,t3,t4⟩:=acR s2 R5 (λz=>by have:=r4 _ z;omega) ht hd b1.1 b1.2 b2.1 b2.2 now;have M6:∀m,m<H.next+2->m≠H.next->m∉H.next::ak ax:=λm hm aE z=>(aal.1 z).elim aE (AK m hm);have KX:=((vd.out r3 zzy).out s3 (by rw[No];omega)).out t4 (M6 _ zzz zzz);generalize nu R i t d now=R7 at*
  have k7:av H7 H.next 0 4=some (rv ay R7.st ax az):=t2.av 4 0 zzy;obtain⟨H8,w1,w2,w3,w4⟩:=iE (n:=4) (vs:=rv ay R7.st ax az) KX rfl rfl (xt _);have k8:av H8 (H.next+1) 0 4=some (rv ay R7.st ax az):=w2.av 4 0 zzy;have u7:∀j∈ak ax,H.next<=j:=λj hj=>by have:=r4 j (aaw _ (aaG _ hj));omega
  have out:=fh (fh (fh (gg.trans r3) s3 (la (aaq _))) t4 (λj hj=>(aal.1 hj).elim (λe=>zzz) (u7 j))) w3 (la (agD _));refine⟨ay,aU,ax,az,H8,aor ?_,t3.out w3 (fr _ zzz),out,λj hj=>by have:=r4 j hj;omega⟩;unfold XE;simp(disch:=try exact zqz)only[aO,n1,bF,k1,hm,d0,k3,r1,s1,t1,k7,w1,k8,ar,aq,zz0,simprocAttr]
 ·have d0:(pJ R task bC != 0)=true:=by simp[h0]
  rw[zz1 h0];obtain⟨H4,w1,w2,w3,w4⟩:=iE (n:=4) (vs:=zR) vd rfl rfl rfl;have k5:av H4 (H.next+1) 0 4=some zR:=w2.av 4 0 zzy;refine qe.err (aor (?_:_=some (_,H4))) gg w3 (agD _);unfold XE;simp(disch:=try exact zqz)only[aO,n1,bF,k1,hm,d0,w1,k5,ar,aq,zz0,simprocAttr]
end
theorem aBv {H:Hp}{g:Nat}{name:Str}(hg:cellAt H g 0=some (.str name))(Cq:g<H.next)(t:Tk)(x:AV):
  ∃H',cK (.func (.func 110) [] [.ptr g 0]) [.agg (aJ t x)] H=some (.bool ((t.on==name)&&!(name==[])),H')/\Out [] H H':=by
 have b1:=xj t x H;have o1:=aD H (aJ t x) 99 0;have c1:=aP H (aJ t x) 99 0;have wq:cellAt (al H (aJ t x) 99 0) g 0=some (.str name):=by rw[xE Cq];exact hg
 have k5:=c1.cellAt (uZ t x).2.2.2.2.2;generalize hA:al H (aJ t x) 99 0=H1 at*
 refine⟨H1,aqR ?_,o1⟩;unfold agS;cases h1:(t.on==name) with
 |false=>simp(disch:=try exact zqz)only[b1,hA,wq,k5,h1,acn,ar,aq,zz0,simprocAttr]|true=>
  cases h2:(name==[]) with
  |false=>simp(disch:=try exact zqz)only[b1,hA,wq,k5,h1,h2,acy,ar,aq,zz0,simprocAttr]|true=>simp(disch:=try exact zqz)only[b1,hA,wq,k5,h1,h2,acy,ar,aq,zz0,simprocAttr]
def Qo (name:Str)(c:List AV):Bool:=match c[5]? with|some (AV.str s)=>(s==name)&&!(name==[])|_=>false
def KW (ts:List Tk)(name:Str):Bool:=ts.any λt=>(t.on==name)&&!(name==[])
def vi (R:Rn)(name:Str):Rn×Int:=
 if R.st≠0 then (tA,9) else if R.sg.any (λs=>name==s) then (tA,5) else if KW R.ts name then (jx {R with sg:=R.sg++[name]},0) else (tA,1)
theorem asn {ts:List Tk}{name:Str}:∀{xs:List AV},xs.length=ts.length->(List.zipWith aJ ts xs).any (Qo name)=KW ts name:=by
 induction ts with
 |nil=>intro xs _;rfl|cons t ts ih=>
  intro xs h;cases xs with
  |nil=>simp at h|cons x xs=>
   simp only[aau,Nat.add_right_cancel_iff] at h;show (Qo name (aJ t x)||(List.zipWith aJ ts xs).any (Qo name))=_;rw[ih h];rfl
theorem aDf {H:Hp}{dx tx sx:AV}{xs:List AV}{R:Rn}(h:RV H dx xs tx sx R)(hk:oC R)(rM:R.sg.length<=900)(name:Str):
  qe (zf 81) [.agg (rv dx R.st tx sx),.str name] H (vi R name).1 (vi R name).2:=by
 have aO:bx 75 (.agg (rv dx R.st tx sx)) H=some (H.next,al H (rv dx R.st tx sx) 75 0):=iz zzy;have o1:=aD H (rv dx R.st tx sx) 75 0;have c1:=aP H (rv dx R.st tx sx) 75 0;have n1:(al H (rv dx R.st tx sx) 75 0).next=H.next+1:=rfl;generalize bw:al H (rv dx R.st tx sx) 75 0=H1 at*
 have oS:=aD H1 [.str name] 9 0;have cS:=aP H1 [.str name] 9 0;have nS:(al H1 [.str name] 9 0).next=H.next+2:=by rw[bS,n1]
 rw[n1] at cS;generalize hAS:al H1 [.str name] 9 0=HS at*
 have o2:=aD HS zR 75 0;have c2:=aP HS zR 75 0;have n2:(al HS zR 75 0).next=H.next+3:=by rw[bS,nS]
 rw[nS] at c2;generalize bF:al HS zR 75 0=H2 at*
 have bG:=(o1.trans oS).trans o2;have lW:=(c1.out oS zzy).out o2 zzy;have cS2:=cS.out o2 zzy;have k0:cellAt H2 H.next 0=some dx:=lW.cellAt rfl;have k1:cellAt H2 H.next 1=some (zi R.st):=lW.cellAt rfl;have k3:cellAt H2 H.next 3=some sx:=lW.cellAt rfl;have kS:cellAt H2 (H.next+1) 0=some (.str name):=cS2.cellAt rfl;unfold vi;by_cases h0:R.st≠0
 ·have d0:(R.st != 0)=true:=by simp[h0]
  rw[zz2 h0];have k5:av H2 (H.next+2) 0 4=some zR:=c2.av 4 0 zzy;refine qe.err (m:=H.next+2) (P6 (?_:_=some (_,H2))) bG ((Out.refl [] H2).mono λj hj=>by cases hj) zzz;unfold NZ;simp(disch:=try exact zqz)only[aO,bw,n1,hAS,nS,bF,k1,d0,k5,ar,aq,zz0,simprocAttr]
 have d0:(R.st != 0)=false:=by simpa using h0
 rw[zz1 h0];have nY:=WC (h.s.au bG) zzz name;cases h5:R.sg.any (λs=>name==s) with
 |true=>
  rw[h5] at nY;rw[zz2 rfl];obtain⟨H4,w1,w2,w3,w4⟩:=iE (n:=4) (vs:=zR) c2 rfl rfl rfl;have k5:av H4 (H.next+2) 0 4=some zR:=w2.av 4 0 zzy;refine qe.err (P6 (?_:_=some (_,H4))) bG w3 zzz;unfold NZ;simp(disch:=try exact zqz)only[aO,bw,n1,hAS,nS,bF,k1,d0,k3,kS,nY,w1,k5,ar,aq,zz0,simprocAttr]
 |false=>
  rw[h5] at nY;rw[zz1 zzy];have sG:(List.zipWith aJ R.ts xs).length<=1000:=by rw[aey];exact afi (Nat.min_le_left _ _) hk.sm.n
  obtain⟨H3,f1,f2⟩:=aoT (fv:=.func (.func 110) [] [.ptr (H.next+1) 0]) (p:=Qo name) (h.d.row.au bG) zzz (λH' k a ha=>by
   obtain⟨i,hi⟩:=ab2 ha;rw[adf] at hi;cases ht:R.ts[i]? with
   |none=>rw[ht] at hi;simp at hi|some t=>
    cases hx:xs[i]? with
    |none=>rw[ht,hx] at hi;simp at hi|some x=>
     rw[ht,hx] at hi;simp only[acM] at hi;subst hi;have se:=k.nx;exact aBv (g:=H.next+1) (by rw[k.cellAt zzz zzy];exact kS) zzz t x)
  rw[asn h.d.len] at f1;have gg:=bG.trans f2;have n3:=f2.nx;have rG:=lW.out f2 zzy;have cS3:=cS2.out f2 zzy;have vd:=c2.out f2 zzy;cases h6:KW R.ts name with
  |false=>
   rw[h6] at f1;rw[zz1 zzy];obtain⟨H4,w1,w2,w3,w4⟩:=iE (n:=4) (vs:=zR) vd rfl rfl rfl;have k5:av H4 (H.next+2) 0 4=some zR:=w2.av 4 0 zzy;refine qe.err (P6 (?_:_=some (_,H4))) gg w3 zzz;unfold NZ;simp(disch:=try exact zqz)only[aO,bw,n1,hAS,nS,bF,k1,d0,k3,kS,nY,k0,f1,w1,k5,ar,aq,zz0,simprocAttr]
  |true=>
   rw[h6] at f1;rw[zz2 rfl];have k4:av H3 H.next 0 4=some (rv dx R.st tx sx):=rG.av 4 0 zzy;obtain⟨ay,aU,ax,az,H4,r1,r2,r3,r4⟩:=DV (h.au gg) hk.sm;have n4:=r3.nx;have xt:∀z:Int,∀s:AV,aW s=true->(rv ay z ax s).all aW=true:=λz s hs=>by simp[r2.v.d.row.one,r2.t.rl.one,hs,iV]
   obtain⟨H5,s1,s2,s3,s4⟩:=iE (n:=4) (vs:=rv ay R.st ax az) (rG.out r3 zzy) rfl rfl (xt _ _ r2.s.lg);have fr:∀m,m<H.next+3->∀j∈pj ay aU ax az,j∉[m]:=λm hm j hj=>by rw[No];have:=r4 j hj;omega
   have R5:=r2.out s3 (fr _ zzz);have ub:cellAt H5 H.next 3=some az:=s2.cellAt rfl;have kS5:cellAt H5 (H.next+1) 0=some (.str name):=((cS3.out r3 zzy).out s3 (by rw[No];omega)).cellAt rfl;have fl5:=R5.v.lt;have n5:=s3.nx;have nsx:∀m,m<H.next+3->m∉ak az:=λm hm z=>by have:=r4 m (aaw _ (aaw _ z));omega
   obtain⟨xD,H6,p1,p2,p3,p4,p5⟩:=wL (el2:=9) (z:=[(.str [])]) (vs:=[.str name]) R5.s rfl rfl zzx (by rw[gQ];simp;omega);have uG:strs R.sg++[.str name]=strs (R.sg++[name]):=by simp[strs]
   rw[uG] at p2;have fX:=p1 _ rfl;have n6:=p3.nx;have s6:=s2.out p3 (nsx _ zzz);obtain⟨H7,v1,v2,v3,v4⟩:=Am.K.eV s6 zzx (o:=3) zzy (v:=xD) p5;have fY:(rv ay R.st ax az).set 3 xD=rv ay R.st ax xD:=rfl;rw[fY] at v2;have n7:=v3.nx;have om:∀j∈ak xD,j∈ak az\/H5.next<=j:=p4;have HR:∀j∈pj ay aU ax xD,H.next+3<=j:=λj hj=>by
    rcases aaQ.1 hj with hj|hj;·have:=r4 j (aaG _ hj);omega
    ·rcases aaQ.1 hj with hj|hj;·have:=r4 j (aaw _ (aaG _ hj));omega
     ·rcases om j hj with z|z;·have:=r4 j (aaw _ (aaw _ z));omega
      ·omega
   have MO:∀j,H.next+3<=j->j∉[H.next]:=λj hj=>by rw[No];omega
   have RO7:RO H7 ay aU ax xD {R with sg:=R.sg++[name]}:=by
    have HX:=(R5.v.d.out p3 λj hj z=>R5.ds j z hj).out v3 λj hj=>MO j (HR j (aaG _ hj));have ht6:=(R5.t.out p3 λj hj z=>(R5.dt j hj).2 z).out v3 λj hj=>MO j (HR j (aaw _ (aaG _ hj)));have hs6:=p2.out v3 λj hj=>MO j (HR j (aaw _ (aaw _ hj)));refine⟨⟨HX,ht6.rl,hs6.rw⟩,ht6,hs6,λj hj=>⟨(R5.dt j hj).1,λz=>?_⟩,λj hj z=>?_⟩
    ·rcases om j z with y|y;·exact (R5.dt j hj).2 y
     ·have:=R5.t.rl.1.lt j hj;omega
    ·rcases om j hj with y|y;·exact R5.ds j y z
     ·have:=R5.v.d.lt j z;omega
   have iw:oC {R with sg:=R.sg++[name]}:=⟨⟨hk.sm.n,hk.sm.a,hk.sm.r,by show (R.sg++[name]).length<=1000;rw[aah];simp;omega⟩,hk.len,hk.lh⟩;obtain⟨H8,t1,t2,t3,t4⟩:=Vz (R:={R with sg:=R.sg++[name]}) v2 RO7 (λz=>by have:=HR _ z;omega) iw.sm iw.len iw.lh;have PV:∀j∈ak ax,H.next+3<=j:=λj hj=>by have:=r4 j (aaw _ (aaG _ hj));omega
   have cQ8:=((((vd.out r3 zzy).out s3 (by rw[No];omega)).out p3 (nsx _ zzz)).out v3 (by rw[No];omega)).out t4 λz=>(aal.1 z).elim (λe=>zzz) λz=>by have:=PV _ z;omega
   generalize jx {R with sg:=R.sg++[name]}=R8 at*
   have k8:av H8 H.next 0 4=some (rv ay R8.st ax xD):=t2.av 4 0 zzy;obtain⟨H9,w1,w2,w3,w4⟩:=iE (n:=4) (vs:=rv ay R8.st ax xD) cQ8 rfl rfl (xt _ _ p5);have k9:av H9 (H.next+2) 0 4=some (rv ay R8.st ax xD):=w2.av 4 0 zzy;have out:=fh (fh (fh (fh (fh (gg.trans r3) s3 (la (aaq _))) p3 (λj hj=>by have:=r4 j (aaw _ (aaw _ hj));omega)) v3 (la (aaq _))) t4 (λj hj=>(aal.1 hj).elim (λe=>zzz) λz=>by have:=PV _ z;omega)) w3 (la zzz);refine⟨ay,aU,ax,xD,H9,P6 ?_,t3.out w3 (λj hj=>by rw[No];have:=HR j hj;omega),out,λj hj=>by have:=HR j hj;omega⟩;unfold NZ;simp(disch:=try exact zqz)only[aO,bw,n1,hAS,nS,bF,k1,d0,k3,kS,nY,k0,f1,k4,r1,s1,ub,kS5,fX,v1,t1,k8,w1,k9,ar,aq,zz0,simprocAttr]
def BU (H:Hp)(i:Nat)(s:List Nat)(pos:Nat):Prop:=i<H.next/\H.h.get i=some (.vS s pos)
def HM (H:Hp)(s:List Nat):Hp:=⟨H.h.put 34 H.next (.vS s 0),H.next+1⟩
theorem akH {t:TypeId}(hu:P.underlying t=some .string)(s:List Nat)(H:Hp):C9 P t (.str s) H=some (.ptr H.next 0,HM H s):=by unfold C9;rw[hu];rfl
theorem adU (H:Hp)(s:List Nat):BU (HM H s) H.next s 0:=⟨ahL _,by show (Tr.put 34 H.h H.next _).get H.next=_;rw[Tr.put,Tr.gE,zz2 rfl]⟩
theorem ag2 (H:Hp)(s:List Nat):Out [] H (HM H s):=⟨agD _,λj hj _=>by show (Tr.put 34 H.h H.next _).get j=_;rw[Tr.put,Tr.gE,zz1 zzz]⟩
theorem BU.out {H H':Hp}{i pos:Nat}{s:List Nat}{S:List Nat}(h:BU H i s pos)(k:Out S H H')(hi:i∉S):BU H' i s pos:=⟨ac2 h.1 k.1,by rw[k.2 i h.1 hi];exact h.2⟩
theorem ajn {H:Hp}{i pos b:Nat}{s:List Nat}(h:BU H i s pos)(hb:s[pos]?=some b)(h7:b<128):
  ∃H',Bf (.ptr i 0) true H=some (.tuple [.bool true,zi (pos:Nat),.int .i32 (b:Nat)],H')/\BU H' i s (pos+1)/\Out [i] H H'/\H'.next=H.next:=by
 have hl:=(aac.1 hb).1;have hd:s.drop pos=b::s.drop (pos+1):=by rw[aiy hl];rw[aai hl] at hb;cases hb;rfl
 refine⟨Am.setObj H i (.vS s (pos+1)),?_,⟨h.1,by rw[Sy,zz2 rfl]⟩,⟨aaq _,λj _ hn=>by rw[Sy,zz1 (by simpa using hn)]⟩,rfl⟩;have h8:Nat.blt b 128=true:=by rw[aeg];exact h7
 unfold Bf;simp only[h.2,hd,h8,cond_true]
theorem aeZ {H:Hp}{i pos:Nat}{s:List Nat}(h:BU H i s pos)(hp:s.length<=pos):Bf (.ptr i 0) true H=some (.tuple [.bool false],H):=by have hd:s.drop pos=[]:=aiA hp;unfold Bf;simp only[h.2,hd]
structure Ev where
 kd:Int
 rn:Int
 tk:Int
 ty:Int
 n:Int
 nm:Str
 ky:Str
 dt:Str
def aS (e:Ev):List AV:=[zi e.kd,zi e.rn,zi e.tk,zi e.ty,zi e.n,.str e.nm,.str e.ky,.str e.dt]
def pM (k:Int):Str:=
 if k=1 then [77,68] else if k=2 then [82,77,75] else if k=3\/k=5 then [82,84,89] else if k=4 then [82,84,89,68] else if k=6\/k=9 then [78] else if k=7 then [82,77] else if k=8 then [82] else []
def np (n a b:Int):Bool:=decide (a<=n)&&decide (n<=b)
noncomputable def wK (e:Ev)(c:Nat):Bool:=
 if c=82 then np e.rn 1 64 else if c=84 then np e.tk 0 15 else if c=89 then np e.ty 1 9 else if c=78 then np e.n 1 (if e.kd=9 then 1048575 else 1099511627776)
 else if c=77 then ui e.nm else if c=75 then decide (e.ky.length<=16) else if e.kd=1 then decide (e.dt.length<=900) else decide (e.dt.length<=64)
def NT (e x:Ev)(c:Nat):Ev:=
 if c=82 then {x with rn:=e.rn} else if c=84 then {x with tk:=e.tk} else if c=89 then {x with ty:=e.ty} else if c=78 then {x with n:=e.n}
 else if c=77 then {x with nm:=e.nm} else if c=75 then {x with ky:=e.ky} else if c=68 then {x with dt:=e.dt} else x
def BA (k:Int):Ev:=⟨k,0,0,0,0,[],[],[]⟩
def Ho (e:Ev)(l:Str):Ev:=l.foldl (NT e) (BA e.kd)
def Qs (a b:Ev):Bool:=(a.kd==b.kd)&&((a.rn==b.rn)&&((a.tk==b.tk)&&((a.ty==b.ty)&&((a.n==b.n)&&((a.nm==b.nm)&&((a.ky==b.ky)&&(a.dt==b.dt)))))))
noncomputable def Cz (e:Ev):Bool := !(pM e.kd==[])&&(Qs (Ho e (pM e.kd)) e&&(pM e.kd).all (wK e))
theorem tN (e:Ev):(aS e).length=8:=rfl
theorem acu (e:Ev):(aS e)[0]?=some (zi e.kd)/\(aS e)[1]?=some (zi e.rn)/\(aS e)[2]?=some (zi e.tk)/\(aS e)[3]?=some (zi e.ty)/\(aS e)[4]?=some (zi e.n)/\(aS e)[5]?=some (.str e.nm)/\(aS e)[6]?=some (.str e.ky)/\(aS e)[7]?=some (.str e.dt):=⟨rfl,rfl,rfl,rfl,rfl,rfl,rfl,rfl⟩
theorem Zt (k:Int)(H:Hp):cK (zf 48) [zi k] H=some (.str (pM k),H):=by
 refine aqD ?_;unfold alM pM;by_cases h1:k=1;·subst h1;simp only[zz0,simprocAttr,↓reduceIte]
 have b1:(k==1)=false:=by simp[h1]
 by_cases h2:k=2;·subst h2;simp only[b1,zz0,simprocAttr]<;>rfl
 have b2:(k==2)=false:=by simp[h2]
 by_cases h3:k=3;·subst h3;simp only[b1,b2,zz0,simprocAttr]<;>rfl
 have b3:(k==3)=false:=by simp[h3]
 by_cases h5:k=5;·subst h5;simp only[b1,b2,b3,zz0,simprocAttr]<;>rfl
 have b5:(k==5)=false:=by simp[h5]
 by_cases h4:k=4;·subst h4;simp only[b1,b2,b3,b5,zz0,simprocAttr]<;>rfl
 have b4:(k==4)=false:=by simp[h4]
 by_cases h6:k=6;·subst h6;simp only[b1,b2,b3,b5,b4,zz0,simprocAttr]<;>rfl
 have b6:(k==6)=false:=by simp[h6]
 by_cases h9:k=9;·subst h9;simp only[b1,b2,b3,b5,b4,b6,zz0,simprocAttr]<;>rfl
 have b9:(k==9)=false:=by simp[h9]
 by_cases h7:k=7;·subst h7;simp only[b1,b2,b3,b5,b4,b6,b9,zz0,simprocAttr]<;>rfl
 have b7:(k==7)=false:=by simp[h7]
 by_cases h8:k=8;·subst h8;simp only[b1,b2,b3,b5,b4,b6,b9,b7,zz0,simprocAttr]<;>rfl
 have b8:(k==8)=false:=by simp[h8]
 simp only[b1,b2,b3,b5,b4,b6,b9,b7,b8,h1,h2,h3,h4,h5,h6,h7,h8,h9,or_self,↓reduceIte,zz0,simprocAttr]
theorem X9 (n a b:Int)(H:Hp):cK (zf 87) [zi n,zi a,zi b] H=some (.bool (np n a b),H):=by
 refine awq ?_;unfold aif np;by_cases h1:a<=n;·simp(disch:=try exact zqz)only[h1,acy,ar,aq,zz0,simprocAttr]
 ·simp(disch:=try exact zqz)only[h1,acn,ar,aq,zz0,simprocAttr]
theorem axO (e:Ev)(c:Nat)(H:Hp):∃H',cK (zf 52) [.agg (aS e),.int .i32 (c:Nat)] H=some (.bool (wK e c),H')/\Out [] H H':=by
 have aO:bx 26 (.agg (aS e)) H=some (H.next,al H (aS e) 26 0):=iz (by rw[tN];omega);have o1:=aD H (aS e) 26 0;have c1:=aP H (aS e) 26 0;generalize al H (aS e) 26 0=H1 at*
 obtain⟨e0,e1,e2,e3,e4,e5,e6,e7⟩:=acu e;have k0:=c1.cellAt e0;have k1:=c1.cellAt e1;have k2:=c1.cellAt e2;have k3:=c1.cellAt e3;have k4:=c1.cellAt e4;have k5:=c1.cellAt e5;have k6:=c1.cellAt e6;have k7:=c1.cellAt e7;have hd:∀n:Nat,c≠n->(((c:Nat):Int)==(n:Nat))=false:=λn hn=>by rw[zz8];omega
 refine⟨H1,aqv ?_,o1⟩;unfold alS wK;by_cases h1:c=82;·subst h1;simp(disch:=try exact zqz)only[aO,k1,X9,↓reduceIte,afj,ar,aq,zz0,simprocAttr]
 have b1:(((c:Nat):Int)==82)=false:=hd 82 h1;rw[zz1 h1];by_cases h2:c=84;·subst h2;simp(disch:=try exact zqz)only[aO,k2,X9,↓reduceIte,afj,ar,aq,zz0,simprocAttr]
 have b2:(((c:Nat):Int)==84)=false:=hd 84 h2;rw[zz1 h2];by_cases h3:c=89;·subst h3;simp(disch:=try exact zqz)only[aO,k3,X9,↓reduceIte,afj,ar,aq,zz0,simprocAttr]
 have b3:(((c:Nat):Int)==89)=false:=hd 89 h3;rw[zz1 h3];by_cases h4:c=78
 ·subst h4;rw[zz2 rfl];by_cases hk:e.kd=9
  ·have bk:(e.kd==9)=true:=by simp[hk]
   rw[zz2 hk];unfold np;by_cases hn:1<=e.n;·simp(disch:=try exact zqz)only[aO,k0,k4,bk,hn,acy,afj,ar,aq,zz0,simprocAttr]
   ·simp(disch:=try exact zqz)only[aO,k0,k4,bk,hn,acn,afj,ar,aq,zz0,simprocAttr]
  ·have bk:(e.kd==9)=false:=by simp[hk]
   rw[zz1 hk];unfold np;by_cases hn:1<=e.n;·simp(disch:=try exact zqz)only[aO,k0,k4,bk,hn,acy,afj,ar,aq,zz0,simprocAttr]
   ·simp(disch:=try exact zqz)only[aO,k0,k4,bk,hn,acn,afj,ar,aq,zz0,simprocAttr]
 have b4:(((c:Nat):Int)==78)=false:=hd 78 h4;rw[zz1 h4];by_cases h5:c=77;·subst h5;simp(disch:=try exact zqz)only[aO,k5,Ob,↓reduceIte,afj,ar,aq,zz0,simprocAttr]
 have b5:(((c:Nat):Int)==77)=false:=hd 77 h5;rw[zz1 h5];have hle:∀(a n:Nat),decide (((a:Nat):Int)<=((n:Nat):Int))=decide (a<=n):=λa n=>zzy;by_cases h6:c=75;·subst h6;have:=hle e.ky.length 16;rw[show (((16:Nat):Int))=16 from rfl] at this;simp(disch:=try exact zqz)only[aO,k6,this,↓reduceIte,afj,ar,aq,zz0,simprocAttr]
 have b6:(((c:Nat):Int)==75)=false:=hd 75 h6;rw[zz1 h6];by_cases h7:e.kd=1
 ·have b7:(e.kd==1)=true:=by simp[h7]
  have:=hle e.dt.length 900;rw[show (((900:Nat):Int))=900 from rfl] at this;rw[zz2 h7];simp(disch:=try exact zqz)only[aO,k0,k7,b1,b2,b3,b4,b5,b6,b7,this,ar,aq,zz0,simprocAttr]
 ·have b7:(e.kd==1)=false:=by simp[h7]
  have:=hle e.dt.length 64;rw[show (((64:Nat):Int))=64 from rfl] at this;rw[zz1 h7];simp(disch:=try exact zqz)only[aO,k0,k7,b1,b2,b3,b4,b5,b6,b7,this,ar,aq,zz0,simprocAttr]
theorem adJ {e:Ev}{E X it:Nat}{l:Str}{y:AV}(hl:∀c∈l,c<128)(h1:E≠X)(h2:E≠it)(h3:X≠it):∀(r:Str) (i:Nat) (H:Hp) (x:Ev),l.drop i=r->BU H it l i->Cs H E (aS e) 26 0->Cs H X (aS x) 26 0->
  ∃H',(∀dh:K.Fn 2,Se JN GO cK dh (.ptr E 0) y (.ptr X 0) (.ptr it 0) H=dh y (.ptr X 0) H')/\Cs H' X (aS (r.foldl (NT e) x)) 26 0/\Out [it,X] H H'/\H'.next=H.next
 |[],i,H,x,h,hS,hE,hX=>by
  have hi:l.length<=i:=by
   rcases alD i l.length with q|q;·rw[aiy q] at h;cases h
   ·exact q
  refine⟨H,λdh=>?_,hX,Out.refl _ _,rfl⟩;rw[C6];simp only[AU,aeZ hS hi,zz0,simprocAttr]
 |c::r,i,H,x,h,hS,hE,hX=>by
  obtain⟨g1,g2,g3⟩:=dU h;obtain⟨H1,n1,n2,n3,n4⟩:=ajn hS g2 (hl c (aab g2));have Dm:=hE.out n3 (by simpa using h2);have hX1:=hX.out n3 (by simpa using h3);obtain⟨e0,e1,e2,e3,e4,e5,e6,e7⟩:=acu e;have hd:∀n:Nat,c≠n->(((c:Nat):Int)==(n:Nat))=false:=λn hn=>by rw[zz8];omega
  have fin:∀(H2:Hp) (x':Ev),Cs H2 X (aS x') 26 0->Out [X] H1 H2->H2.next=H1.next->NT e x c=x'->∃H',(∀dh:K.Fn 2,Se JN GO cK dh (.ptr E 0) y (.ptr X 0) (.ptr it 0) H2=dh y (.ptr X 0) H')/\Cs H' X (aS ((c::r).foldl (NT e) x)) 26 0/\Out [it,X] H H'/\H'.next=H.next:=by intro H2 x' qU ho hn hx;obtain⟨H',i1,i2,i3,i4⟩:=adJ (y:=y) hl h1 h2 h3 r (i+1) H2 x' g3 (n2.out ho (by simpa using λq=>h3 q.symm)) (Dm.out ho (by simpa using h1)) qU;refine⟨H',i1,by rw[List.foldl_cons,hx];exact i2,((n3.mono (λj hj=>by simp at hj;simp[hj])).trans (ho.mono (λj hj=>by simp at hj;simp[hj]))).trans i3,zzz⟩
  have sv:∀(o:Nat) (v:AV),o<8->aW v=true->∃H2,st 1 (.ptr X o) v H1=some H2/\Cs H2 X ((aS x).set o v) 26 0/\Out [X] H1 H2/\H2.next=H1.next:=λo v ho hv=>eV hX1 zzx (by rw[tN];exact ho) hv;by_cases q1:c=82;·subst q1;obtain⟨H2,s1,s2,s3,s4⟩:=sv 1 (zi e.rn) zzz rfl;obtain⟨H',i1,i2,i3,i4⟩:=fin H2 {x with rn:=e.rn} s2 s3 s4 rfl;refine⟨H',λdh=>?_,i2,i3,i4⟩;rw[C6];simp(disch:=try exact zqz)only[AU,n1,Dm.cellAt e1,s1,i1,afj,ar,aq,zz0,simprocAttr]
  have b1:(((c:Nat):Int)==82)=false:=hd 82 q1;by_cases q2:c=84;·subst q2;obtain⟨H2,s1,s2,s3,s4⟩:=sv 2 (zi e.tk) zzz rfl;obtain⟨H',i1,i2,i3,i4⟩:=fin H2 {x with tk:=e.tk} s2 s3 s4 rfl;refine⟨H',λdh=>?_,i2,i3,i4⟩;rw[C6];simp(disch:=try exact zqz)only[AU,n1,Dm.cellAt e2,s1,i1,afj,ar,aq,zz0,simprocAttr]
  have b2:(((c:Nat):Int)==84)=false:=hd 84 q2;by_cases q3:c=89;·subst q3;obtain⟨H2,s1,s2,s3,s4⟩:=sv 3 (zi e.ty) zzz rfl;obtain⟨H',i1,i2,i3,i4⟩:=fin H2 {x with ty:=e.ty} s2 s3 s4 rfl;refine⟨H',λdh=>?_,i2,i3,i4⟩;rw[C6];simp(disch:=try exact zqz)only[AU,n1,Dm.cellAt e3,s1,i1,afj,ar,aq,zz0,simprocAttr]
  have b3:(((c:Nat):Int)==89)=false:=hd 89 q3;by_cases q4:c=78;·subst q4;obtain⟨H2,s1,s2,s3,s4⟩:=sv 4 (zi e.n) zzz rfl;obtain⟨H',i1,i2,i3,i4⟩:=fin H2 {x with n:=e.n} s2 s3 s4 rfl;refine⟨H',λdh=>?_,i2,i3,i4⟩;rw[C6];simp(disch:=try exact zqz)only[AU,n1,Dm.cellAt e4,s1,i1,afj,ar,aq,zz0,simprocAttr]
  have b4:(((c:Nat):Int)==78)=false:=hd 78 q4;by_cases q5:c=77;·subst q5;obtain⟨H2,s1,s2,s3,s4⟩:=sv 5 (.str e.nm) zzz rfl;obtain⟨H',i1,i2,i3,i4⟩:=fin H2 {x with nm:=e.nm} s2 s3 s4 rfl;refine⟨H',λdh=>?_,i2,i3,i4⟩;rw[C6];simp(disch:=try exact zqz)only[AU,n1,Dm.cellAt e5,s1,i1,afj,ar,aq,zz0,simprocAttr]
  have b5:(((c:Nat):Int)==77)=false:=hd 77 q5;by_cases q6:c=75;·subst q6;obtain⟨H2,s1,s2,s3,s4⟩:=sv 6 (.str e.ky) zzz rfl;obtain⟨H',i1,i2,i3,i4⟩:=fin H2 {x with ky:=e.ky} s2 s3 s4 rfl;refine⟨H',λdh=>?_,i2,i3,i4⟩;rw[C6];simp(disch:=try exact zqz)only[AU,n1,Dm.cellAt e6,s1,i1,afj,ar,aq,zz0,simprocAttr]
  have b6:(((c:Nat):Int)==75)=false:=hd 75 q6;by_cases q7:c=68;·subst q7;obtain⟨H2,s1,s2,s3,s4⟩:=sv 7 (.str e.dt) zzz rfl;obtain⟨H',i1,i2,i3,i4⟩:=fin H2 {x with dt:=e.dt} s2 s3 s4 rfl;refine⟨H',λdh=>?_,i2,i3,i4⟩;rw[C6];simp(disch:=try exact zqz)only[AU,n1,Dm.cellAt e7,s1,i1,afj,ar,aq,zz0,simprocAttr]
  have b7:(((c:Nat):Int)==68)=false:=hd 68 q7;obtain⟨H',i1,i2,i3,i4⟩:=fin H1 x hX1 (Out.refl _ _) rfl (by unfold NT;rw[zz1 q1,zz1 q2,zz1 q3,zz1 q4,zz1 q5,zz1 q6,zz1 q7]);refine⟨H',λdh=>?_,i2,i3,i4⟩;rw[C6];simp(disch:=try exact zqz)only[AU,n1,b1,b2,b3,b4,b5,b6,b7,i1,ar,aq,zz0,simprocAttr]
abbrev zE:List AV:=[(zi 0),(zi 0),(zi 0),(zi 0),(zi 0),(.str []),(.str []),(.str [])]
theorem aDT (e:Ev){l:Str}(hl:∀c∈l,c<128)(H:Hp):∃H',cK (zf 49) [.agg (aS e),.str l] H=some (.agg (aS (Ho e l)),H')/\Out [] H H':=by
 have aO:bx 26 (.agg (aS e)) H=some (H.next,al H (aS e) 26 0):=iz (by rw[tN];omega);have o1:=aD H (aS e) 26 0;have c1:=aP H (aS e) 26 0;have n1:(al H (aS e) 26 0).next=H.next+1:=rfl;generalize al H (aS e) 26 0=H1 at*
 have cB:aA H1 zE 26 0=some (H.next+1,al H1 zE 26 0):=by rw[<-n1];exact eA zzy
 have o2:=aD H1 zE 26 0;have c2:=aP H1 zE 26 0;have n2:(al H1 zE 26 0).next=H.next+2:=by rw[bS,n1]
 rw[n1] at c2;generalize bF:al H1 zE 26 0=H2 at*
 have k0:cellAt H2 H.next 0=some (zi e.kd):=(c1.out o2 zzy).cellAt rfl;have hf:fl zE [(0,1,zi e.kd)]=some (aS (BA e.kd)):=rfl;have acg:aA H2 zE 26 0=some (H.next+2,al H2 zE 26 0):=by rw[<-n2];exact eA zzy
 have aC:st 8 (.ptr (H.next+2) 0) (.agg (aS (BA e.kd))) (al H2 zE 26 0)=some (al H2 (aS (BA e.kd)) 26 0):=gy rfl rfl n2.symm zzx rfl;have o3:=aD H2 (aS (BA e.kd)) 26 0;have c3:=aP H2 (aS (BA e.kd)) 26 0;have n3:(al H2 (aS (BA e.kd)) 26 0).next=H.next+3:=by rw[bS,n2]
 rw[n2] at c3;generalize al H2 (aS (BA e.kd)) 26 0=H3 at*
 have GH:C9 P 9 (.str l) H3=some (.ptr (H.next+3) 0,HM H3 l):=by rw[<-n3];exact akH Tryz.underlying9 l H3
 have o4:=ag2 H3 l;have s4:=adU H3 l;rw[n3] at s4;have cE:=((c1.out o2 zzy).out o3 zzy).out o4 zzy;have cV:=(c2.out o3 zzy).out o4 zzy;have cX:=c3.out o4 zzy;obtain⟨H5,i1,i2,i3,i4⟩:=adJ (y:=.ptr (H.next+1) 0) hl zzz zzz zzz l 0 (HM H3 l) (BA e.kd) aaM s4 cE cX;have cV5:=cV.out i3 zzy;have k8:av H5 (H.next+2) 0 8=some (aS (Ho e l)):=i2.av 8 0 (by rw[tN];omega);obtain⟨H6,t1,t2,t3,t4⟩:=iE (n:=8) (vs:=aS (Ho e l)) cV5 rfl rfl rfl;have k9:av H6 (H.next+1) 0 8=some (aS (Ho e l)):=t2.av 8 0 (by rw[tN];omega);have out:Out [] H H6:=fh (fh (((o1.trans o2).trans o3).trans o4) i3 (λj hj=>by simp at hj;omega)) t3 (la zzz);refine⟨H6,awx ?_,out⟩;unfold als;simp(disch:=try exact zqz)only[aO,n1,bF,n2,k0,hf,aC,GH,i1,k8,t1,k9,ar,aq,zz0,simprocAttr]
theorem atB (a b c d e:Int)(f g h:Str)(a' b' c' d' e':Int)(f' g' h':Str)(H:Hp):eL P 50 26 (.agg [zi a,zi b,zi c,zi d,zi e,.str f,.str g,.str h]) (.agg [zi a',zi b',zi c',zi d',zi e',.str f',.str g',.str h']) H=ur (λz:Bool=>some z) [a==a',b==b',c==c',d==d',e==e',f==f',g==g',h==h']:=zzw
theorem ark:Program.eqGuardType P P.depth 26=false:=zzw
theorem Lf:∀l:List Bool,ur (λz:Bool=>some z) l=some (l.all id)
 |[]=>rfl|b::l=>by unfold ur;rw[Lf l,alq];cases b<;>rfl
theorem aqV (a b:Ev)(H:Hp):gA P .eql 26 false (.agg (aS a)) (.agg (aS b))=true/\fV P .eql 26 (.agg (aS a)) (.agg (aS b)) H=some (.bool (Qs a b)):=by
 constructor;·show (!(Program.eqGuardType P P.depth 26))=true;rw[ark];rfl
 ·show (eL P 50 26 (.agg (aS a)) (.agg (aS b)) H).map (λb=>AV.bool b)=_;have h:eL P 50 26 (.agg (aS a)) (.agg (aS b)) H=_:=atB a.kd a.rn a.tk a.ty a.n a.nm a.ky a.dt b.kd b.rn b.tk b.ty b.n b.nm b.ky b.dt H;rw[h,Lf];simp[Qs]
def findF (p:Nat->Bool):Str->Nat->Option Nat
 |[],_=>none|c::r,i=>if p c then some i else findF p r (i+1)
theorem ali (p:Nat->Bool):∀(l:Str) (i:Nat),(findF p l i).isSome=l.any p
 |[],i=>rfl|c::r,i=>by
  unfold findF;rw[List.any_cons];cases h:p c with
  |true=>rfl|false=>rw[ank];exact ali p r (i+1)
theorem aih {fv:AV}{it:Nat}{l:Str}{p:Nat->Bool}{H0:Hp}(hl:∀c∈l,c<128)(hp:∀H,Out [] H0 H->∀c∈l,∃H',cK fv [.int .i32 (c:Nat)] H=some (.bool (p c),H')/\Out [] H H')(hit:H0.next<=it):∀(r:Str) (i:Nat) (H:Hp),l.drop i=r->BU H it l i->Out [] H0 H->
  ∃H',(∀j3:K.Fn 0,ZH JN GO cK j3 fv (.bool true) (.ptr it 0) H=match findF p r i with|some k=>some (zi (k:Nat),H')|none=>j3 H')/\Out [] H0 H'
 |[],i,H,h,hS,hO=>by
  have hi:l.length<=i:=by
   rcases alD i l.length with q|q;·rw[aiy q] at h;cases h
   ·exact q
  refine⟨H,λj3=>?_,hO⟩;rw[XD];simp only[PH,aeZ hS hi,zz0,simprocAttr];rfl
 |c::r,i,H,h,hS,hO=>by
  obtain⟨g1,g2,g3⟩:=dU h;obtain⟨H1,n1,n2,n3,n4⟩:=ajn hS g2 (hl c (aab g2));have zG:Out [] H0 H1:=fh hO n3 (la hit);obtain⟨H2,f1,f2⟩:=hp H1 zG c (aab g2);have HE:=zG.trans f2;unfold findF;cases hc:p c with
  |true=>
   refine⟨H2,λj3=>?_,HE⟩;rw[XD];rw[hc] at f1;have bt:(true==true)=true:=rfl;simp(disch:=try exact zqz)only[PH,n1,f1,bt,↓reduceIte,ar,aq,zz0,simprocAttr]
  |false=>
   obtain⟨H',i1,i2⟩:=aih hl hp hit r (i+1) H2 g3 (n2.out f2 zzy) HE;refine⟨H',λj3=>?_,i2⟩;rw[XD];rw[hc] at f1;have bt:(false==true)=false:=rfl;simp(disch:=try exact zqz)only[PH,n1,f1,bt,i1,aa4,↓reduceIte,ar,aq,zz0,simprocAttr]
theorem aCE {fv:AV}{l:Str}{p:Nat->Bool}{H0:Hp}(hl:∀c∈l,c<128)(hp:∀H,Out [] H0 H->∀c∈l,∃H',cK fv [.int .i32 (c:Nat)] H=some (.bool (p c),H')/\Out [] H H'):
  ∃H',cK (zf 50) [.str l,fv] H0=some (.bool (l.any p),H')/\Out [] H0 H':=by
 have GH:=akH Tryz.underlying9 l H0;have o1:=ag2 H0 l;have s1:=adU H0 l;obtain⟨H',i1,i2⟩:=aih hl hp (aaq _) l 0 (HM H0 l) aaM s1 o1;refine⟨H',aDZ ?_,i2⟩;have h1:cK (zf 115) [.str l,fv,.bool true] H0=some (zi (nP (findF p l 0)),H'):=by refine az8 ?_;unfold agU;simp only[GH,i1,zz0,simprocAttr];cases findF p l 0<;>rfl
 have h2:cK (zf 86) [.str l,fv] H0=some (zi (nP (findF p l 0)),H'):=by refine apN ?_;unfold amg;simp only[h1,zz0,simprocAttr]
 unfold amS;simp only[h2,MW,ali,zz0,simprocAttr]
theorem aE7 {e:Ev}{E:Nat}{H:Hp}(hE:Cs H E (aS e) 26 0)(c:Nat):∃H',cK (.func (.func 51) [] [.ptr E 0]) [.int .i32 (c:Nat)] H=some (.bool (!wK e c),H')/\Out [] H H':=by obtain⟨H',h1,h2⟩:=axO e c H;have k8:av H E 0 8=some (aS e):=hE.av 8 0 (by rw[tN];omega);refine⟨H',ayk ?_,h2⟩;unfold afD;simp(disch:=try exact zqz)only[k8,h1,ar,aq,zz0,simprocAttr]
theorem agl (k:Int):∀c∈pM k,c<128:=by
 unfold pM;intro c hc
 repeat' split at hc
 all_goals first|(simp at hc;omega)|(simp at hc)
theorem aDP (e:Ev)(H:Hp):∃H',cK (zf 21) [.agg (aS e)] H=some (.bool (Cz e),H')/\Out [] H H':=by
 have aO:bx 26 (.agg (aS e)) H=some (H.next,al H (aS e) 26 0):=iz (by rw[tN];omega);have o1:=aD H (aS e) 26 0;have c1:=aP H (aS e) 26 0;generalize al H (aS e) 26 0=H1 at*
 have k0:cellAt H1 H.next 0=some (zi e.kd):=c1.cellAt rfl;have k8:av H1 H.next 0 8=some (aS e):=c1.av 8 0 (by rw[tN];omega);unfold Cz;cases hf:(pM e.kd==[]) with
 |true=>
  refine⟨H1,XQ ?_,o1⟩;unfold Rz;simp(disch:=try exact zqz)only[aO,k0,Zt,hf,acn,ar,aq,zz0,simprocAttr]
 |false=>
  obtain⟨H2,h1,h2⟩:=aDT e (agl e.kd) H1;have c2:=c1.out h2 zzy;have k9:av H2 H.next 0 8=some (aS e):=c2.av 8 0 (by rw[tN];omega);obtain⟨q1,q2⟩:=aqV (Ho e (pM e.kd)) e H2;have hs:same (.agg (aS e)) (.agg (aS e))=true:=by have hk:(IntKind.i64==IntKind.i64)=true:=rfl;simp[same,aS,yf,sY]
  cases he:Qs (Ho e (pM e.kd)) e with
  |false=>
   refine⟨H2,XQ ?_,o1.trans h2⟩;rw[he] at q2;unfold Rz;simp(disch:=try exact zqz)only[aO,k0,Zt,hf,k8,h1,k9,q1,nw,q2,eP hs,acn,acy,ar,aq,zz0,simprocAttr]
  |true=>
   obtain⟨H3,h3,h4⟩:=aCE (fv:=.func (.func 51) [] [.ptr H.next 0]) (p:=λc=>!wK e c) (H0:=H2) (agl e.kd) (λH' k c _=>aE7 (c2.out k zzy) c);refine⟨H3,XQ ?_,(o1.trans h2).trans h4⟩;rw[he] at q2;have mM:(!((pM e.kd).any λc=>!wK e c))=(pM e.kd).all (wK e):=by rw[List.not_any_eq_all_not];simp
   unfold Rz;simp(disch:=try exact zqz)only[aO,k0,Zt,hf,k8,h1,k9,q1,nw,q2,eP hs,h3,mM,acy,ar,aq,zz0,simprocAttr]
abbrev Ky:=Str×Str
def bN (k:Ky):List AV:=[.str k.1,.str k.2]
theorem aei (a b c d:Str)(H:Hp):eL P 20 80 (.agg [.str a,.str b]) (.agg [.str c,.str d]) H=ur (λz:Bool=>some z) [a==c,b==d]:=zzw
theorem Xb {k q:Ky}(h:q≠k)(H:Hp):eL P 20 80 (.agg (bN k)) (.agg (bN q)) H=some false:=by
 have h1:eL P 20 80 (.agg (bN k)) (.agg (bN q)) H=_:=aei k.1 k.2 q.1 q.2 H;rw[h1,Lf];simp only[alq,List.all_nil,id,Bool.and_true,acM,Bool.and_eq_false_iff,zz8];by_cases h2:k.1=q.1;·exact .inr λh3=>h (Prod.ext h2.symm h3.symm)
 ·exact .inl h2
theorem atM (k:Ky)(H:Hp):eL P 20 80 (.agg (bN k)) (.agg (bN k)) H=some true:=by have h1:eL P 20 80 (.agg (bN k)) (.agg (bN k)) H=_:=aei k.1 k.2 k.1 k.2 H;rw[h1,Lf];simp
abbrev Ke:=Ky×Int
def uV (E:List (Ke×Nat)):List ME:=E.map λx=>⟨.agg (bN x.1.1),zi x.1.2,x.2⟩
theorem Vk {H:Hp}{k:Ky}:∀(E:List (Ke×Nat)) (i:Nat),(∀x∈E,x.1.1≠k)->pw P H 80 (.agg (bN k)) (uV E) i=some none
 |[],i,_=>rfl|x::E,i,h=>by show pw P H _ (.agg (bN k)) (⟨.agg (bN x.1.1),zi x.1.2,x.2⟩::uV E) i=_;unfold pw;simp only[Xb (h x (.head _)) H];exact Vk E (i+1) λy hy=>h y (.tail _ hy)
theorem ab5 {H:Hp}{k:Ky}:∀(E:List (Ke×Nat)),(∀x∈E,x.1.1≠k)->AB P H 80 (.agg (bN k)) (uV E)=true
 |[],_=>rfl|x::E,h=>by show AB P H _ (.agg (bN k)) (⟨.agg (bN x.1.1),zi x.1.2,x.2⟩::uV E)=_;unfold AB;simp only[Xb (h x (.head _)) H];exact ab5 E λy hy=>h y (.tail _ hy)
theorem amL {H:Hp}{k:Ky}{x:Ke×Nat}{B:List (Ke×Nat)}(hx:x.1.1=k)(hB:∀y∈B,y.1.1≠k):∀(A:List (Ke×Nat)) (i:Nat),(∀y∈A,y.1.1≠k)->
  ∃j,pw P H 80 (.agg (bN k)) (uV (A++x::B)) i=some (some (j,⟨.agg (bN x.1.1),zi x.1.2,x.2⟩))
 |[],i,_=>by refine⟨i,?_⟩;show pw P H _ (.agg (bN k)) (⟨.agg (bN x.1.1),zi x.1.2,x.2⟩::uV B) i=_;unfold pw;subst hx;simp only[atM,ab5 B hB,cond_true]
 |y::A,i,h=>by obtain⟨j,hj⟩:=amL hx hB A (i+1) λz hz=>h z (.tail _ hz);refine⟨j,?_⟩;show pw P H _ (.agg (bN k)) (⟨.agg (bN y.1.1),zi y.1.2,y.2⟩::uV (A++x::B)) i=_;unfold pw;simp only[Xb (h y (.head _)) H];exact hj
theorem aa5 (k:Ky):qN P 20 80 (.agg (bN k))=true:=zzw
def lY (ks:List Ke)(k:Ky):Option Int:=(ks.find? (λx=>x.1==k)).map (·.2)
section
variable {H H':Hp}{k:Ky}{km kp:Nat}{ks:List Ke}{lx:AV}{x:Ke}
theorem MK (h:lY ks k=none):∀x∈ks,x.1≠k:=by unfold lY at h;rw[Option.map_eq_none_iff,List.find?_eq_none] at h;intro x hx q;exact h x hx (by rw[q];exact beq_self_eq_true _)
theorem QJ {id:Int}(h:lY ks k=some id):∃a b,ks=a++(k,id)::b/\∀x∈a,x.1≠k:=by
 unfold lY at h;rw[aag] at h;obtain⟨x,h1,rfl⟩:=h;rw[List.find?_eq_some_iff_append] at h1;obtain⟨h2,a,b,rfl,h3⟩:=h1;have:x.1=k:=by simpa using h2
 subst this;exact⟨a,b,rfl,λy hy q=>by have:=h3 y hy;rw[q] at this;simp at this⟩
abbrev kv (km:Nat)(lx:AV):List AV:=[zi 128,.map km,lx]
structure KO (H:Hp)(kp km:Nat)(lx:AV)(ks:List Ke):Prop where
 c:Cs H kp (kv km lx) 136 0
 m:∃bs c,bs.length=ks.length/\Mp H km (uV (ks.zip bs)) c
 l:OL H 80 2 lx (ks.map λx=>bN x.1)
 nd:(ks.map (·.1)).Nodup
 d1:kp≠km
 d2:∀j∈ak lx,j≠kp/\j≠km
def F9 (kp km:Nat)(lx:AV):List Nat:=kp::km::ak lx
theorem KO.out {S:List Nat}(h:KO H kp km lx ks)(k:Out S H H')(hs:∀j∈F9 kp km lx,j∉S):KO H' kp km lx ks:=by obtain⟨bs,c,h1,h2⟩:=h.m;exact⟨h.c.out k (hs _ (.head _)),⟨bs,c,h1,h2.out k (hs _ (.tail _ (.head _)))⟩,h.l.out k λj hj=>hs j (.tail _ (.tail _ hj)),h.nd,h.d1,h.d2⟩
theorem KO.au (h:KO H kp km lx ks)(k:Out [] H H'):KO H' kp km lx ks:=h.out k λ_ _ q=>by cases q
theorem KO.lt (h:KO H kp km lx ks):∀j∈F9 kp km lx,j<H.next:=by
 intro j hj;obtain⟨bs,c,h1,h2⟩:=h.m;rcases aal.1 hj with rfl|hj;·exact h.c.1
 ·rcases aal.1 hj with rfl|hj;·exact h2.1
  ·exact h.l.1.rw.lt j hj
theorem apW (H:Hp):∃kp km H',cK (zf 44) [zi 128] H=some (.ptr kp 0,H')/\KO H' kp km .ah []/\Out [] H H'/\H.next<=kp/\H.next<=km:=by obtain⟨H1,m1,m2,m3,m4⟩:=TG H;have hf:fl [(zi 0),.lz,.ah] [(0,1,zi 128),(1,1,.map H.next)]=some (kv H.next .ah):=rfl;have aO:bx 136 (.agg (kv H.next .ah)) H1=some (H1.next,al H1 (kv H.next .ah) 136 0):=iz zzy;have o2:=aD H1 (kv H.next .ah) 136 0;have c2:=aP H1 (kv H.next .ah) 136 0;refine⟨H1.next,H.next,al H1 (kv H.next .ah) 136 0,avt ?_,⟨c2,⟨[],0,rfl,m2.out o2 zzy⟩,OL.nil _ _ _,zzy,zzz,λj hj=>by cases hj⟩,m3.trans o2,zzz,aaq _⟩;unfold acA;simp only[aww,L4,Int.reduceLT,if_false,if_true,m1,hf,aO,zz0,simprocAttr]
theorem RS {bs:List Nat}(h:∀x∈ks,x.1≠k):∀y∈ks.zip bs,y.1.1≠k:=λy hy=>h y.1 (am8 hy).1
theorem axc {a b:List Ke}{bs:List Nat}(h:bs.length=(a++x::b).length):∃b1 c b2,(a++x::b).zip bs=a.zip b1++(x,c)::b.zip b2:=by
 have h1:a.length<bs.length:=by rw[h,aah,aau];omega
 refine⟨bs.take a.length,bs[a.length],bs.drop (a.length+1),?_⟩
 conv=>lhs;rw[show bs=bs.take a.length++bs[a.length]::bs.drop (a.length+1) by rw[List.getElem_cons_drop,aiP]]
 rw[List.zip_append (by rw[ad9];omega)];rfl
theorem Px (hm:∃bs c,bs.length=ks.length/\Mp H km (uV (ks.zip bs)) c)(fN:(ks.map (·.1)).Nodup)(k:Ky)(ok:Bool):
  tP P 133 (.map km) (.agg (bN k)) ok H=some (bif ok then .tuple [zi ((lY ks k).getD 0),.bool (lY ks k).isSome] else zi ((lY ks k).getD 0)):=by
 obtain⟨bs,c,h1,h2⟩:=hm;have hu:P.underlying 133=some (.map 80 3):=Tryz.underlying133;have hz:((P.info? 3).bind (·.zero)).bind lj=some (zi 0):=zzw;unfold tP;cases hg:lY ks k with
 |none=>
  simp only[hu,aa5,cond_true,KC h2,Vk _ 0 (RS (bs:=bs) (MK hg)),hz,ael];cases ok<;>rfl
 |some id=>
  obtain⟨a,b,rfl,h3⟩:=QJ hg;obtain⟨b1,c1,b2,h4⟩:=axc h1;rw[h4] at h2;have hb:∀x∈b,x.1≠k:=by intro x hx q;rw[acZ,abo,aet,ajD] at fN;exact fN.2.1.1 (abN.2 ⟨x,hx,q⟩)
  obtain⟨j,hj⟩:=amL (H:=H) (x:=((k,id),c1)) (k:=k) rfl (RS (bs:=b2) hb) (a.zip b1) 0 (RS h3);simp only[hu,aa5,cond_true,KC h2,hj];cases ok<;>rfl
theorem EK (k:Ky):(bN k).length=2:=rfl
theorem aC5 (h:KO H kp km lx ks)(k:Ky):∃H',cK (zf 83) [.ptr kp 0,.agg (bN k)] H=some (.tuple [zi ((lY ks k).getD 0),.bool (lY ks k).isSome],H')/\Out [] H H':=by
 have aO:bx 80 (.agg (bN k)) H=some (H.next,al H (bN k) 80 0):=iz (by rw[EK];omega);have o1:=aD H (bN k) 80 0;have c1:=aP H (bN k) 80 0;generalize al H (bN k) 80 0=H1 at*
 have h1:=h.au o1;have k1:cellAt H1 kp 1=some (.map km):=h1.c.cellAt rfl;have k2:av H1 H.next 0 2=some (bN k):=c1.av 2 0 (by rw[EK];omega);have lk:=Px h1.m h1.nd k true;refine⟨H1,aBh ?_,o1⟩;unfold aeb;simp(disch:=try exact zqz)only[aO,k1,k2,lk,cond_true,ar,aq,zz0,simprocAttr]
theorem axh (h:KO H kp km lx ks)(hn:ks.length<128)(hk:lY ks k=none)(id:Int):
  ∃xc H',cK (zf 33) [.ptr kp 0,.agg (bN k),zi id] H=some (.tuple [zi id,.bool true],H')/\KO H' kp km xc (ks++[(k,id)])/\Out (F9 kp km lx) H H'/\∀j∈ak xc,j∈ak lx\/H.next<=j:=by
 have aO:bx 80 (.agg (bN k)) H=some (H.next,al H (bN k) 80 0):=iz (by rw[EK];omega);have o1:=aD H (bN k) 80 0;have c1:=aP H (bN k) 80 0;have n1:(al H (bN k) 80 0).next=H.next+1:=rfl;generalize al H (bN k) 80 0=H1 at*
 have h1:=h.au o1;have aN:=h.lt;have k0:cellAt H1 kp 0=some (zi 128):=h1.c.cellAt rfl;have k1:cellAt H1 kp 1=some (.map km):=h1.c.cellAt rfl;have k2:cellAt H1 kp 2=some lx:=h1.c.cellAt rfl;have kx:av H1 H.next 0 2=some (bN k):=c1.av 2 0 (by rw[EK];omega);have lk:=Px h1.m h1.nd k true;rw[hk] at lk;have hlen:=h1.l.rl.len zzx;rw[abF] at hlen;have dn:(((ks.length:Nat):Int)==128)=false:=by rw[zz8];omega
 obtain⟨bs,c,b1,b2⟩:=h1.m;have hu:P.underlying 133=some (.map 80 3):=Tryz.underlying133;have N5:uV ((ks++[(k,id)]).zip (bs++[c]))=uV (ks.zip bs)++[⟨.agg (bN k),zi id,c⟩]:=by rw[List.zip_append b1.symm];simp[uV]
 obtain⟨H2,u1,u2,u3,u4⟩:∃H2,qm P 133 (.map km) (.agg (bN k)) (zi id) H1=some H2/\Mp H2 km (uV ((ks++[(k,id)]).zip (bs++[c]))) (c+1)/\Out [km] H1 H2/\H2.next=H1.next:=by rw[N5];refine⟨_,?_,(b2.set _ _).1,(b2.set _ _).2,rfl⟩;unfold qm;simp only[hu,aa5,cond_true,b2.2,Vk _ 0 (RS (bs:=bs) (MK hk))]
 have hkm:km<H.next:=aN km (.tail _ (.head _));have hkp:kp<H.next:=aN kp (.head _);have q2:cellAt H2 kp 2=some lx:=by rw[u3.cellAt h1.c.1 (by simpa using h.d1)];exact k2
 have qx:av H2 H.next 0 2=some (bN k):=by rw[u3.av c1.1 (by rw[No];omega)];exact kx
 have hf:fl [(.str []),(.str [])] [(0,2,.agg (bN k))]=some (bN k):=rfl;have qL:OL H2 80 2 lx (ks.map λx=>bN x.1):=h1.l.out u3 λj hj=>by rw[No];exact (h.d2 j hj).2
 have cB:aA H2 (bN k) 80 0=some (H2.next,al H2 (bN k) 80 0):=eA (by rw[EK];omega);obtain⟨xc,H3,p1,p2,p3,p4,p5⟩:=qL.push (el2:=80) (z:=[(.str []),(.str [])]) (vs:=bN k) rfl rfl zzx (by rw[abF];omega);have fX:=p1 H2.next rfl;have c3:Cs H3 kp (kv km lx) 136 0:=(h1.c.out u3 (by simpa using h.d1)).out p3 λq=>(h.d2 kp q).1 rfl;obtain⟨H4,s1,s2,s3,s4⟩:=eV c3 zzx (o:=2) zzy (v:=xc) p5;have a2:=aD H2 (bN k) 80 0;have q3:cellAt (al H2 (bN k) 80 0) kp 2=some lx:=by rw[a2.cellAt (by rw[u4,n1];omega) zzy];exact q2
 have jo:H2.next=H.next+1:=by rw[u4,n1]
 have gw:∀j∈ak xc,j≠kp/\j≠km:=λj hj=>by
  rcases p4 j hj with q|q;·exact h.d2 j q
  ·omega
 have m3:Mp H3 km (uV ((ks++[(k,id)]).zip (bs++[c]))) (c+1):=u2.out p3 λq=>(h.d2 km q).2 rfl;refine⟨xc,H4,amA ?_,⟨s2,⟨bs++[c],c+1,by simp[b1],m3.out s3 (by rw[No];exactλq=>h.d1 q.symm)⟩,?_,?_,h.d1,gw⟩,?_,λj hj=>(p4 j hj).imp (λq=>q) λq=>zzz⟩;·unfold Y6;simp(disch:=try exact zqz)only[aO,k0,k1,k2,kx,lk,hlen,dn,u1,q2,qx,hf,cB,fX,s1,q3,eP (lG h1.l.1.rw),af0,cond_true,ar,aq,zz0,simprocAttr]
 ·rw[acZ];exact p2.out s3 λj hj=>by rw[No];exact (gw j hj).1
 ·rw[acZ];rw[aet];refine⟨h.nd,zzy,λx hx y hy q=>?_⟩;simp at hy;obtain⟨z,hz,rfl⟩:=abN.1 hx;exact MK hk z hz (q.trans hy)
 ·refine ((((o1.mono (S':=F9 kp km lx) (λj hj=>by cases hj)).trans (u3.mono λj hj=>?_)).trans (p3.mono λj hj=>.tail _ (.tail _ hj))).trans (s3.mono λj hj=>?_));·rw[No] at hj;subst hj;exact .tail _ (.head _)
  ·rw[No] at hj;subst hj;exact .head _
theorem asl (h:KO H kp km lx ks){SQ:Int}(hk:lY ks k=some SQ)(id:Int):
  ∃H',cK (zf 33) [.ptr kp 0,.agg (bN k),zi id] H=some (.tuple [zi SQ,.bool false],H')/\Out [] H H':=by
 have aO:bx 80 (.agg (bN k)) H=some (H.next,al H (bN k) 80 0):=iz (by rw[EK];omega);have o1:=aD H (bN k) 80 0;have c1:=aP H (bN k) 80 0;generalize al H (bN k) 80 0=H1 at*
 have h1:=h.au o1;have k1:cellAt H1 kp 1=some (.map km):=h1.c.cellAt rfl;have kx:av H1 H.next 0 2=some (bN k):=c1.av 2 0 (by rw[EK];omega);have lk:=Px h1.m h1.nd k true;rw[hk] at lk;refine⟨H1,amA ?_,o1⟩;unfold Y6;simp(disch:=try exact zqz)only[aO,k1,kx,lk,agd,afK,cond_true,ar,aq,zz0,simprocAttr]
def cl (x:Ke):List AV:=[.str x.1.1,.str x.1.2,zi x.2]
theorem aw7 (fN:(ks.map (·.1)).Nodup){i:Nat}(h:ks[i]?=some x):lY ks x.1=some x.2:=by
 cases hg:lY ks x.1 with
 |none=>exact absurd rfl (MK hg x (aab h))|some id=>
  obtain⟨a,b,rfl,h3⟩:=QJ hg;have hx:=aab h;rcases aaQ.1 hx with hx|hx;·exact absurd rfl (h3 x hx)
  ·rcases aal.1 hx with hx|hx;·rw[hx]
   ·rw[acZ,abo,aet,ajD] at fN;exact absurd (abN.2 ⟨x,hx,rfl⟩) fN.2.1.1
theorem ajp {kp km:Nat}{lx:AV}{ks:List Ke}{H0:Hp}(hn:ks.length<=1000)(hK0:KO H0 kp km lx ks):∀(r:List Ke) (i:Nat) (H:Hp) (ox:AV),i<=ks.length->ks.drop i=r->Out [] H0 H->OL H 82 3 ox ((ks.take i).map cl)->(∀j∈ak ox,H0.next<=j)->
  ∃oU H',(∀dV:K.Fn 1,Uk JN GO cK dV (.ptr kp 0) ox lx (zi (ks.length:Nat)) (zi (i:Nat)) H=dV oU H')/\OL H' 82 3 oU (ks.map cl)/\Out [] H0 H'/\∀j∈ak oU,H0.next<=j
 |[],i,H,ox,hi,h,hO,hL,hr=>by obtain rfl:=drop_nil hi h;refine⟨ox,H,λdV=>?_,by rw[List.take_length] at hL;exact hL,hO,hr⟩;rw[amN];simp only[UI,dA,zz0,simprocAttr]
 |x::r,i,H,ox,hi,h,hO,hL,hr=>by
  obtain⟨g1,g2,g3⟩:=dU h;have es:=dD g1 zzz;have hK:=hK0.au hO;obtain⟨b,o,q1,q2,q3,q4,q5⟩:=hK.l.rl.at zzx (i:=i) (c:=bN x.1) (by rw[acd,g2];rfl);have aC:st 2 (.ptr H.next 0) (.agg (bN x.1)) (al H [(.str []),(.str [])] 80 0)=some (al H (bN x.1) 80 0):=gy rfl rfl rfl zzx rfl;have o1:=aD H (bN x.1) 80 0;have c1:=aP H (bN x.1) 80 0;have n1:(al H (bN x.1) 80 0).next=H.next+1:=rfl;have sF:aA H [(.str []),(.str [])] 80 0=some (H.next,al H [(.str []),(.str [])] 80 0):=eA zzy;generalize bw:al H (bN x.1) 80 0=H1 at*
  have hK1:=hK.au o1;have k1:cellAt H1 kp 1=some (.map km):=hK1.c.cellAt rfl;have kx:av H1 H.next 0 2=some (bN x.1):=c1.av 2 0 (by rw[EK];omega);have lk:=Px hK1.m hK1.nd x.1 false;rw[aw7 hK.nd g2] at lk;have uq:fl [(.str []),(.str []),(zi 0)] [(0,2,.agg (bN x.1)),(2,1,zi x.2)]=some (cl x):=rfl;have Du:fl [(.str []),(.str []),(zi 0)] [(0,3,.agg (cl x))]=some (cl x):=rfl;have hL1:OL H1 82 3 ox ((ks.take i).map cl):=hL.out o1 λj hj=>zzy;have cB:aA H1 (cl x) 82 0=some (H1.next,al H1 (cl x) 82 0):=eA (by simp[cl]);obtain⟨oU,H2,p1,p2,p3,p4,p5⟩:=hL1.push (el2:=82) (z:=[(.str []),(.str []),(zi 0)]) (vs:=cl x) rfl rfl zzx (by rw[abF,ad9];omega);have fX:=p1 H1.next rfl;have HE:Out [] H0 H2:=fh (hO.trans o1) p3 hr;have hO0:=hO.1;obtain⟨ox2,H',i1,i2,i3,i4⟩:=ajp hn hK0 r (i+1) H2 oU g1 g3 HE (by rw[ai6,g2,acZ];exact p2) (λj hj=>(p4 j hj).elim (hr j) λq=>zzz);refine⟨ox2,H',λdV=>?_,i2,i3,i4⟩;rw[amN];simp(disch:=try exact zqz)only[UI,aQ g1,q1,q4,sF,aC,kx,k1,lk,uq,Du,cB,fX,afK,cond_false,es,i1,ar,aq,zz0,simprocAttr]
theorem Rh (hn:ks.length<=1000)(h:KO H kp km lx ks):
  ∃ox H',cK (zf 32) [.ptr kp 0] H=some (ox,H')/\OL H' 82 3 ox (ks.map cl)/\Out [] H H'/\∀j∈ak ox,H.next<=j:=by
 have k2:cellAt H kp 2=some lx:=h.c.cellAt rfl;have hlen:=h.l.rl.len zzx;rw[abF] at hlen;obtain⟨ox,H',i1,i2,i3,i4⟩:=ajp hn h ks 0 H .ah (abg _) aaM (Out.refl _ _) (by rw[akd];exact OL.nil _ _ _) (λj hj=>by cases hj);rw[show (((0:Nat):Int))=0 from rfl] at i1;refine⟨ox,H',avJ ?_,i2,i3,i4⟩;unfold afm;simp(disch:=try exact zqz)only[k2,hlen,i1,ar,aq,zz0,simprocAttr]
end
def Dj (l m:List Nat):Prop:=∀j∈l,j∉m
theorem Dj.symm {l m:List Nat}(h:Dj l m):Dj m l:=λj hj hl=>h j hl hj
theorem KK {L:List (List Nat)}{k N:Nat}{l l':List Nat}(h:L.Pairwise Dj)(hk:L[k]?=some l)(hN:∀m∈L,∀j∈m,j<N)(hl:∀j∈l',j∈l\/N<=j):(L.set k l').Pairwise Dj:=by
 rw[akW] at h⊢;obtain⟨kL,nF⟩:=aac.1 hk;have key:∀(i:Nat) (hi:i<L.length),i≠k->Dj l' L[i]:=by
  intro i hi hik j hj hm;rcases hl j hj with q|q
  ·rcases Nat.lt_or_gt_of_ne hik with c|c;·exact h i k hi kL c j hm (by rw[nF];exact q)
   ·exact h k i kL hi c j (by rw[nF];exact q) hm
  ·have:=hN _ (List.getElem_mem hi) j hm;omega
 intro i j hi hj lM;rw[adi] at hi hj;rw[List.getElem_set,List.getElem_set];by_cases h1:k=i;·subst h1;rw[zz2 rfl,zz1 zzz];exact key j hj zzz
 ·rw[zz1 h1];by_cases h2:k=j;·subst h2;rw[zz2 rfl];exact (key i hi zzz).symm
  ·rw[zz1 h2];exact h i j hi hj lM
theorem zp {L:List (List Nat)}(h:L.Pairwise Dj){i j:Nat}(lM:i≠j){l m:List Nat}(hi:L[i]?=some l)(hj:L[j]?=some m):Dj l m:=by
 rw[akW] at h;obtain⟨a1,a2⟩:=aac.1 hi;obtain⟨b1,b2⟩:=aac.1 hj;subst a2;subst b2;rcases Nat.lt_or_gt_of_ne lM with c|c;·exact h i j a1 b1 c
 ·exact (h j i b1 a1 c).symm
structure RA where
 dx:AV
 xs:List AV
 tx:AV
 sx:AV
def RA.fp (r:RA):List Nat:=pj r.dx r.xs r.tx r.sx
structure Fm where
 ck:Int
 nms:List Str
 aM:List (Str×Str)
 aw:List (Rn×Str)
 ks:List Ke
structure FA where
 tm:Nat
 kp:Nat
 km:Nat
 nx:AV
 rx:AV
 kl:AV
 ras:List RA
def bE (r:RA)(x:Rn×Str):List AV:=[r.dx,zi x.1.st,r.tx,r.sx,.str x.2]
def pF (E:List ((Str×Str)×Nat)):List ME:=E.map λx=>⟨.str x.1.1,.str x.1.2,x.2⟩
def jr (p:Nat)(a:FA):List (List Nat):=[[p],[a.tm],[a.kp],[a.km],ak a.nx,ak a.rx,ak a.kl]
def own (p:Nat)(a:FA):List Nat:=(jr p a).flatten
def cY (a:FA):List Nat:=a.ras.flatMap RA.fp
abbrev fv (a:FA)(f:Fm):List AV:=[zi f.ck,a.nx,.map a.tm,a.rx,.ptr a.kp 0]
structure FL (H:Hp)(p:Nat)(a:FA)(f:Fm):Prop where
 c:Cs H p (fv a f) 67 0
 n:Ow H 9 1 a.nx (strs f.nms)
 t:∃bs c,bs.length=f.aM.length/\Mp H a.tm (pF (f.aM.zip bs)) c
 qR:(f.aM.map (·.1)).Nodup
 r:OL H 77 5 a.rx (List.zipWith bE a.ras f.aw)
 v:∀(i:Nat) (r:RA) (x:Rn×Str),a.ras[i]?=some r->f.aw[i]?=some x->RV H r.dx r.xs r.tx r.sx x.1
 len:a.ras.length=f.aw.length
 k:KO H a.kp a.km a.kl f.ks
 dj:(jr p a).Pairwise Dj
 lo:∀j∈own p a,11<=j
 cY:∀j∈cY a,j∉own p a/\j<H.next
section
variable {H H':Hp}{N i j k:Nat}{S l l':List Nat}{a:FA}{f:Fm}{r r':RA}{x:Rn×Str}
theorem iq {p:Nat}(h:(jr p a)[k]?=some l)(hj:j∈l):j∈own p a:=ah8.2 ⟨l,aab h,hj⟩
theorem FL.lt {p:Nat}(h:FL H p a f):∀j∈own p a,j<H.next:=by
 intro j hj;obtain⟨l,hl,hj⟩:=ah8.1 hj;obtain⟨bs,c,_,hm⟩:=h.t;have hk:=h.k.lt;simp only[jr,aal,ajX,or_false] at hl;rcases hl with rfl|rfl|rfl|rfl|rfl|rfl|rfl;·rw[No] at hj;subst hj;exact h.c.1
 ·rw[No] at hj;subst hj;exact hm.1
 ·rw[No] at hj;subst hj;exact hk _ (.head _)
 ·rw[No] at hj;subst hj;exact hk _ (.tail _ (.head _))
 ·exact h.n.rw.lt j hj
 ·exact h.r.1.rw.lt j hj
 ·exact hk _ (.tail _ (.tail _ hj))
theorem FL.ltS {p:Nat}(h:FL H p a f):∀m∈jr p a,∀j∈m,j<H.next:=λm hm j hj=>h.lt j (ah8.2 ⟨m,hm,hj⟩)
theorem Nb (h:a.ras[i]?=some r):∀j∈r.fp,j∈cY a:=λj hj=>ae8.2 ⟨r,aab h,hj⟩
theorem FL.out {p:Nat}(h:FL H p a f)(k:Out S H H')(hs:∀j∈own p a,j∉S)(hi:∀j∈bq.cY a,j∉S):FL H' p a f:=by
 obtain⟨bs,c,h1,h2⟩:=h.t;have hk:=h.k.lt;refine⟨h.c.out k (hs _ (iq (k:=0) rfl (.head _))),h.n.out k λj hj=>hs _ (iq (k:=4) rfl hj),⟨bs,c,h1,h2.out k (hs _ (iq (k:=1) rfl (.head _)))⟩,h.qR,h.r.out k λj hj=>hs _ (iq (k:=5) rfl hj),λi r x hr hx=>(h.v i r x hr hx).out k λj hj=>hi j (Nb hr j hj),h.len,h.k.out k λj hj=>?_,h.dj,h.lo,λj hj=>⟨(h.cY j hj).1,ac2 (h.cY j hj).2 k.1⟩⟩;rcases aal.1 hj with rfl|hj;·exact hs _ (iq (k:=2) rfl (.head _))
 ·rcases aal.1 hj with rfl|hj;·exact hs _ (iq (k:=3) rfl (.head _))
  ·exact hs _ (iq (k:=6) rfl hj)
theorem FL.au {p:Nat}(h:FL H p a f)(k:Out [] H H'):FL H' p a f:=h.out k (λ_ _ q=>by cases q) λ_ _ q=>by cases q
structure FSt (H H':Hp)(p:Nat)(a a':FA):Prop where
 o:Out (own p a) H H'
 w:∀j∈own p a',j∈own p a\/H.next<=j
 i:∀j∈bq.cY a',j∈bq.cY a\/H.next<=j
theorem FSt.same (k:Out [] H H')(p:Nat)(a:FA):FSt H H' p a a:=⟨k.mono λj hj=>(by cases hj),λj hj=>.inl hj,λj hj=>.inl hj⟩
theorem FSt.trans {H'':Hp}{p:Nat}{b c:FA}(h:FSt H H' p a b)(k:FSt H' H'' p b c):FSt H H'' p a c:=
 ⟨h.o.then k.o h.w,λj hj=>(k.w j hj).elim (h.w j) λq=>.inr (afi h.o.1 q),λj hj=>(k.i j hj).elim (h.i j) λq=>.inr (afi h.o.1 q)⟩
theorem FL.part {p:Nat}(h:FL H p a f)(k:Out S H H')(hS:(jr p a)[i]?=some S):
  (i≠0->Cs H' p (fv a f) 67 0)/\(i≠4->Ow H' 9 1 a.nx (strs f.nms))/\(i≠1->∃bs c,bs.length=f.aM.length/\Mp H' a.tm (pF (f.aM.zip bs)) c)/\(i≠5->OL H' 77 5 a.rx (List.zipWith bE a.ras f.aw))/\
  (i≠2->i≠3->i≠6->KO H' a.kp a.km a.kl f.ks)/\(∀(i:Nat) (r:RA) (x:Rn×Str),a.ras[i]?=some r->f.aw[i]?=some x->RV H' r.dx r.xs r.tx r.sx x.1):=by
 have sep:∀{j:Nat} {l:List Nat},i≠j->(jr p a)[j]?=some l->∀x∈l,x∉S:=λlM hl=>(zp h.dj lM hS hl).symm;obtain⟨bs,c,h1,h2⟩:=h.t;refine⟨λhi=>h.c.out k (sep hi rfl p (.head _)),λhi=>h.n.out k (sep hi rfl),λhi=>⟨bs,c,h1,h2.out k (sep hi rfl a.tm (.head _))⟩,λhi=>h.r.out k (sep hi rfl),λi1 i2 i3=>h.k.out k λj hj=>?_,λm r x hr hx=>(h.v m r x hr hx).out k λj hj q=>(h.cY j (Nb hr j hj)).1 (iq hS q)⟩;rcases aal.1 hj with rfl|hj;·exact sep i1 rfl _ (.head _)
 ·rcases aal.1 hj with rfl|hj;·exact sep i2 rfl _ (.head _)
  ·exact sep i3 rfl _ hj
theorem FL.UE {p:Nat}(h:FL H p a f)(hn:H.next<=H'.next):∀j∈bq.cY a,j∉own p a/\j<H'.next:=λj hj=>⟨(h.cY j hj).1,ac2 (h.cY j hj).2 hn⟩
theorem FL.clock {p:Nat}(h:FL H p a f)(z:Int):∃H',st 1 (.ptr p 0) (zi z) H=some H'/\FL H' p a {f with ck:=z}/\FSt H H' p a a:=by obtain⟨H',s1,s2,s3,s4⟩:=eV h.c zzx (o:=0) zzy (v:=zi z) rfl;obtain⟨p0,p4,p1,p5,pk,pv⟩:=h.part s3 (i:=0) rfl;exact⟨H',s1,⟨s2,p4 zzx,p1 zzx,h.qR,p5 zzx,pv,h.len,pk zzx zzx zzx,h.dj,h.lo,h.UE s3.1⟩,s3.mono λj hj=>iq (k:=0) rfl hj,λj hj=>.inl hj,λj hj=>.inl hj⟩
theorem T7 {p:Nat}{a':FA}(hs:jr p a'=(jr p a).set k l')(hk:(jr p a)[k]?=some l)(hl:∀j∈l',j∈l\/N<=j):∀j∈own p a',j∈own p a\/N<=j:=by
 intro j hj;obtain⟨m,hm,hj⟩:=ah8.1 hj;rw[hs] at hm;rcases adT hm with q|rfl;·exact .inl (ah8.2 ⟨m,q,hj⟩)
 ·exact (hl j hj).imp (λq=>iq hk q) id
theorem FL.aFe {p:Nat}(h:FL H p a f)(s:Str)(hn:f.nms.length<=1000):
  ∃gV H1 H2,(∀i,i=H.next->c8 9 1 [(.str [])] false a.nx (.slice i 0 1 1 true 1) (al H [.str s] 9 0)=some (gV,H1))/\st 1 (.ptr p 1) gV H1=some H2/\FL H2 p {a with nx:=gV} {f with nms:=f.nms++[s]}/\FSt H H2 p a {a with nx:=gV}/\aW gV=true:=by
 obtain⟨gV,H1,p1,p2,p3,p4,p5⟩:=wL (el2:=9) (z:=[(.str [])]) (vs:=[.str s]) h.n rfl rfl zzx (by rw[gQ];simp;omega);obtain⟨q0,q4,q1,q5,qk,qv⟩:=h.part p3 (i:=4) rfl;obtain⟨H2,s1,s2,s3,s4⟩:=eV (q0 zzx) zzx (o:=1) zzy (v:=gV) p5;have hs:jr p {a with nx:=gV}=(jr p a).set 4 (ak gV):=rfl;have qp:(jr p {a with nx:=gV}).Pairwise Dj:=by rw[hs];exact KK h.dj (k:=4) rfl h.ltS p4
 have sep:∀{j:Nat} {l:List Nat},0≠j->(jr p {a with nx:=gV})[j]?=some l->∀x∈l,x∉[p]:=λlM hl=>(zp qp lM (i:=0) rfl hl).symm;have hw:=T7 (a:=a) (N:=H.next) hs (k:=4) rfl p4;have hi:∀j∈bq.cY {a with nx:=gV},j∉own p {a with nx:=gV}/\j<H2.next:=λj hj=>⟨λq=>(hw j q).elim (h.cY j hj).1 λz=>by have:=(h.cY j hj).2;omega,by have:=(h.cY j hj).2;have:=p3.1;have:=s3.1;omega⟩;obtain⟨bs,c,t1,t2⟩:=q1 zzx;have hO:Out (own p a) H H2:=(p3.mono λj hj=>iq (k:=4) rfl hj).trans (s3.mono λj hj=>iq (k:=0) rfl hj);refine⟨gV,H1,H2,p1,s1,⟨s2,?_,⟨bs,c,t1,t2.out s3 (sep (j:=1) zzx rfl _ (.head _))⟩,h.qR,(q5 zzx).out s3 (sep (j:=5) zzx rfl),λi r x hr hx=>(qv i r x hr hx).out s3 λj hj q=>(hi j (Nb (a:={a with nx:=gV}) hr j hj)).1 (iq (k:=0) rfl q),h.len,(qk zzx zzx zzx).out s3 λj hj=>?_,qp,λj hj=>(hw j hj).elim (h.lo j) λq=>?_,hi⟩,⟨hO,hw,λj hj=>.inl hj⟩,p5⟩;·rw[show strs (f.nms++[s])=strs f.nms++[.str s] by rw[HK];rfl];exact p2.out s3 (sep (j:=4) zzx rfl)
 ·rcases aal.1 hj with rfl|hj;·exact sep (j:=2) zzx rfl _ (.head _)
  ·rcases aal.1 hj with rfl|hj;·exact sep (j:=3) zzx rfl _ (.head _)
   ·exact sep (j:=6) zzx rfl _ hj
 ·have:=h.lo p (iq (k:=0) rfl (.head _));have:=h.c.1;omega
theorem Qa {l:List ((Str×Str)×Nat)}{s:Str}(h:∀x∈l,x.1.1≠s):∀e∈pF l,∃q,e.key=.str q/\q≠s:=by intro e he;obtain⟨x,hx,rfl⟩:=abN.1 he;exact⟨_,rfl,h x hx⟩
def ey (l:List (Str×Str))(s:Str):Option Str:=(l.find? (λx=>x.1==s)).map (·.2)
theorem KJ {l:List (Str×Str)}{k:Str}(h:ey l k=none):∀x∈l,x.1≠k:=by unfold ey at h;rw[Option.map_eq_none_iff,List.find?_eq_none] at h;intro x hx q;exact h x hx (by rw[q];exact beq_self_eq_true _)
theorem Vv {l:List (Str×Str)}{k t:Str}(h:ey l k=some t):∃a b,l=a++(k,t)::b/\∀x∈a,x.1≠k:=by
 unfold ey at h;rw[aag] at h;obtain⟨x,h1,rfl⟩:=h;rw[List.find?_eq_some_iff_append] at h1;obtain⟨h2,a,b,rfl,h3⟩:=h1;have:x.1=k:=by simpa using h2
 subst this;exact⟨a,b,rfl,λy hy q=>by have:=h3 y hy;rw[q] at this;simp at this⟩
theorem awa {a b:List (Str×Str)}{x:Str×Str}{bs:List Nat}(h:bs.length=(a++x::b).length):∃b1 c b2,(a++x::b).zip bs=a.zip b1++(x,c)::b.zip b2:=by
 have h1:a.length<bs.length:=by rw[h,aah,aau];omega
 refine⟨bs.take a.length,bs[a.length],bs.drop (a.length+1),?_⟩
 conv=>lhs;rw[show bs=bs.take a.length++bs[a.length]::bs.drop (a.length+1) by rw[List.getElem_cons_drop,aiP]]
 rw[List.zip_append (by rw[ad9];omega)];rfl
theorem SJ {l:List (Str×Str)}{bs:List Nat}{k:Str}(h:∀x∈l,x.1≠k):∀y∈l.zip bs,y.1.1≠k:=λy hy=>h y.1 (am8 hy).1
theorem KB {tm:Nat}{l:List (Str×Str)}(hm:∃bs c,bs.length=l.length/\Mp H tm (pF (l.zip bs)) c)(fN:(l.map (·.1)).Nodup)(k:Str)(ok:Bool):
  tC .str (.str []) ok (.map tm) (.str k) H=some (bif ok then .tuple [.str ((ey l k).getD []),.bool (ey l k).isSome] else .str ((ey l k).getD [])):=by
 obtain⟨bs,c,h1,h2⟩:=hm;cases hg:ey l k with
 |none=>
  rw[acs h2 (Qa (SJ (bs:=bs) (KJ hg)))];cases ok<;>rfl
 |some t=>
  obtain⟨a,b,rfl,h3⟩:=Vv hg;obtain⟨b1,c1,b2,h4⟩:=awa h1;rw[h4] at h2;have hb:∀x∈b,x.1≠k:=by intro x hx q;rw[acZ,abo,aet,ajD] at fN;exact fN.2.1.1 (abN.2 ⟨x,hx,q⟩)
  have mJ:pF (a.zip b1++((k,t),c1)::b.zip b2)=pF (a.zip b1)++⟨.str k,.str t,c1⟩::pF (b.zip b2):=by simp[pF]
  rw[mJ] at h2;rw[aiW (k:=k) h2 rfl (Qa (SJ (bs:=b1) h3)) (Qa (SJ (bs:=b2) hb))];cases ok<;>rfl
theorem FL.ap8 {p:Nat}(h:FL H p a f){s:Str}(hs:ey f.aM s=none)(t:Str):
  ∃H',xT .str (.map a.tm) (.str s) (.str t) H=some H'/\FL H' p a {f with aM:=f.aM++[(s,t)]}/\FSt H H' p a a:=by
 obtain⟨bs,c,t1,t2⟩:=h.t;obtain⟨H',u1,u2,u3⟩:=alA t2 (Qa (SJ (bs:=bs) (KJ hs))) (.str t);obtain⟨q0,q4,q1,q5,qk,qv⟩:=h.part u3 (i:=1) rfl;refine⟨H',u1,⟨q0 zzx,q4 zzx,⟨bs++[c],c+1,by simp[t1],?_⟩,?_,q5 zzx,qv,h.len,qk zzx zzx zzx,h.dj,h.lo,h.UE u3.1⟩,u3.mono λj hj=>iq (k:=1) rfl hj,λj hj=>.inl hj,λj hj=>.inl hj⟩;·rw[List.zip_append t1.symm];simpa[pF] using u2
 ·rw[acZ,aet];refine⟨h.qR,zzy,λx hx y hy q=>?_⟩;simp at hy;obtain⟨z,hz,rfl⟩:=abN.1 hx;exact KJ hs z hz (q.trans hy)
theorem Ts {ras:List RA}{xs:List (Rn×Str)}(h1:ras[i]?=some r)(h2:xs[i]?=some x):(List.zipWith bE ras xs)[i]?=some (bE r x):=by rw[adf,h1,h2]
theorem akL (h:RV H r.dx r.xs r.tx r.sx x.1):(bE r x).all aW=true:=by simp[bE,h.d.row.one,h.t.one,h.s.one,iV,JX]
theorem FL.alO {p:Nat}(h:FL H p a f){b o:Nat}(hx:f.aw[i]?=some x)(qg:∀kd,ia 5 a.rx (.int kd i)=some (.ptr b o)){R':Rn}(hR:RV H r'.dx r'.xs r'.tx r'.sx R')(hn:∀j∈r'.fp,j∉own p a):
  ∃H',st 4 (.ptr b o) (.agg (rv r'.dx R'.st r'.tx r'.sx)) H=some H'/\FL H' p {a with ras:=a.ras.set i r'} {f with aw:=f.aw.set i (R',x.2)}/\Out (ak a.rx) H H'/\(∀j∈bq.cY {a with ras:=a.ras.set i r'},j∈bq.cY a\/j∈r'.fp):=by
 have aX:=(aac.1 hx).1;have hr:a.ras[i]?=some (a.ras[i]'(by rw[h.len];exact aX)):=aai _;generalize a.ras[i]'(by rw[h.len];exact aX)=r at hr;have M3:∀v∈rv r'.dx R'.st r'.tx r'.sx,aW v=true:=by
  intro v hv;simp only[aal,ajX,or_false] at hv;rcases hv with rfl|rfl|rfl|rfl;·exact hR.d.row.one
  ·rfl
  ·exact hR.t.one
  ·exact hR.s.one
 obtain⟨H',s1,s2,s3,s4⟩:=h.r.Ys (k:=0) (vs:=rv r'.dx R'.st r'.tx r'.sx) (Ts hr hx) qg M3 zzy zzx;rw[aeA] at s1;obtain⟨q0,q4,q1,q5,qk,qv⟩:=h.part s3 (i:=5) rfl;have fY:kN (bE r x) 0 (rv r'.dx R'.st r'.tx r'.sx)=bE r' (R',x.2):=rfl;rw[fY] at s2;have BW:(List.zipWith bE a.ras f.aw).set i (bE r' (R',x.2))=List.zipWith bE (a.ras.set i r') (f.aw.set i (R',x.2)):=by
  apply aj8;intro m;rw[adf,agZ,agZ,agZ,adf];by_cases hm:i=m;·subst hm;rw[zz2 rfl,zz2 rfl,zz2 rfl,zz2 (by rw[aey];have:=h.len;omega),zz2 (by rw[h.len];exact aX),zz2 aX]
  ·rw[zz1 hm,zz1 hm,zz1 hm]
 rw[BW] at s2;have Hh:∀j∈bq.cY {a with ras:=a.ras.set i r'},j∈bq.cY a\/j∈r'.fp:=by
  intro j hj;obtain⟨m,hm,lE⟩:=ae8.1 hj;rcases adT hm with q|q;·exact .inl (ae8.2 ⟨m,q,lE⟩)
  ·rw[q] at lE;exact .inr lE
 refine⟨H',?_,⟨q0 zzx,q4 zzx,q1 zzx,h.qR,s2,?_,by rw[adi,adi];exact h.len,qk zzx zzx zzx,h.dj,h.lo,λj hj=>?_⟩,s3,Hh⟩;·unfold st;have:Nat.beq 4 (rv r'.dx R'.st r'.tx r'.sx).length=true:=rfl;simp only[HA,this,cond_true];exact s1
 ·intro m r2 x2 h1 h2;simp only at h1 h2;rw[agZ] at h1 h2;by_cases hm:i=m;·subst hm;rw[zz2 rfl,zz2 (by rw[h.len];exact aX)] at h1;rw[zz2 rfl,zz2 aX] at h2;cases h1;cases h2;exact hR.out s3 λj hj q=>hn j hj (iq (k:=5) rfl q)
  ·rw[zz1 hm] at h1 h2;exact qv m r2 x2 h1 h2
 ·have lJ:=s3.1;rcases Hh j hj with q|q;·exact⟨(h.cY j q).1,by have:=(h.cY j q).2;omega⟩
  ·exact⟨hn j q,by have:=hR.lt j q;omega⟩
theorem FL.Y2 {p:Nat}(h:FL H p a f)(hR:RV H r'.dx r'.xs r'.tx r'.sx x.1)(hn:∀j∈r'.fp,j∉own p a)(hlen:f.aw.length<=1000):
  ∃cn H1 H2,(∀i,i=H.next->c8 77 5 [.ah,(zi 0),.ah,.ah,(.str [])] false a.rx (.slice i 0 1 1 true 5) (al H (bE r' x) 77 0)=some (cn,H1))/\st 1 (.ptr p 3) cn H1=some H2/\FL H2 p {a with rx:=cn,ras:=a.ras++[r']} {f with aw:=f.aw++[x]}/\Out (own p a) H H2/\(∀j∈own p {a with rx:=cn,ras:=a.ras++[r']},j∈own p a\/H.next<=j)/\(∀j∈bq.cY {a with rx:=cn,ras:=a.ras++[r']},j∈bq.cY a\/j∈r'.fp)/\aW cn=true:=by
 obtain⟨cn,H1,p1,p2,p3,p4,p5⟩:=h.r.push (el2:=77) (z:=[.ah,(zi 0),.ah,.ah,(.str [])]) (vs:=bE r' x) (akL hR) rfl zzx (by rw[aey];have:=h.len;omega);obtain⟨q0,q4,q1,q5,qk,qv⟩:=h.part p3 (i:=5) rfl;obtain⟨H2,s1,s2,s3,s4⟩:=eV (q0 zzx) zzx (o:=3) zzy (v:=cn) p5;have hs:jr p {a with rx:=cn,ras:=a.ras++[r']}=(jr p a).set 5 (ak cn):=rfl;have qp:(jr p {a with rx:=cn,ras:=a.ras++[r']}).Pairwise Dj:=by rw[hs];exact KK h.dj (k:=5) rfl h.ltS p4
 have sep:∀{j:Nat} {l:List Nat},0≠j->(jr p {a with rx:=cn,ras:=a.ras++[r']})[j]?=some l->∀x∈l,x∉[p]:=λlM hl=>(zp qp lM (i:=0) rfl hl).symm;have hw:=T7 (a:=a) (N:=H.next) hs (k:=5) rfl p4;have Hh:∀j∈bq.cY {a with rx:=cn,ras:=a.ras++[r']},j∈bq.cY a\/j∈r'.fp:=by
  intro j hj;obtain⟨m,hm,lE⟩:=ae8.1 hj;rcases aaQ.1 hm with q|q;·exact .inl (ae8.2 ⟨m,q,lE⟩)
  ·rw[No] at q;rw[q] at lE;exact .inr lE
 have fS:=hR.lt;have hi:∀j∈bq.cY {a with rx:=cn,ras:=a.ras++[r']},j∉own p {a with rx:=cn,ras:=a.ras++[r']}/\j<H2.next:=λj hj=>by
  have lJ:=p3.1;have aIu:=s3.1;rcases Hh j hj with q|q;·exact⟨λz=>(hw j z).elim (h.cY j q).1 λy=>by have:=(h.cY j q).2;omega,by have:=(h.cY j q).2;omega⟩
  ·exact⟨λz=>(hw j z).elim (hn j q) λy=>by have:=fS j q;omega,by have:=fS j q;omega⟩
 obtain⟨bs,c,t1,t2⟩:=q1 zzx;have hO:Out (own p a) H H2:=(p3.mono λj hj=>iq (k:=5) rfl hj).trans (s3.mono λj hj=>iq (k:=0) rfl hj);have BW:List.zipWith bE a.ras f.aw++[bE r' x]=List.zipWith bE (a.ras++[r']) (f.aw++[x]):=by rw[List.zipWith_append h.len];rfl
 rw[BW] at p2;refine⟨cn,H1,H2,p1,s1,⟨s2,(q4 zzx).out s3 (sep (j:=4) zzx rfl),⟨bs,c,t1,t2.out s3 (sep (j:=1) zzx rfl _ (.head _))⟩,h.qR,p2.out s3 (sep (j:=5) zzx rfl),λi r y hr hy=>?_,by simp[h.len],(qk zzx zzx zzx).out s3 λj hj=>?_,qp,λj hj=>(hw j hj).elim (h.lo j) λq=>?_,hi⟩,hO,hw,Hh,p5⟩
 ·have jv:=hi;have key:RV H1 r.dx r.xs r.tx r.sx y.1:=by
   simp only at hr hy;by_cases aX:i<a.ras.length;·rw[abi aX] at hr;rw[abi (by rw[<-h.len];exact aX)] at hy;exact qv i r y hr hy
   ·rw[abm zzz] at hr;rw[abm (by rw[<-h.len];omega),<-h.len] at hy;have h0:i-a.ras.length=0:=by have:=(aac.1 hr).1;simp at this;omega
    rw[h0] at hr hy;cases hr;cases hy;exact hR.out p3 λj hj q=>hn j hj (iq (k:=5) rfl q)
  exact key.out s3 λj hj q=>(hi j (Nb (a:={a with rx:=cn,ras:=a.ras++[r']}) hr j hj)).1 (iq (k:=0) rfl q)
 ·rcases aal.1 hj with rfl|hj;·exact sep (j:=2) zzx rfl _ (.head _)
  ·rcases aal.1 hj with rfl|hj;·exact sep (j:=3) zzx rfl _ (.head _)
   ·exact sep (j:=6) zzx rfl _ hj
 ·have:=h.lo p (iq (k:=0) rfl (.head _));have:=h.c.1;omega
theorem FL.iO {p:Nat}(h:FL H p a f)(hn:f.ks.length<128){k:Ky}(hk:lY f.ks k=none)(id:Int):
  ∃uO H',cK (zf 33) [.ptr a.kp 0,.agg (bN k),zi id] H=some (.tuple [zi id,.bool true],H')/\FL H' p {a with kl:=uO} {f with ks:=f.ks++[(k,id)]}/\FSt H H' p a {a with kl:=uO}:=by
 obtain⟨uO,H',k1,k2,k3,k4⟩:=axh h.k hn hk id;have hS:∀j∈F9 a.kp a.km a.kl,j∈[a.kp]\/j∈[a.km]\/j∈ak a.kl:=λj hj=>by
  rcases aal.1 hj with rfl|hj;·exact .inl (.head _)
  ·rcases aal.1 hj with rfl|hj;·exact .inr (.inl (.head _))
   ·exact .inr (.inr hj)
 have sep:∀{j:Nat} {l:List Nat},j≠2->j≠3->j≠6->(jr p a)[j]?=some l->∀x∈l,x∉F9 a.kp a.km a.kl:=λh2 h3 h6 hl x hx q=>by
  rcases hS x q with z|z|z;·exact zp h.dj h2 hl (j:=2) rfl x hx z
  ·exact zp h.dj h3 hl (j:=3) rfl x hx z
  ·exact zp h.dj h6 hl (j:=6) rfl x hx z
 have hso:∀j∈F9 a.kp a.km a.kl,j∈own p a:=λj hj=>by
  rcases hS j hj with z|z|z;·exact iq (k:=2) rfl z
  ·exact iq (k:=3) rfl z
  ·exact iq (k:=6) rfl z
 have hs:jr p {a with kl:=uO}=(jr p a).set 6 (ak uO):=rfl;have qp:(jr p {a with kl:=uO}).Pairwise Dj:=by rw[hs];exact KK h.dj (k:=6) rfl h.ltS k4
 have hw:=T7 (a:=a) (N:=H.next) hs (k:=6) rfl k4;have hi:∀j∈bq.cY {a with kl:=uO},j∉own p {a with kl:=uO}/\j<H'.next:=λj hj=>⟨λq=>(hw j q).elim (h.cY j hj).1 λz=>by have:=(h.cY j hj).2;omega,by have:=(h.cY j hj).2;have:=k3.1;omega⟩;obtain⟨bs,c,t1,t2⟩:=h.t;refine⟨uO,H',k1,⟨h.c.out k3 (sep (j:=0) zzx zzx zzx rfl _ (.head _)),h.n.out k3 (sep (j:=4) zzx zzx zzx rfl),⟨bs,c,t1,t2.out k3 (sep (j:=1) zzx zzx zzx rfl _ (.head _))⟩,h.qR,h.r.out k3 (sep (j:=5) zzx zzx zzx rfl),λi r x hr hx=>(h.v i r x hr hx).out k3 λj hj q=>(h.cY j (Nb hr j hj)).1 (hso j q),h.len,k2,qp,λj hj=>(hw j hj).elim (h.lo j) λq=>?_,hi⟩,k3.mono hso,hw,λj hj=>.inl hj⟩;have:=h.lo p (iq (k:=0) rfl (.head _));have:=h.c.1;omega
end
end
def ak9 (n:Nat):Bool:=Nat.ble (dec n).length 4&&(dec n).all (λb=>Nat.ble 48 b&&Nat.ble b 57)&&(match Lib.atoiAll ((dec n).map UInt8.ofNat) with|.ok v=>v==(n:Int)|_=>false)
theorem aEK:∀n:Fin 1001,ak9 n.val=true:=by decide +kernel
theorem IQ {n:Int}(h0:0<=n)(h1:n<=1000):uB (dec n)=some n.toNat/\(dec n).length<=4/\∀b∈dec n,48<=b/\b<=57:=by
 obtain⟨m,rfl⟩:∃m:Nat,n=m:=⟨n.toNat,zzz⟩;have h:=aEK ⟨m,zzz⟩;unfold ak9 at h;simp only[aam,aeF,adP] at h;obtain⟨⟨l,d⟩,a⟩:=h;refine⟨?_,l,λb hb=>d b hb⟩;unfold uB;rw[zz2 l];have e:Ad (dec (m:Int))=(dec (m:Int)).map UInt8.ofNat:=rfl;rw[e];revert a;cases Lib.atoiAll ((dec (m:Int)).map UInt8.ofNat) with
 |ok v=>
  intro a;obtain rfl:v=(m:Int):=by simpa using a
  simp
 |_=>intro a;cases a
theorem aDc {s:Str}{n:Nat}(h:uB s=some n):dec (n:Int)=s:=by
 unfold uB at h;split at h
 ·split at h
  ·split at h;·rename_i v _ hv;cases h;rw[show ((v.toNat:Nat):Int)=v by omega];exact hv.1
   ·cases h
  ·cases h
 ·cases h
theorem ags {p:Nat->Bool}:∀{l:Str},l.dropWhile p=[]->∀b∈l,p b=true
 |[],_,b,hb=>by cases hb
 |a::l,h,b,hb=>by
  rw[List.dropWhile_cons] at h;split at h
  ·rename_i ha;rcases aal.1 hb with rfl|hb;·exact ha
   ·exact ags h b hb
  ·cases h
theorem apc {s c:Str}(h:EP s c=[]):∀b∈s,b∈c:=by
 rw[aed] at h
 replace h:=ags h
 intro b hb;have wi:b∈s.reverse:=List.mem_reverse.2 hb;rw[<-List.takeWhile_append_dropWhile (p:=(c.contains ·)) (l:=s.reverse),aaQ] at wi;rcases wi with q|q;·have:=adP.1 (List.all_takeWhile (p:=(c.contains ·)) (l:=s.reverse)) b q;simpa using this
 ·have:=h b (List.mem_reverse.2 q);simpa using this
theorem Ti {s:Str}(h:ui s=true):s≠[]/\s.length<=16/\∀b∈s,b∈vm:=by unfold ui at h;simp only[aam,akk,zz8,zz5,zz6] at h;exact⟨h.1,zzz,apc h.2.2⟩
theorem QD:∀b∈vm,b≠32/\b≠44/\b≠59/\b≠61/\b<256:=zzx
theorem aGU:∀b:Nat,48<=b->b<=57->b∈vm:=by intro b h1 h2;have:∀k:Fin 10,48+k.val∈vm:=zzx;have:=this ⟨b-48,zzz⟩;simpa[show 48+(b-48)=b by omega] using this
def ll (ts:List Tk)(a:Int):Str:=(names ts).getD a.toNat []
def jz (ts:List Tk):Bool->List Int->Str
 |_,[]=>[]|f,a::r=>((if f then [32,97,102,116,101,114,61] else [44])++ll ts a)++jz ts false r
def kK (key:Str)(n p:Int):Str:=if n=p then [] else key++dec n
def gi (ts:List Tk)(t:Tk):Str:=
 ((t.name++jz ts true t.after)++((kK [32,114,101,116,114,121,61] t.cu 0++kK [32,119,97,105,116,61] t.wait 10)++kK [32,98,97,115,101,61] t.base 1))++(if t.on=[] then [] else [32,111,110,61]++t.on)
noncomputable def lr (ts:List Tk):Str:=if jH ts=0 then lA 59 (ts.map (gi ts)) else []
def EN (k v:Str):Str:=k++61::v
def lS (c:Prop) [Decidable c] (k v:Str):List Str:=if c then [] else [EN k v]
def Ee (ts:List Tk)(t:Tk):List Str:=t.name::(lS (t.after=[]) AR (lA 44 (t.after.map (ll ts)))++(lS (t.cu=0) CH (dec t.cu)++(lS (t.wait=10) AL (dec t.wait)++(lS (t.base=1) zB (dec t.base)++lS (t.on=[]) vT t.on))))
theorem QM (c:Nat):∀(l:List Str) (a:Str),lA c (a::l)=a++l.flatMap (λs=>c::s)
 |[],a=>by simp[lA]
 |b::l,a=>by show a++c::lA c (b::l)=_;rw[QM c l b];simp
theorem ah2 (c:Nat):∀(l:List Str),l≠[]->(lA c l).length+1=dJ l+l.length
 |[],h=>absurd rfl h|[a],_=>by simp[lA,dJ]
 |a::b::l,_=>by have:=ah2 c (b::l) zzy;show (a++c::lA c (b::l)).length+1=_;simp[dJ] at this⊢;omega
theorem QL {c b:Nat}:∀{l:List Str},b∈lA c l->b=c\/∃s∈l,b∈s
 |[],h=>by cases h
 |[a],h=>.inr ⟨a,.head _,h⟩|a::d::l,h=>by
  have h:b∈a++c::lA c (d::l):=h;rw[aaQ,aal] at h;rcases h with h|h|h;·exact .inr ⟨a,.head _,h⟩
  ·exact .inl h
  ·exact (QL h).imp id λ⟨s,hs,hb⟩=>⟨s,.tail _ hs,hb⟩
theorem Xi (ts:List Tk):∀l,jz ts false l=(l.map (ll ts)).flatMap (λs=>44::s)
 |[]=>rfl|a::r=>by simp[jz,Xi ts r]
theorem ako (ts:List Tk)(a:Int)(r:List Int):jz ts true (a::r)=32::(AR++61::lA 44 ((a::r).map (ll ts))):=by rw[abo,QM,<-Xi];simp[jz]
theorem aiD (ts:List Tk)(t:Tk):gi ts t=lA 32 (Ee ts t):=by
 have h1:jz ts true t.after=(lS (t.after=[]) AR (lA 44 (t.after.map (ll ts)))).flatMap (λs=>32::s):=by
  unfold lS EN;cases h:t.after with
  |nil=>rfl|cons a r=>rw[ako];simp
 have h2:∀(k v:Str) (n p:Int),v=dec n->kK (32::(k++[61])) n p=(lS (n=p) k v).flatMap (λs=>32::s):=by intro k v n p hv;subst hv;unfold kK lS EN;split<;>simp
 have h3:(if t.on=[] then [] else [32,111,110,61]++t.on)=(lS (t.on=[]) vT t.on).flatMap (λs=>32::s):=by unfold lS EN;split<;>simp
 have a:=h2 CH _ t.cu 0 rfl;have b:=h2 AL _ t.wait 10 rfl;have c:=h2 zB _ t.base 1 rfl;unfold gi Ee;rw[QM,al4,al4,al4,al4,<-h1,<-h3,<-a,<-b,<-c];simp only[abC,List.cons_append,afV]
section
variable {c i j:Nat}{k:Str}{nms r:List Str}{t':Tk}{ts:List Tk}
theorem aDm {a:Str}(r:Str)(h:c∉a):cut c (a++c::r)=(a,r,true):=by
 unfold cut;rw[ame r 0 h,adn];simp only;rw[List.take_left',List.drop_append];·simp
 ·rfl
theorem atD:∀j i:Fin 5,i.val<=j.val->∃k,mC[j.val]?=some k/\61∉k/\(mC.drop i.val).findIdx? (λa=>k==a)=some (j.val-i.val):=by intro j i h;have:∀j i:Fin 5,i.val<=j.val->61∉mC[j.val]! /\ (mC.drop i.val).findIdx? (λa=>mC[j.val]! == a)=some (j.val-i.val):=zzx;refine⟨mC[j.val]!,?_,this j i h⟩;have h5:∀j:Fin 5,mC[j.val]?=some mC[j.val]! :=zzx;exact h5 j
theorem art {t:Tk}{v:Str}(hk:mC[j]?=some k)(hi:i<=j):oD nms (EN k v::r) t (mC.drop i)=match kE t k v nms with|none=>none|some t'=>oD nms r t' (mC.drop (j+1)):=by
 have hj:j<5:=(aac.1 hk).1;obtain⟨k',h1,h2,h3⟩:=atD ⟨j,hj⟩ ⟨i,zzz⟩ hi;rw[hk] at h1;cases h1;have hc:=aDm v h2;rw[oD];unfold EN;rw[hc];simp only;simp only at h3;rw[h3];simp only;rw[zz1 zzy,List.drop_drop];rw[show i+(j-i+1)=j+1 by omega]
 try (cases kE t k v nms<;>rfl)
theorem Lb {t:Tk}{v:Str}{c:Prop} [Decidable c] (hk:mC[j]?=some k) (hi:i<=j) (h1:c->t'=t) (h2:¬c->kE t k v nms=some t'):
  ∃i',i'<=j+1/\oD nms (lS c k v++r) t (mC.drop i)=oD nms r t' (mC.drop i'):=by
 by_cases hc:c;·refine⟨i,zzz,?_⟩;rw[h1 hc];unfold lS;rw[zz2 hc];rfl
 ·refine⟨j+1,aaq _,?_⟩;unfold lS;rw[zz1 hc];show oD nms (EN k v::r) t _=_;rw[art hk hi,h2 hc]
theorem ae6:∀{l:List Str} {i:Nat} {s:Str},l.Nodup->l[i]?=some s->l.findIdx? (λa=>s==a)=some i
 |[],i,s,_,h=>by simp at h
 |a::l,0,s,hn,h=>by simp only[adp,acM] at h;subst h;simp[ajP]
 |a::l,i+1,s,hn,h=>by
  simp only[adb] at h;rw[ajD] at hn;have aE:(s==a)=false:=by rw[zz8];intro e;subst e;exact hn.1 (aab h)
  rw[ajP,aE,ae6 hn.2 h];rfl
theorem Lz {a:Int}(h0:0<=a)(h1:a<=(ts.length:Int)-1):(names ts)[a.toNat]?=some (ll ts a)/\ll ts a∈names ts:=by
 have hl:a.toNat<(names ts).length:=by unfold names;rw[abF];omega
 have:(names ts)[a.toNat]?=some (ll ts a):=by unfold ll;rw[aij,aai hl];rfl
 exact⟨this,aab this⟩
theorem anM {ts:List Tk}(hn:(names ts).Nodup):∀{l:List Int},(∀a∈l,0<=a/\a<=(ts.length:Int)-1)->wJ (names ts) (l.map (ll ts))=some l
 |[],_=>rfl|a::l,h=>by obtain⟨a0,a1⟩:=h a (.head _);show wJ (names ts) (ll ts a::l.map (ll ts))=_;rw[wJ,ae6 hn (Lz a0 a1).1];simp only;rw[anM hn λb hb=>h b (.tail _ hb)];show some ((a.toNat:Int)::l)=_;rw[show ((a.toNat:Nat):Int)=a by omega]
structure Fit (ts:List Tk):Prop where
 nd:(names ts).Nodup
 nm:∀s∈names ts,s≠[]/\s.length<=16/\∀b∈s,b∈vm
 lh:∀t∈ts,(∀a∈t.after,0<=a/\a<=(ts.length:Int)-1)/\t.after.length<=16
 num:∀t∈ts,0<=t.cu/\t.cu<=8/\1<=t.wait/\t.wait<=1000/\1<=t.base/\t.base<=1000
 on:∀t∈ts,t.on=[]\/(t.on.length<=16/\∀b∈t.on,b∈vm)
theorem Fit.aCK (h:Fit ts){s:Str}(hs:s∈names ts):44∉s:=λq=>(QD 44 ((h.nm s hs).2.2 44 q)).2.1 rfl
theorem aFp (hF:Fit ts){t:Tk}(ht:t∈ts):yx (names ts) (Ee ts t)=some t:=by
 obtain⟨n1,n2,n3,n4,n5,n6⟩:=hF.num t ht;obtain⟨a1,a2⟩:=hF.lh t ht;have hm:∀s∈t.after.map (ll ts),s∈names ts:=λs hs=>by obtain⟨a,ha,rfl⟩:=abN.1 hs;exact (Lz (a1 a ha).1 (a1 a ha).2).2
 unfold yx Ee;show oD (names ts) _ ⟨t.name,[],0,10,1,[]⟩ (mC.drop 0)=_;obtain⟨i1,l1,e1⟩:=Lb (nms:=names ts) (r:=lS (t.cu=0) CH (dec t.cu)++(lS (t.wait=10) AL (dec t.wait)++(lS (t.base=1) zB (dec t.base)++lS (t.on=[]) vT t.on))) (t:=⟨t.name,[],0,10,1,[]⟩) (t':=⟨t.name,t.after,0,10,1,[]⟩) (i:=0) (j:=0) (k:=AR) (v:=lA 44 (t.after.map (ll ts))) (c:=t.after=[]) rfl (aaq _) (λh=>by rw[h]) λh=>by unfold kE;rw[zz2 rfl,Td (by simpa using h) λs hs=>hF.aCK (hm s hs),anM hF.nd a1];rfl
 obtain⟨i2,l2,e2⟩:=Lb (nms:=names ts) (r:=lS (t.wait=10) AL (dec t.wait)++(lS (t.base=1) zB (dec t.base)++lS (t.on=[]) vT t.on)) (t:=⟨t.name,t.after,0,10,1,[]⟩) (t':=⟨t.name,t.after,t.cu,10,1,[]⟩) (i:=i1) (j:=1) (k:=CH) (v:=dec t.cu) (c:=t.cu=0) rfl l1 (λh=>by rw[h]) λh=>by unfold kE;rw[zz1 zzx,zz2 rfl,(IQ n1 zzz).1];have e:((t.cu.toNat:Nat):Int)=t.cu:=zzz;simp only[ael,e]
 obtain⟨i3,l3,e3⟩:=Lb (nms:=names ts) (r:=lS (t.base=1) zB (dec t.base)++lS (t.on=[]) vT t.on) (t:=⟨t.name,t.after,t.cu,10,1,[]⟩) (t':=⟨t.name,t.after,t.cu,t.wait,1,[]⟩) (i:=i2) (j:=2) (k:=AL) (v:=dec t.wait) (c:=t.wait=10) rfl l2 (λh=>by rw[h]) λh=>by unfold kE;rw[zz1 zzx,zz1 zzx,zz2 rfl,(IQ zzz n4).1];have e:((t.wait.toNat:Nat):Int)=t.wait:=zzz;simp only[ael,e]
 obtain⟨i4,l4,e4⟩:=Lb (nms:=names ts) (r:=lS (t.on=[]) vT t.on) (t:=⟨t.name,t.after,t.cu,t.wait,1,[]⟩) (t':=⟨t.name,t.after,t.cu,t.wait,t.base,[]⟩) (i:=i3) (j:=3) (k:=zB) (v:=dec t.base) (c:=t.base=1) rfl l3 (λh=>by rw[h]) λh=>by unfold kE;rw[zz1 zzx,zz1 zzx,zz1 zzx,zz2 rfl,(IQ zzz n6).1];have e:((t.base.toNat:Nat):Int)=t.base:=zzz;simp only[ael,e]
 obtain⟨i5,l5,e5⟩:=Lb (nms:=names ts) (r:=[]) (t:=⟨t.name,t.after,t.cu,t.wait,t.base,[]⟩) (t':=t) (i:=i4) (j:=4) (k:=vT) (v:=t.on) (c:=t.on=[]) rfl l4 (λh=>by rw[<-h]) λh=>by unfold kE;rw[zz1 zzx,zz1 zzx,zz1 zzx,zz1 zzx,zz2 rfl,zz1 h]
 rw[ac4] at e5;rw[List.tail_cons,e1,e2,e3,e4,e5,oD]
theorem ajq (hF:Fit ts){t:Tk}(ht:t∈ts):∀s∈Ee ts t,∀b∈s,b∈vm\/b=44\/b=61:=by
 obtain⟨n1,n2,n3,n4,n5,n6⟩:=hF.num t ht;obtain⟨a1,a2⟩:=hF.lh t ht;have aT:∀(c:Prop) [Decidable c] (k v:Str),(∀b∈k,b∈vm)->(¬c->∀b∈v,b∈vm\/b=44)->∀s∈lS c k v,∀b∈s,b∈vm\/b=44\/b=61:=by
  intro c _ k v hk hv s hs b hb;unfold lS at hs;split at hs;·cases hs
  ·rename_i hc;rw[No] at hs;subst hs;unfold EN at hb;rw[aaQ,aal] at hb;rcases hb with hb|hb|hb;·exact .inl (hk b hb)
   ·exact .inr (.inr hb)
   ·exact (hv hc b hb).imp id .inl
 have WI:∀n:Int,0<=n->n<=1000->∀b∈dec n,b∈vm\/b=44:=λn h0 h1 b hb=>by obtain⟨x,y⟩:=(IQ h0 h1).2.2 b hb;exact .inl (aGU b x y)
 intro s hs;unfold Ee at hs;simp only[aal,aaQ] at hs;rcases hs with rfl|hs|hs|hs|hs|hs;·intro b hb;exact .inl ((hF.nm _ (abN.2 ⟨t,ht,rfl⟩)).2.2 b hb)
 ·refine aT _ _ _ zzx (λ_ b hb=>?_) s hs;rcases QL hb with rfl|⟨u,hu,hb⟩;·exact .inr rfl
  ·obtain⟨a,ha,rfl⟩:=abN.1 hu;exact .inl ((hF.nm _ (Lz (a1 a ha).1 (a1 a ha).2).2).2.2 b hb)
 ·exact aT _ _ _ zzx (λ_=>WI _ n1 zzz) s hs
 ·exact aT _ _ _ zzx (λ_=>WI _ zzz n4) s hs
 ·exact aT _ _ _ zzx (λ_=>WI _ zzz n6) s hs
 ·refine aT _ _ _ zzx (λhc b hb=>?_) s hs;rcases hF.on t ht with q|q;·exact absurd q hc
  ·exact .inl (q.2 b hb)
theorem okB {b:Nat}(h:b∈vm\/b=44\/b=61):b≠32/\b≠59/\b<256:=by
 rcases h with h|rfl|rfl;·have:=QD b h;omega
 ·decide
 ·decide
theorem ZQ (hF:Fit ts){t:Tk}(ht:t∈ts):∀b∈gi ts t,b≠59/\b<256:=by
 intro b hb;rw[aiD] at hb;rcases QL hb with rfl|⟨s,hs,hb⟩;·decide
 ·have:=okB (ajq hF ht s hs b hb);omega
theorem afx (hF:Fit ts){t:Tk}(ht:t∈ts):my (gi ts t)=Ee ts t:=by unfold my;rw[aiD];exact Td (by unfold Ee;simp) λs hs q=>(okB (ajq hF ht s hs 32 q)).1 rfl
theorem aog {ts:List Tk}(hF:Fit ts):∀{us:List Tk},(∀t∈us,t∈ts)->qG (names ts) (us.map (gi ts))=some us
 |[],_=>rfl|u::us,h=>by show qG (names ts) (gi ts u::us.map (gi ts))=_;rw[qG,afx hF (h u (.head _)),aFp hF (h u (.head _)),aog hF λt ht=>h t (.tail _ ht)];rfl
theorem aB1 (h:(List.range ts.length).any (dup ts)=false):(names ts).Nodup:=by
 rw[aky] at h;have key:∀k,k<=ts.length->(names (ts.take k)).Nodup:=by
  intro k;induction k with
  |zero=>intro _;rw[akd];exact anq|succ k ih=>
   intro hk;have hg:ts[k]?=some (ts[k]' zzz):=aai zzz;have h1:=h k (anm.2 zzz);unfold dup at h1;rw[hg] at h1;rw[ai6,hg];have h2:((names (ts.take k)).any λs=>s==(ts[k]' zzz).name)=false:=by simp only at h1;rwa[ahP] at h1
   rw[aky] at h2;unfold names at ih h2⊢;rw[acZ,aet];refine⟨ih zzz,zzy,λa ha b hb e=>?_⟩;simp only[Option.toList_some,abo,aiO,No] at hb;subst hb;exact h2 a ha (by simp[e])
 have:=key ts.length (aaq _);rwa[List.take_length] at this
theorem ayL (h:jH ts=0)(dd:∀t∈ts,t.after.length<=16):Fit ts/\1<=ts.length/\ts.length<=16:=by
 unfold jH at h;split at h;·cases h
 ·rename_i h1;split at h;·cases h
  ·rename_i h2;split at h;·cases h
   ·rename_i h6;split at h;·cases h
    ·rename_i h3;split at h;·cases h
     ·rename_i h4;have h1:=ai8.1 h1;have ha:=P5 (by simpa using h4);rw[ahP,aky] at h2 h3;have hq:∀t∈ts,Bq t=false/\uL t=false/\∀a∈t.after,0<=a/\a<=(ts.length:Int)-1:=λt ht=>by obtain⟨i,hi⟩:=ab2 ht;have aX:=(aac.1 hi).1;have a:=h2 i (anm.2 aX);have b:=h3 i (anm.2 aX);unfold p1 at a;unfold p3 at b;rw[hi] at a b;exact⟨by simpa using a,by simpa using b,λa ha'=>⟨((Dp ha hi).1 a ha').1,((Dp ha hi).1 a ha').2.1⟩⟩
      refine⟨⟨aB1 (by simpa using h6),λs hs=>?_,λt ht=>⟨(hq t ht).2.2,dd t ht⟩,λt ht=>?_,λt ht=>?_⟩,h1⟩;·obtain⟨t,ht,rfl⟩:=abN.1 hs;have:=(hq t ht).1;unfold Bq at this;rw[ahp] at this;exact Ti (by simpa using this.1)
      ·have:=(hq t ht).2.1;unfold uL at this;simp only[ahp,ak2,aam,zz5] at this;omega
      ·have:=(hq t ht).1;unfold Bq at this;rw[ahp,Bool.and_eq_false_iff] at this;rcases this.2 with q|q;·exact .inl (by simpa using q)
       ·exact .inr (Ti (by simpa using q)).2
theorem amx {ts:List Tk}:∀{r:List Str} {l:List Int},wJ (names ts) r=some l->l.map (ll ts)=r
 |[],l,h=>by cases h;rfl
 |s::r,l,h=>by
  unfold wJ at h;split at h
  ·rename_i i hi;rw[aag] at h;obtain⟨l',h1,rfl⟩:=h;rw[abo,amx h1];have hs:ll ts (i:Int)=s:=by
    rw[List.findIdx?_eq_some_iff_getElem] at hi;obtain⟨h2,h3,_⟩:=hi;have h4:(names ts)[i]=s:=by simpa using (beq_iff_eq.1 h3).symm
    unfold ll;rw[abO,aij,aai h2,h4];rfl
   rw[hs]
  ·cases h
theorem ash (ts:List Tk):∀(l:List Int),l≠[]->(jz ts true l).length=7+(lA 44 (l.map (ll ts))).length/\(jz ts false l).length=1+(lA 44 (l.map (ll ts))).length
 |[],h=>absurd rfl h|a::r,_=>by
  constructor;·rw[ako];simp;omega
  ·rw[Xi,abo,QM,List.flatMap_cons];simp;omega
theorem aiR (ts:List Tk):∀(l m:List Int) (f:Bool),(jz ts f (l++m)).length=(jz ts f l).length+(jz ts (f&&l.isEmpty) m).length
 |[],m,f=>by simp[jz]
 |a::l,m,f=>by have:=aiR ts l m false;simp[jz] at this⊢;omega
theorem axI {t:Tk}{v:Str}(h:kE t k v (names ts)=some t'):(gi ts t').length<=(gi ts t).length+k.length+v.length+2/\t'.name=t.name:=by
 have told:∀(key:Str) (n p q:Int),(kK key n p).length<=(kK key q p).length+key.length+(dec n).length:=by intro key n p q;unfold kK;split<;>split<;>simp<;>omega
 have zk:∀{n:Nat},uB v=some n->(dec (n:Int)).length=v.length:=λh=>by rw[aDc h]
 unfold kE at h;split at h
 ·rename_i hk;subst hk;rw[aag] at h;obtain⟨l,h1,rfl⟩:=h;have h2:=amx h1;have hl:l≠[]:=by intro e;subst e;exact Ch 44 v h2.symm
  have h3:=ash ts l hl;rw[h2,adD] at h3;have h4:=aiR ts t.after l true;refine⟨?_,rfl⟩;unfold gi;simp only[aah] at h4⊢;have h5:(jz ts (true&&t.after.isEmpty) l).length<=7+v.length:=by
   cases (true&&t.after.isEmpty);·rw[h3.2];omega
   ·rw[h3.1];omega
  show _<=_+5+_+2;omega
 ·split at h;·rename_i _ hk;subst hk;rw[aag] at h;obtain⟨n,h1,rfl⟩:=h;refine⟨?_,rfl⟩;have a:=told [32,114,101,116,114,121,61] (n:Int) 0 t.cu;have b:=zk h1;unfold gi;simp only[aah,aau,acj] at a⊢;omega
  ·split at h;·rename_i _ _ hk;subst hk;rw[aag] at h;obtain⟨n,h1,rfl⟩:=h;refine⟨?_,rfl⟩;have a:=told [32,119,97,105,116,61] (n:Int) 10 t.wait;have b:=zk h1;unfold gi;simp only[aah,aau,acj] at a⊢;omega
   ·split at h;·rename_i _ _ _ hk;subst hk;rw[aag] at h;obtain⟨n,h1,rfl⟩:=h;refine⟨?_,rfl⟩;have a:=told [32,98,97,115,101,61] (n:Int) 1 t.base;have b:=zk h1;unfold gi;simp only[aah,aau,acj] at a⊢;omega
    ·split at h
     ·rename_i _ _ _ _ hk;subst hk;split at h;·cases h
      ·rename_i hv;cases h;refine⟨?_,rfl⟩;unfold gi;simp only[zz1 hv,aah,aau,acj];omega
     ·rw[aag] at h;obtain⟨n,h1,rfl⟩:=h;exact⟨zzz,rfl⟩
theorem aEq {s:Str}(h:(cut c s).1.length≠s.length):s.length=(cut c s).1.length+1+(cut c s).2.1.length:=by
 unfold cut at h⊢;cases hi:lL c s 0 with
 |none=>rw[hi] at h;exact absurd rfl h|some i=>
  obtain⟨a,r,rfl,h2,h3⟩:=Ls hi;rw[adn] at h2;subst h2;simp;omega
theorem aow {ts:List Tk}:∀{r:List Str} {t t':Tk} {ks:List Str},oD (names ts) r t ks=some t'->(gi ts t').length<=(gi ts t).length+dJ r+r.length/\t'.name=t.name
 |[],t,t',ks,h=>by cases h;exact⟨zzy,rfl⟩
 |s::r,t,t',ks,h=>by
  unfold oD at h;split at h;·cases h
  ·split at h;·cases h
   ·rename_i aE;split at h;·cases h
    ·rename_i t1 h1;obtain⟨a1,a2⟩:=axI h1;obtain⟨b1,b2⟩:=aow h;have:=aEq aE;have hs:dJ (s::r)=s.length+dJ r:=by simp[dJ]
     refine⟨?_,b2.trans a2⟩;rw[hs];simp only[aau];omega
theorem aBN {p:Str}{t:Tk}(h:yx (names ts) (my p)=some t):(gi ts t).length<=p.length:=by
 unfold yx at h;obtain⟨h1,h2⟩:=aow h;have h3:dJ (my p)+(my p).length=p.length+1:=Jc 32 p;have aE:my p≠[]:=Ch 32 p;cases hw:my p with
 |nil=>exact absurd hw aE|cons a b=>
  rw[hw] at h1 h3;have e:gi ts ⟨(a::b).headD [],[],0,10,1,[]⟩=a:=by simp[gi,jz,kK]
  rw[e] at h1;have hs:dJ (a::b)=a.length+dJ b:=by simp[dJ]
  rw[hs] at h3;simp only[List.tail_cons,aau] at h1 h3;omega
theorem al2 {nms:List Str}:∀{r:List Str} {t t':Tk} {ks:List Str},oD nms r t ks=some t'->t'.name=t.name
 |[],t,t',ks,h=>by cases h;rfl
 |s::r,t,t',ks,h=>by
  unfold oD at h;split at h;·cases h
  ·split at h;·cases h
   ·split at h;·cases h
    ·rename_i t1 h1;rw[al2 h];unfold kE at h1;split at h1;·rw[aag] at h1;obtain⟨m,_,rfl⟩:=h1;rfl
     ·split at h1;·rw[aag] at h1;obtain⟨m,_,rfl⟩:=h1;rfl
      ·split at h1;·rw[aag] at h1;obtain⟨m,_,rfl⟩:=h1;rfl
       ·split at h1;·rw[aag] at h1;obtain⟨m,_,rfl⟩:=h1;rfl
        ·split at h1
         ·split at h1;·cases h1
          ·cases h1;rfl
         ·rw[aag] at h1;obtain⟨m,_,rfl⟩:=h1;rfl
theorem ajW {nms:List Str}:∀{r:List Str} {ts:List Tk},qG nms r=some ts->names ts=r.map rL
 |[],ts,h=>by cases h;rfl
 |s::r,ts,h=>by
  unfold qG at h;split at h;·cases h
  ·rename_i t ht;rw[aag] at h;obtain⟨l,h1,rfl⟩:=h;have h2:=ajW h1;unfold yx at ht;have h3:=al2 ht;unfold names at h2⊢;rw[abo,abo,h2,h3]
theorem akh {ts:List Tk}:∀{r:List Str} {us:List Tk},qG (names ts) r=some us->dJ (us.map (gi ts))<=dJ r/\us.length=r.length
 |[],us,h=>by cases h;exact⟨aaq _,rfl⟩
 |s::r,us,h=>by
  unfold qG at h;split at h;·cases h
  ·rename_i t ht;rw[aag] at h;obtain⟨l,h1,rfl⟩:=h;obtain⟨a,b⟩:=akh h1;have c:=aBN ht;simp only[dJ,abo,List.sum_cons,aau] at a b c⊢;omega
theorem akD (hn:ts.length<=16)(ha:yI ts):∀t∈ts,t.after.length<=16:=λt ht=>by obtain⟨i,hi⟩:=ab2 ht;obtain⟨x1,x2⟩:=Dp ha hi;have:=Pe (n:=ts.length) (λa h=>⟨(x1 a h).1,(x1 a h).2.1⟩) x2;omega
theorem Qi {text:Str}(h:(aF text).2=0):jH (aF text).1=0/\Fit (aF text).1/\1<=(aF text).1.length/\(aF text).1.length<=16/\(lr (aF text).1).length<=text.length/\text.length<=1024/\aF (lr (aF text).1)=((aF text).1,0):=by
 obtain⟨g1,g2,g3,g4,g5,g6⟩:=IA h;have dd:=akD g3 g4;obtain⟨hF,f1,f2⟩:=ayL g1 dd;have hb:¬1024<text.length:=λhb=>by unfold aF at h;rw[zz2 hb] at h;cases h
 have lP:qG ((cN 59 text).map rL) (cN 59 text)=some (aF text).1:=by
  unfold aF at h⊢;rw[zz1 hb] at h⊢;cases hq:qG ((cN 59 text).map rL) (cN 59 text) with
  |none=>rw[hq] at h;cases h
  |some ts=>
   rw[hq] at h;simp only at h⊢;by_cases h0:jH ts=0;·rw[zz2 h0]
   ·rw[zz1 h0] at h;exact absurd h h0
 generalize (aF text).1=ts at*
 have AE:=ajW lP;rw[<-AE] at lP;obtain⟨s1,s2⟩:=akh lP;have mJ:=Jc 59 text;have aE:ts.map (gi ts)≠[]:=by
  intro e;have:(ts.map (gi ts)).length=0:=by rw[e];rfl
  rw[abF] at this;omega
 have uh:=ah2 59 _ aE;rw[abF] at uh;have ot:lr ts=lA 59 (ts.map (gi ts)):=by unfold lr;rw[zz2 g1]
 have hlen:(lr ts).length<=text.length:=by rw[ot];omega
 refine⟨g1,hF,f1,f2,hlen,zzz,?_⟩;have aDr:cN 59 (lr ts)=ts.map (gi ts):=by rw[ot];refine Td aE λp hp q=>?_;obtain⟨t,ht,rfl⟩:=abN.1 hp;exact (ZQ hF ht 59 q).1 rfl
 have aFP:(ts.map (gi ts)).map rL=names ts:=by rw[amb];unfold names;refine alV λt ht=>?_;show rL (gi ts t)=t.name;unfold rL;rw[afx hF ht];rfl
 unfold aF;rw[zz1 zzz,aDr,aFP,aog hF λt ht=>ht];simp only;rw[zz2 g1]
end
end
theorem ahl (k:IntKind)(a:Int):same (.int k a) (.int k a)=true:=by cases k<;>simp[same,sY]
section
variable {H:Hp}{key:Str}{ts:List Tk}
theorem WT {n p:Int}(hk:key.length<=100)(h0:0<=n)(h1:n<=1000)(hg:Gl H):∃H',cK (zf 92) [.str key,zi n,zi p] H=some (.str (kK key n p),H')/\Out [] H H':=by
 by_cases he:n=p;·have d:(n==p)=true:=beq_iff_eq.2 he;refine⟨H,agu ?_,Out.refl _ _⟩;unfold WR kK;simp only[d,zz2 he,zz0,simprocAttr]
 ·have d:(n==p)=false:=beq_eq_false_iff_ne.2 he;obtain⟨H',i1,i2⟩:=afq (n:=n) zzz zzz hg;have hl:=(IQ h0 h1).2.1;have hs:=AJ (a:=key) (b:=dec n) zzz;refine⟨H',agu ?_,i2⟩;unfold WR kK;simp only[d,zz1 he,i1,hs,zz0,simprocAttr]
theorem J4 {n p:Int}(h0:0<=n)(h1:n<=1000):(kK key n p).length<=key.length+4:=by
 unfold kK;split;·simp
 ·have:=(IQ h0 h1).2.1;rw[aah];omega
theorem adX (hF:Fit ts){a:Int}(h0:0<=a)(h1:a<=(ts.length:Int)-1):(ll ts a).length<=16:=(hF.nm _ (Lz h0 h1).2).2.1
theorem VZ {ts:List Tk}{dx:AV}{xs:List AV}{D:Nat}{l:List Int}{lx bI bK eB dK da:AV}{H:Hp}(hF:Fit ts)(hl:l.length<=16)(ha:∀a∈l,0<=a/\a<=(ts.length:Int)-1)(gB:Rw H 1 lx (ints l))(hD:cellAt H D 0=some dx)(hR:RD H dx xs ts)(br:K.Fn 1)(aK:K.Fn 5)(fM:K.Fn 7):
  ∀(r:List Int) (k:Nat) (s:Str),k<=l.length->l.drop k=r->s.length<=100+100*k->
  LA JN GO cK br aK fM (.ptr D 0) da bI (.str s) bK eB dK lx (zi (l.length:Nat)) (zi (k:Nat)) H=fM (.ptr D 0) da bI (.str (s++jz ts (k==0) r)) bK eB dK H
 |[],k,s,hk,h,hs=>by obtain rfl:=drop_nil hk h;rw[Xj];simp only[Nf,dA,jz,ac4,zz0,Int.reduceBEq,Int.reduceBNe,Int.reduceLT,Int.reduceLE,Int.reduceGT,Int.reduceGE,Int.reduceNeg]
 |a::r,k,s,hk,h,hs=>by
  obtain⟨h1,h2,h3⟩:=dU h;obtain⟨q,q1,q2⟩:=gB.gh (Dw h2) .i64;have es:=dD h1 zzz;obtain⟨a0,a1⟩:=ha a (aab h2);have jC:=adX hF a0 a1;obtain⟨m,rfl⟩:∃m:Nat,a=m:=⟨a.toNat,zzz⟩;have hm:ts[m]?=some (ts[m]' zzz):=aai zzz;obtain⟨x,b,o,g0,g1,g2,g3,g4,g5,g6⟩:=hR.at hm;have AE:(ts[m]' zzz).name=ll ts (m:Int):=by have:=(Lz a0 a1).1;unfold names at this;rw[abO,acd,hm] at this;simpa using this
  rw[AE] at g6;cases k with
  |zero=>
   have s1:=AJ (a:=s) (b:=[32,97,102,116,101,114,61]) (by simp;omega);have s2:=AJ (a:=s++[32,97,102,116,101,114,61]) (b:=ll ts (m:Int)) (by simp;omega);have ih:=VZ (da:=da) (bI:=bI) (bK:=bK) (eB:=eB) (dK:=dK) hF hl ha gB hD hR br aK fM r 1 (s++[32,97,102,116,101,114,61]++ll ts (m:Int)) zzz h3 (by simp;omega);have e:s++jz ts ((0:Nat)==0) ((m:Int)::r)=s++[32,97,102,116,101,114,61]++ll ts (m:Int)++jz ts ((1:Nat)==0) r:=by simp[jz]
   have d0:(((0:Nat):Int)==0)=true:=rfl;rw[e,Xj];simp(disch:=try exact zqq)only[Nf,aQ h1,q1,q2,d0,s1,hD,g3,g6,s2,es,ih,ar,aq,Nat.reduceAdd,zz0,Int.reduceBEq,Int.reduceBNe,Int.reduceLT,Int.reduceLE,Int.reduceGT,Int.reduceGE,Int.reduceNeg]
  |succ k=>
   have s1:=AJ (a:=s) (b:=[44]) (by simp;omega);have s2:=AJ (a:=s++[44]) (b:=ll ts (m:Int)) (by simp;omega);have ih:=VZ (da:=da) (bI:=bI) (bK:=bK) (eB:=eB) (dK:=dK) hF hl ha gB hD hR br aK fM r (k+1+1) (s++[44]++ll ts (m:Int)) zzz h3 (by simp;omega);have e:s++jz ts ((k+1)==0) ((m:Int)::r)=s++[44]++ll ts (m:Int)++jz ts ((k+1+1)==0) r:=by simp[jz]
   have d0:(((k+1:Nat):Int)==0)=false:=zz7 zzz;rw[e,Xj];simp(disch:=try exact zqq)only[Nf,aQ h1,q1,q2,d0,s1,hD,g3,g6,s2,es,ih,ar,aq,Nat.reduceAdd,zz0,Int.reduceBEq,Int.reduceBNe,Int.reduceLT,Int.reduceLE,Int.reduceGT,Int.reduceGE,Int.reduceNeg]
theorem ag8 {ts:List Tk}(hF:Fit ts):∀{l:List Int} (f:Bool),(∀a∈l,0<=a/\a<=(ts.length:Int)-1)->(jz ts f l).length<=23*l.length
 |[],f,_=>by simp[jz]
 |a::r,f,h=>by obtain⟨h0,h1⟩:=h a (.head _);have:=adX hF h0 h1;have ih:=ag8 hF (l:=r) false λb hb=>h b (.tail _ hb);cases f<;>simp[jz]<;>omega
theorem X5 (hF:Fit ts){t:Tk}(ht:t∈ts):(t.name++jz ts true t.after).length<=400/\(gi ts t).length<=600:=by
 obtain⟨n1,n2,n3,n4,n5,n6⟩:=hF.num t ht;obtain⟨a1,a2⟩:=hF.lh t ht;have b1:=(hF.nm _ (abN.2 ⟨t,ht,rfl⟩)).2.1;have b2:=ag8 hF true a1;have c1:=J4 (key:=[32,114,101,116,114,121,61]) (p:=0) n1 zzz;have c2:=J4 (key:=[32,119,97,105,116,61]) (p:=10) (show 0<=t.wait by omega) n4;have c3:=J4 (key:=[32,98,97,115,101,61]) (p:=1) (show 0<=t.base by omega) n6;have c4:(if t.on=[] then [] else [32,111,110,61]++t.on).length<=20:=by
  split;·simp
  ·rcases hF.on t ht with q|q;·contradiction
   ·simp;omega
 simp only[aau,acj] at c1 c2 c3;refine⟨by rw[aah];omega,?_⟩;unfold gi;simp only[aah] at c4⊢;omega
theorem al7 {ts:List Tk}{dx:AV}{xs:List AV}{D:Nat}(hF:Fit ts)(hn:ts.length<=16)(Ly:11<=D):
  ∀(r:List Tk) (i:Nat) (H:Hp) (lx:AV),i<=ts.length->ts.drop i=r->Gl H->cellAt H D 0=some dx->D<H.next->RD H dx xs ts->Ow H 9 1 lx (strs ((ts.take i).map (gi ts)))->(∀j∈ak lx,j≠D/\j∉mZ dx xs/\11<=j)->
  ∃xc H',(∀br:K.Fn 1,aaa JN GO cK br (.ptr D 0) lx dx (zi (ts.length:Nat)) (zi (i:Nat)) H=br xc H')/\Rw H' 1 xc (strs (ts.map (gi ts)))/\Out (ak lx) H H'
 |[],i,H,lx,hi,h,hg,hD,Af,hR,hO,hd=>by obtain rfl:=drop_nil hi h;refine⟨lx,H,λbr=>?_,by rw[List.take_length] at hO;exact hO.rw,Out.refl _ _⟩;rw[abZ];simp only[S5,dA,zz0,simprocAttr]
 |t::r,i,H,lx,hi,h,hg,hD,Af,hR,hO,hd=>by
  obtain⟨h1,h2,h3⟩:=dU h;have ht:=aab h2;obtain⟨x,b,o,q0,q1,q2,q3,q4,q5,q6⟩:=hR.at h2;have es:=dD h1 zzz;obtain⟨n1,n2,n3,n4,n5,n6⟩:=hF.num t ht;obtain⟨a1,a2⟩:=hF.lh t ht;obtain⟨e0,e1,e2,e3,e4,e5⟩:=uZ t x;have o1:=aD H (aJ t x) 99 0;have cT:=aP H (aJ t x) 99 0;have Dd:cellAt (al H (aJ t x) 99 0) D 0=some dx:=by rw[xE Af];exact hD
  have qW:=hR.au o1;have hl:=q2.gX;rw[mX] at hl;obtain⟨l1,l2⟩:=X5 hF ht;have aI3:t.name.length<=16:=(hF.nm _ (abN.2 ⟨t,ht,rfl⟩)).2.1;have s1:=λbr aK fM=>VZ (da:=lx) (bI:=.ptr H.next 0) (bK:=dx) (eB:=zi (ts.length:Nat)) (dK:=zi (i:Nat)) hF a2 a1 (q2.au o1) Dd qW br aK fM t.after 0 t.name (abg _) aaM zzz;rw[show (((0:Nat):Int))=0 from rfl] at s1;have CU:((0:Nat)==0)=true:=rfl;rw[CU] at s1;have aC:=AX t x q1 H;obtain⟨H2,t1,o2⟩:=WT (key:=[32,114,101,116,114,121,61]) (p:=0) zzx n1 zzz (hg.au o1);obtain⟨H3,t2,o3⟩:=WT (key:=[32,119,97,105,116,61]) (p:=10) zzx (show 0<=t.wait by omega) n4 (hg.au (o1.trans o2));obtain⟨H4,t3,o4⟩:=WT (key:=[32,98,97,115,101,61]) (p:=1) zzx (show 0<=t.base by omega) n6 (hg.au ((o1.trans o2).trans o3));have c2:=cT.out o2 zzy;have c3:=c2.out o3 zzy;have c4:=c3.out o4 zzy;have k1:cellAt (al H (aJ t x) 99 0) H.next 3=some (zi t.wait):=cT.cellAt e3;have k2:cellAt (al H (aJ t x) 99 0) H.next 4=some (zi t.base):=cT.cellAt e4;have k3:cellAt H2 H.next 3=some (zi t.wait):=c2.cellAt e3;have k4:cellAt H2 H.next 4=some (zi t.base):=c2.cellAt e4;have k5:cellAt H3 H.next 4=some (zi t.base):=c3.cellAt e4;have k6:cellAt H4 H.next 5=some (.str t.on):=c4.cellAt e5;have b1:=J4 (key:=[32,114,101,116,114,121,61]) (p:=0) n1 zzz;have b2:=J4 (key:=[32,119,97,105,116,61]) (p:=10) (show 0<=t.wait by omega) n4;have b3:=J4 (key:=[32,98,97,115,101,61]) (p:=1) (show 0<=t.base by omega) n6;simp only[aau,acj] at b1 b2 b3;have u1:=AJ (a:=kK [32,114,101,116,114,121,61] t.cu 0) (b:=kK [32,119,97,105,116,61] t.wait 10) zzz;have u2:=AJ (a:=kK [32,114,101,116,114,121,61] t.cu 0++kK [32,119,97,105,116,61] t.wait 10) (b:=kK [32,98,97,115,101,61] t.base 1) (by rw[aah];omega);have u3:=AJ (a:=t.name++jz ts true t.after) (b:=kK [32,114,101,116,114,121,61] t.cu 0++kK [32,119,97,105,116,61] t.wait 10++kK [32,98,97,115,101,61] t.base 1) (by simp only[aah] at l1⊢;omega);have gq:Out [] H H4:=((o1.trans o2).trans o3).trans o4;have aIg:=gq.nx;have tM:(ts.take (i+1)).map (gi ts)=(ts.take i).map (gi ts)++[gi ts t]:=by rw[ai6,h2];simp
  obtain⟨lx1,H5,p1,p2,p3,p4,p5⟩:=wL (el2:=9) (z:=[(.str [])]) (vs:=[.str (gi ts t)]) (hO.out gq zzy) rfl rfl zzx (by simp[strs];omega);have uG:strs ((ts.take i).map (gi ts))++[.str (gi ts t)]=strs ((ts.take (i+1)).map (gi ts)):=by rw[tM];simp[strs]
  rw[uG] at p2;have o5:Out (ak lx) H H5:=(gq.mono λj hj=>by cases hj).trans p3;have hn5:=p3.nx;have fS:=hR.lt;have JS:∀j∈ak lx1,j≠D/\j∉mZ dx xs/\11<=j:=λj hj=>(p4 j hj).elim (hd j) λz=>⟨zzz,λy=>by have:=fS j y;omega,zzz⟩;obtain⟨xc,H',i1,i2,i3⟩:=al7 hF hn Ly r (i+1) H5 lx1 h1 h3 (hg.out o5 λj hj=>(hd j hj).2.2) (by rw[o5.cellAt Af λz=>(hd D z).1 rfl];exact hD) zzz (hR.out o5 λj hj z=>(hd j z).2.1 hj) p2 JS;have fX:=p1 _ rfl;refine⟨xc,H',λbr=>?_,i2,o5.then i3 λj hj=>(p4 j hj).imp id λz=>zzz⟩;have hTt:gi ts t=((t.name++jz ts true t.after)++((kK [32,114,101,116,114,121,61] t.cu 0++kK [32,119,97,105,116,61] t.wait 10)++kK [32,98,97,115,101,61] t.base 1))++(if t.on=[] then [] else [32,111,110,61]++t.on):=rfl;generalize kK [32,114,101,116,114,121,61] t.cu 0=T1 at*
  generalize kK [32,119,97,105,116,61] t.wait 10=T2 at*
  generalize kK [32,98,97,115,101,61] t.base 1=T3 at*
  generalize t.name++jz ts true t.after=s0 at*
  generalize gi ts t=sT at*
  by_cases sw:t.on=[]
  ·have d:(t.on==([]:Str))=true:=by rw[sw];rfl
   have uC:s0++(T1++T2++T3)=sT:=by rw[hTt,zz2 sw,ac4]
   rw[uC] at u3;rw[abZ];simp(disch:=try exact zqq)only[S5,aQ h1,q3,q5,aC,e0,e1,e2,hl,s1,t1,t2,t3,k1,k2,k3,k4,k5,k6,u1,u2,u3,eP (ahl _ _),d,fX,es,i1,ar,aq,Nat.reduceAdd,zz0,simprocAttr]
  ·have d:(t.on==([]:Str))=false:=by simp[sw]
   have kX:t.on.length<=16:=(hF.on t ht).elim (λq=>absurd q sw) λq=>q.1;have u4:=AJ (a:=[32,111,110,61]) (b:=t.on) (by simp;omega);have u5:=AJ (a:=s0++(T1++T2++T3)) (b:=[32,111,110,61]++t.on) (by simp only[aah,aau,acj] at l1⊢;omega);have uC:s0++(T1++T2++T3)++([32,111,110,61]++t.on)=sT:=by rw[hTt,zz1 sw]
   rw[uC] at u5;rw[abZ];simp(disch:=try exact zqq)only[S5,aQ h1,q3,q5,aC,e0,e1,e2,hl,s1,t1,t2,t3,k1,k2,k3,k4,k5,k6,u1,u2,u3,u4,u5,eP (ahl _ _),d,fX,es,i1,ar,aq,Nat.reduceAdd,zz0,simprocAttr]
theorem amW {dx:AV}{xs:List AV}(hg:Gl H)(hF:Fit ts)(h1:1<=ts.length)(hn:ts.length<=16)(ahA:jH ts=0)(hR:RD H dx xs ts):
  ∃H',cK (zf 55) [dv dx] H=some (.str (lr ts),H')/\Out [] H H':=by
 have eU:=hR.row.one;have ir:=hR.aG;have o1:=aD H [dx] 72 0;have Tv:=hg.nx;have hc:av (al H [dx] 72 0) H.next 0 1=some [dx]:=Oc rfl zzy;obtain⟨H2,g1,o2⟩:=S6 (ts:=ts) zzz (λt ht=>by have:=(hF.lh t ht).2;omega) (hR.au o1);rw[ahA] at g1;have jo:=o2.nx;rw[bS] at jo;have hD2:cellAt H2 H.next 0=some dx:=by rw[o2.cellAt (by rw[bS];omega) zzy,Bw rfl];rfl
 have iK:=(hR.au o1).au o2;have aO:bx 72 (.agg [dx]) H=some (H.next,al H [dx] 72 0):=iz zzy;obtain⟨lx,H3,l1,l2,l3⟩:=al7 (D:=H.next) hF hn zzz ts 0 H2 .ah (abg _) aaM (hg.au (o1.trans o2)) hD2 zzz iK .nil (λj hj=>by cases hj);rw[show (((0:Nat):Int))=0 from rfl] at l1;have l3':Out [] H2 H3:=l3;have u6:∀us:List Tk,(∀t∈us,t∈ts)->dJ (us.map (gi ts))<=600*us.length:=by
  intro us;induction us with
  |nil=>intro _;simp[dJ]|cons u us ih=>
   intro h;have a:=ih λt ht=>h t (.tail _ ht);have b:=(X5 hF (h u (.head _))).2;simp only[dJ,abo,List.sum_cons,aau] at a⊢;omega
 have hs:=u6 ts λt ht=>ht;obtain⟨H4,j1,j2⟩:=awt (sep:=[59]) rfl l2 (by rw[abF];omega) (λs hs=>by
  obtain⟨t,ht,rfl⟩:=abN.1 hs;have:=(X5 hF ht).2;omega) zzz (λs hs b hb=>by
  rcases aal.1 hs with rfl|hs;·rw[No] at hb;subst hb;decide
  ·obtain⟨t,ht,rfl⟩:=abN.1 hs;exact (ZQ hF ht b hb).2)
 rw[ahZ] at j1;have ot:lr ts=lA 59 (ts.map (gi ts)):=by unfold lr;rw[zz2 ahA]
 rw[<-ot] at j1;refine⟨H4,aeW ?_,((o1.trans o2).trans l3').trans j2⟩;have d:((0:Int) != 0)=false:=rfl;unfold abw;simp(disch:=try exact zqq)only[aO,hc,g1,d,hD2,ir,l1,j1,ar,aq,Nat.reduceAdd,zz0,simprocAttr]
end
section
variable {H:Hp}{a:FA}{f:Fm}
theorem PC {text:Str}(hg:Gl H):∃dx xs H',cK (zf 53) [.str text] H=some (.tuple [dv dx,zi (aF text).2],H')/\RD H' dx xs (aF text).1/\Out [] H H'/\∀j∈mZ dx xs,H.next<=j:=by
 by_cases hl:text.length<=4294967296;·exact atZ hg hl
 have o1:=aD H [.ah] 72 0;have d:decide ((1024:Int)<(text.length:Int))=true:=zz3 zzz;have aC:st 1 (.ptr H.next 0) (.agg [.ah]) (al H [.ah] 72 0)=some (al H [.ah] 72 0):=gy rfl rfl rfl zzx rfl;unfold aF;rw[zz2 zzz];refine⟨.ah,[],al H [.ah] 72 0,NR ?_,RD.nil _,o1,λj hj=>by cases hj⟩;unfold JA;simp(disch:=try exact zqz)only[d,aC,ar,aq,zz0,simprocAttr]
theorem aGd (i:Nat):same (.map i) (.map i)=true:=by simp[same,sY,aiw]
def qh:Fm:=⟨0,[],[],[],[]⟩
theorem Zo (hn:11<=H.next):∃p a H',cK (zf 18) [] H=some (.ptr p 0,H')/\FL H' p a qh/\Out [] H H'/\(∀j∈own p a,H.next<=j)/\a.ras=[]:=by
 obtain⟨H1,m1,m2,m3,m4⟩:=TG H;obtain⟨kp,km,H2,k1,k2,k3,k4,k5⟩:=apW H1;have kL:=k2.lt;have hf:fl [(zi 0),.ah,.lz,.ah,.dE] [(2,1,.map H.next),(4,1,.ptr kp 0)]=some (fv ⟨H.next,kp,km,.ah,.ah,.ah,[]⟩ qh):=rfl;have aO:bx 67 (.agg (fv ⟨H.next,kp,km,.ah,.ah,.ah,[]⟩ qh)) H2=some (H2.next,al H2 (fv ⟨H.next,kp,km,.ah,.ah,.ah,[]⟩ qh) 67 0):=iz zzy;have o3:=aD H2 (fv ⟨H.next,kp,km,.ah,.ah,.ah,[]⟩ qh) 67 0;have c3:=aP H2 (fv ⟨H.next,kp,km,.ah,.ah,.ah,[]⟩ qh) 67 0;have l1:=kL kp (.head _);have l2:=kL km (.tail _ (.head _));have n2:=k3.1;have J1:∀j∈own H2.next ⟨H.next,kp,km,.ah,.ah,.ah,[]⟩,H.next<=j:=by intro j hj;simp[own,jr,ak] at hj;omega
 refine⟨H2.next,⟨H.next,kp,km,.ah,.ah,.ah,[]⟩,al H2 (fv ⟨H.next,kp,km,.ah,.ah,.ah,[]⟩ qh) 67 0,atk ?_,⟨c3,.nil,⟨[],0,rfl,(m2.out k3 zzy).out o3 zzy⟩,by simp[qh],OL.nil _ _ _,λi r x hr=>by simp at hr,rfl,k2.au o3,?_,λj hj=>?_,λj hj=>by simp[cY] at hj⟩,(m3.trans k3).trans o3,J1,rfl⟩;·unfold aj9;simp only[m1,k1,hf,aO,zz0,simprocAttr]
 ·have Po:=k2.d1;simp[jr,Dj,ak];omega
 ·have:=J1 j hj;omega
theorem FL.JH {p:Nat}(h:FL H p a f):aG a.rx=some (zi (f.aw.length:Nat)):=by have:=h.r.rl.len zzx;rw[aey,h.len,ajN] at this;exact this
theorem aEs {p:Nat}(h:FL H p a f):cK (zf 29) [.ptr p 0] H=some (zi (f.aw.length:Nat),H):=by have k3:cellAt H p 3=some a.rx:=h.c.cellAt rfl;refine azo ?_;unfold aha;simp(disch:=try exact zqz)only[k3,h.JH,ar,aq,zz0,simprocAttr]
theorem aAn {p:Nat}(h:FL H p a f)(s t:Str):∃H',cK (zf 45) [.ptr p 0,.str s,.str t] H=some (.tuple [zi ((lY f.ks (s,t)).getD 0),.bool (lY f.ks (s,t)).isSome],H')/\Out [] H H':=by have k4:cellAt H p 4=some (.ptr a.kp 0):=h.c.cellAt rfl;have hf:fl [(.str []),(.str [])] [(0,1,.str s),(1,1,.str t)]=some (bN (s,t)):=rfl;obtain⟨H',g1,g2⟩:=aC5 h.k (s,t);refine⟨H',atz ?_,g2⟩;unfold agn;simp(disch:=try exact zqz)only[k4,hf,g1,ar,aq,zz0,simprocAttr]
noncomputable def tT (f:Fm)(s:Str):List Tk:=match ey f.aM s with|none=>[]|some t=>(aF t).1
theorem ahE {p:Nat}(h:FL H p a f)(hg:Gl H)(s:Str):
  ∃dx xs H',cK (zf 56) [.ptr p 0,.str s] H=some (.tuple [dv dx,.bool (ey f.aM s).isSome],H')/\RD H' dx xs (tT f s)/\Out [] H H'/\∀j∈mZ dx xs,H.next<=j:=by
 have o1:=aD H [.ah] 72 0;have c1:=aP H [.ah] 72 0;have n1:(al H [.ah] 72 0).next=H.next+1:=rfl;generalize bw:al H [.ah] 72 0=H1 at*
 have h1:=h.au o1;have k2:cellAt H1 p 2=some (.map a.tm):=h1.c.cellAt rfl;have lk:=KB h1.t h1.qR s true;unfold tT;cases hs:ey f.aM s with
 |none=>
  rw[hs] at lk;obtain⟨H2,t1,t2,t3,t4⟩:=iE (n:=1) (vs:=[.ah]) c1 rfl rfl rfl;have k3:av H2 H.next 0 1=some [.ah]:=t2.av 1 0 zzy;refine⟨.ah,[],H2,adH ?_,RD.nil _,fh o1 t3 (la (aaq _)),λj hj=>by cases hj⟩;unfold XC;simp(disch:=try exact zqz)only[bw,k2,lk,Option.getD_none,af0,cond_true,t1,k3,ar,aq,zz0,simprocAttr]
 |some t=>
  rw[hs] at lk;obtain⟨dx,xs,H2,p1,p2,p3,p4⟩:=PC (text:=t) (hg.au o1);have eU:=p2.row.one;have n2:=p3.nx;have o3:=aD H2 [dx] 72 0;have c3:=aP H2 [dx] 72 0;have aC:st 1 (.ptr H2.next 0) (.agg [dx]) (al H2 [.ah] 72 0)=some (al H2 [dx] 72 0):=gy (by simp[eU]) rfl rfl zzx rfl;generalize jg:al H2 [dx] 72 0=H3 at*
  have k4:av H3 H2.next 0 1=some [dx]:=c3.av 1 0 zzy;have cR:=(c1.out p3 zzy).out o3 zzy;obtain⟨H4,t1,t2,t3,t4⟩:=iE (n:=1) (vs:=[dx]) cR rfl rfl (by simp[eU]);have k5:av H4 H.next 0 1=some [dx]:=t2.av 1 0 zzy;refine⟨dx,xs,H4,adH ?_,((p2.au o3).out t3 λj hj=>by rw[No];have:=p4 j hj;omega),fh ((o1.trans p3).trans o3) t3 (la (aaq _)),λj hj=>by have:=p4 j hj;omega⟩;unfold XC;simp(disch:=try exact zqz)only[bw,k2,lk,afK,agd,cond_true,p1,aC,k4,t1,k5,ar,aq,zz0,simprocAttr]
noncomputable def mY (f:Fm)(s t:Str):Fm×Int:=
 if (ey f.aM s).isSome then (f,5) else if (aF t).2≠0 then (f,(aF t).2) else if f.nms.length=16 then (f,6) else
  ({f with nms:=f.nms++[s],aM:=f.aM++[(s,lr (aF t).1)]},0)
theorem FSt.end {H1 H2:Hp}{p:Nat}{b:FA}(h:Out [] H H1)(k:FSt H1 H2 p a b):FSt H H2 p a b:=(FSt.same h p a).trans k
theorem adL {p:Nat}(h:FL H p a f)(hg:Gl H)(hn:f.nms.length<=16)(s t:Str):
  ∃a' H',cK (zf 40) [.ptr p 0,.str s,.str t] H=some (zi (mY f s t).2,H')/\FL H' p a' (mY f s t).1/\FSt H H' p a a':=by
 have k2:cellAt H p 2=some (.map a.tm):=h.c.cellAt rfl;have lk:=KB h.t h.qR s true;unfold mY;cases hs:ey f.aM s with
 |some t0=>
  rw[hs] at lk;rw[zz2 (show (some t0).isSome=true from rfl)];refine⟨a,H,Tn ?_,h,FSt.same (Out.refl _ _) p a⟩;unfold Mi;simp(disch:=try exact zqz)only[k2,lk,afK,agd,cond_true,ar,aq,zz0,simprocAttr]
 |none=>
  rw[hs] at lk;rw[zz1 zzy];obtain⟨dx,xs,H2,p1,p2,p3,p4⟩:=PC (text:=t) hg;have eU:=p2.row.one;have o3:=aD H2 [dx] 72 0;have c3:=aP H2 [dx] 72 0;have n3:(al H2 [dx] 72 0).next=H2.next+1:=rfl;have aC:st 1 (.ptr H2.next 0) (.agg [dx]) (al H2 [.ah] 72 0)=some (al H2 [dx] 72 0):=gy (by simp[eU]) rfl rfl zzx rfl;have xn:st 1 (.ptr H2.next 0) (dv dx) (al H2 [.ah] 72 0)=some (al H2 [dx] 72 0):=aC;generalize jg:al H2 [dx] 72 0=H3 at*
  have gg:=p3.trans o3;have h3:=h.au gg;by_cases hp:(aF t).2=0
  ·have dp:((aF t).2 != 0)=false:=by simp[hp]
   rw[zz1 (by simp[hp])];have k1:cellAt H3 p 1=some a.nx:=h3.c.cellAt rfl;have gB:=h3.n.rw.gX;rw[gQ] at gB;by_cases bO:f.nms.length=16
   ·have d16:(((f.nms.length:Nat):Int)==16)=true:=by simp[bO]
    rw[zz2 bO];refine⟨a,H3,Tn ?_,h3,FSt.same gg p a⟩;unfold Mi;simp(disch:=try exact zqz)only[k2,lk,Option.getD_none,af0,cond_true,p1,aC,xn,dp,k1,gB,d16,ar,aq,zz0,simprocAttr]
   ·have d16:(((f.nms.length:Nat):Int)==16)=false:=by rw[zz8];omega
    rw[zz1 bO];obtain⟨gV,H4,H5,a1,a2,a3,a4,a5⟩:=h3.aFe s zzz;have GS:=a1 H3.next rfl;have hf:fl [(.str [])] [(0,1,.str s)]=some [.str s]:=rfl;have cB:aA H3 [.str s] 9 0=some (H3.next,al H3 [.str s] 9 0):=eA zzy;have apG:H2.next∉own p a:=λq=>by have:=h.lt _ q;have:=p3.1;omega
    have c5:Cs H5 H2.next [dx] 72 0:=c3.out a4.o apG;have k5:av H5 H2.next 0 1=some [dx]:=c5.av 1 0 zzy;have kD:=Qi hp;have aqc:RD H5 dx xs (aF t).1:=(p2.au o3).out a4.o λj hj q=>by have:=p4 j hj;have:=h.lt _ q;omega
    have hg5:Gl H5:=(hg.au gg).out a4.o h.lo;obtain⟨H6,s1,s2⟩:=amW hg5 kD.2.1 kD.2.2.1 kD.2.2.2.1 kD.1 aqc;have h6:=a3.au s2;obtain⟨H7,u1,u2,u3⟩:=h6.ap8 (s:=s) (by simpa using hs) (lr (aF t).1);have k6:cellAt H5 p 2=some (.map a.tm):=a3.c.cellAt rfl;have k7:cellAt H6 p 2=some (.map a.tm):=h6.c.cellAt rfl;refine⟨{a with nx:=gV},H7,Tn ?_,u2,FSt.end gg (a4.trans ((FSt.same s2 p _).trans u3))⟩;unfold Mi;simp(disch:=try exact zqz)only[k2,lk,Option.getD_none,af0,cond_true,p1,aC,xn,dp,k1,gB,d16,hf,cB,GS,a2,k5,k6,k7,s1,u1,eP (aGd _),ar,aq,zz0,simprocAttr]
  ·have dp:((aF t).2 != 0)=true:=by simp[hp]
   rw[zz2 hp];refine⟨a,H3,Tn ?_,h3,FSt.same gg p a⟩;unfold Mi;simp(disch:=try exact zqz)only[k2,lk,Option.getD_none,af0,cond_true,p1,aC,xn,dp,ar,aq,zz0,simprocAttr]
end
end Go.Proofs.YtodfajmihkagnaaGreatDoor.bq
