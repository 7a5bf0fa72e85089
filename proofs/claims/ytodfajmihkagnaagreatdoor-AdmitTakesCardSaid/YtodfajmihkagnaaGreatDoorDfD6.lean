/- Laws that the proof uses. -/
import Derived.Test.YtodfajmihkagnaaGreatDoorDfM
set_option linter.unusedVariables false
set_option linter.unusedSimpArgs false
set_option maxRecDepth 10000
set_option maxHeartbeats 1000000
namespace Go.Proofs.YtodfajmihkagnaaGreatDoor.DfK
open Go Am Am.K jY me jQ nY
theorem C6 (c:Nat):∀ s:aq,cO (cx c s)+(cx c s).length=s.length+1
 | []=>rfl
 | b::s=>by
  have ih:=C6 c s
  unfold cx
  by_cases h:b=c
  ·rw[if_pos h];simp only[cO,adK,ajY,ads,aaN] at *;omega
  ·rw[if_neg h]
   cases hs:cx c s with
   | nil=>exact absurd hs (wG c s)
   | cons x y=>rw[hs] at ih;simp only[cO,adK,ajY,aaN] at *;omega
abbrev jK (s:aq):List aq:=cx 32 s
abbrev oD (s:aq):aq:=(jK s).headD []
structure PS (H:Hp)(rx nx:AV)(rws:List AV)(ps:List aq):Prop where
 r:Ow H 46 1 rx rws
 n:Ow H 9 1 nx (strs (ps.map oD))
 len:rws.length=ps.length
 w:∀ (i:Nat) (wx:AV) (s:aq),rws[i]? = some wx->ps[i]? = some s->Rw H 1 wx (strs (jK s))
 dw:∀ wx∈rws,∀ j∈ak wx,j∉ak rx/\j∉ak nx
 dn:∀ j∈ak rx,j∉ak nx
theorem XK {R:AV}{px:AV}{ps:List aq}{B:Nat}(ml:ps.length<=5000)(kq:∀ s∈ps,s.length<=5000):∀ (r:List aq) (i:Nat) (H:Hp) (rx nx:AV) (rws:List AV),i<=ps.length->ps.drop i=r->Rw H 1 px (strs ps)->PS H rx nx rws (ps.take i)->(∀ j∈ak px,j∉ak rx/\j∉ak nx)->B<=H.next->(∀ j,j∈ak rx\/j∈ak nx->B<=j)->(∀ wx∈rws,∀ j∈ak wx,B<=j)->
  ∃ eI fX K2 H' S,(∀ jm:K.Fn 3,FU JN GO cK jm R rx nx px (.int .i64 (ps.length:Nat)) (.int .i64 (i:Nat)) H=jm R eI fX H')/\PS H' eI fX K2 ps/\Out S H H'/\(∀ j∈S,B<=j)/\(∀ j,j∈ak eI\/j∈ak fX->B<=j)/\(∀ wx∈K2,∀ j∈ak wx,B<=j)
 | [],i,H,rx,nx,rws,hi,h,JI,hP,hd,hB,hr,hw=>by
  obtain rfl:=drop_nil hi h
  rw[afi (aaH _)] at hP
  refine⟨rx,nx,rws,H,[],fun jm => ?_,hP,Out.refl _ _,(fun j hj=>by cases hj),hr,hw⟩
  rw[Yl]
  simp only[Jl,fZ,aj,ai,simprocAttr]
 | s::r,i,H,rx,nx,rws,hi,h,JI,hP,hd,hB,hr,hw=>by
  obtain⟨h1,h2,h3⟩:=gy h
  obtain⟨q,q1,q2⟩:=JI.mb (yP h2) .i64
  have es:=gq h1 (by omega)
  have og:=kq s (aaF h2)
  have pV:ps.take (i+1)=ps.take i++[s]:=by rw[ahw,h2];rfl
  have bu:(ps.take i).length=i:=by rw[ael];omega
  obtain⟨wx,H1,s1,s2,s3,s4⟩:=Oj (c:=32) (by decide) (s:=s) (by omega) H
  have jJ:=s3.nx
  have Ad:=s2.lt
  have ff:=hP.r.rw.lt
  have ic:=hP.n.rw.lt
  obtain⟨IM,H2,p1,p2,p3,p4,p5⟩:=uf (fJ:=46) (z:=[.ah]) (vs:=[wx]) (hP.r.out s3 (by simp)) (by simp[s2.one]) rfl (by decide) (by rw[hP.len,bu];simp;omega)
  have gK:=p3.nx
  have Gf:Rw H2 1 wx (strs (jK s)):=s2.out p3 fun j hj z=>by have:=s4 j hj;have:=ff j z;omega
  have hN2:Ow H2 9 1 nx (strs ((ps.take i).map oD)):=(hP.n.out s3 (by simp)).out p3 fun j hj z=>hP.dn j z hj
  obtain⟨w0,w1,abG⟩:∃ a b,jK s=a::b:=by
   cases hs:jK s with
   | nil=>exact absurd hs (wG 32 s)
   | cons a b=>exact⟨a,b,rfl⟩
  obtain⟨y,y1,y2⟩:=Gf.mb (i:=0) (v := .str w0) (by rw[abG];rfl) .i64
  rw[show (((0:Nat):Int))=0 from rfl] at y1
  obtain⟨LS,H3,n1,n2,n3,n4,n5⟩:=uf (fJ:=9) (z:=[.str []]) (vs:=[.str w0]) hN2 rfl rfl (by decide) (by rw[ji,adV,bu];simp;omega)
  have wH:=n3.nx
  have hh:oD s=w0:=by show (jK s).headD []=w0;rw[abG];rfl
  have akV:strs ((ps.take i).map oD)++[.str w0]=strs ((ps.take (i+1)).map oD):=by rw[pV,ad8,EJ,adK,List.map_nil,hh];rfl
  rw[akV] at n2
  have iM:=p1 _ rfl
  have n1':=n1 _ rfl
  have Cv:∀ j∈ak IM,j∈ak rx\/H1.next<=j:=p4
  have AT:∀ j∈ak LS,j∈ak nx\/H2.next<=j:=n4
  have alM:∀ j∈ak IM,j<H2.next:=p2.rw.lt
  have ahd:∀ wy∈rws,∀ j∈ak wy,j<H.next:=fun wy lV j hj=>by
   obtain⟨k,hk⟩:=adQ lV
   have jF:=(aas.1 hk).1
   rw[hP.len] at jF
   exact (hP.w k wy _ hk (aau jF)).lt j hj
  have o2:Out (ak rx) H H2:=(s3.mono fun j hj=>by cases hj).trans p3
  have o3:Out (ak rx++ak nx) H H3:=(o2.mono fun j hj=>abA _ hj).trans (n3.mono fun j hj=>abx _ hj)
  have Ik:PS H3 IM LS (rws++[wx]) (ps.take (i+1)):=by
   refine⟨p2.out n3 fun j hj z => ?_,n2,by rw[aa0,hP.len,pV,aa0];rfl,fun k wy t hk ht => ?_,fun wy lV j hj => ?_,fun j hj z => ?_⟩
   ·rcases Cv j hj with y | y
    ·exact hP.dn j y z
    ·have:=ic j z;omega
   ·rw[pV] at ht
    by_cases TN:k<i
    ·rw[abD (by rw[hP.len,bu];exact TN)] at hk
     rw[abD (by rw[bu];exact TN)] at ht
     have hm:=aaF hk
     exact (hP.w k wy t hk ht).out o3 fun j hj z=>(abV.1 z).elim (hP.dw wy hm j hj).1 (hP.dw wy hm j hj).2
    ·have fR:=(aas.1 ht).1
     rw[aa0,bu] at fR
     obtain rfl:k=i:=by simp at fR;omega
     rw[ab7 (by rw[hP.len,bu];exact aaH _),hP.len,bu,ahF] at hk
     rw[ab7 (by rw[bu];exact aaH _),bu,ahF] at ht
     cases hk;cases ht
     exact Gf.out n3 fun j hj z=>by have:=s4 j hj;have:=ic j z;omega
   ·rcases abV.1 lV with lV | lV
    ·have hjo:=ahd wy lV j hj
     exact⟨fun z=>(Cv j z).elim (hP.dw wy lV j hj).1 fun y=>by omega,fun z=>(AT j z).elim (hP.dw wy lV j hj).2 fun y=>by omega⟩
    ·rw[No] at lV
     subst lV
     have:=s4 j hj
     have:=Ad j hj
     exact⟨fun z=>(Cv j z).elim (fun y=>by have:=ff j y;omega) fun y=>by omega,fun z=>(AT j z).elim (fun y=>by have:=ic j y;omega) fun y=>by omega⟩
   ·rcases AT j z with y | y
    ·rcases Cv j hj with x | x
     ·exact hP.dn j x y
     ·have:=ic j y;omega
    ·have:=alM j hj;omega
  have aao:=JI.lt
  obtain⟨eI,fX,K2,H',S,i1,i2,i3,i4,i5,i6⟩:=XK (R:=R) (B:=B) ml kq r (i+1) H3 IM LS (rws++[wx]) h1 h3 (JI.out o3 fun j hj z=>(abV.1 z).elim (hd j hj).1 (hd j hj).2) Ik (fun j hj=>⟨fun z=>(Cv j z).elim (hd j hj).1 fun y=>by have:=aao j hj;omega,fun z=>(AT j z).elim (hd j hj).2 fun y=>by have:=aao j hj;omega⟩) (by omega) (fun j hj=>by
   rcases hj with hj | hj
   ·exact (Cv j hj).elim (fun z=>hr j (.inl z)) fun z=>by omega
   ·exact (AT j hj).elim (fun z=>hr j (.inr z)) fun z=>by omega) (fun wy lV j hj=>by
   rcases abV.1 lV with lV | lV
   ·exact hw wy lV j hj
   ·rw[No] at lV;subst lV;have:=s4 j hj;omega)
  refine⟨eI,fX,K2,H',(ak rx++ak nx)++S,fun jm => ?_,i2,(o3.mono fun j hj=>abA _ hj).trans (i3.mono fun j hj=>abx _ hj),fun j hj => ?_,i5,i6⟩
  ·have aqK:=s2.one
   rw[Yl]
   simp(disch:=first|exact zqz|fail)only[Jl,bH h1,q1,q2,s1,iM,y1,y2,n1',es,i1,ar,au,aj,ai,simprocAttr]
  ·rcases abV.1 hj with hj | hj
   ·exact hr j (abV.1 hj)
   ·exact i4 j hj
noncomputable def nq (names:List aq):List aq->Option (List Tk)
 | []=>some []
 | s::r=>match uv names (jK s) with
  | none=>none
  | some t=>(nq names r).map fun l=>t::l
noncomputable def aN (text:aq):List Tk × Int:=
 if 1024<text.length then ([],14) else match nq ((cx 59 text).map oD) (cx 59 text) with
  | none=>([],2)
  | some ts=>if jc ts=0 then (ts,0) else ([],jc ts)
theorem Y6 {names:List aq}:∀ {r:List aq} {t t':Tk} {ks:List aq},lQ names r t ks=some t'->t'.after.length<=t.after.length+cO r+r.length
 | [],t,t',ks,h=>by cases h;simp[cO]
 | s::r,t,t',ks,h=>by
  unfold lQ at h
  split at h
  ·cases h
  ·split at h
   ·cases h
   ·split at h
    ·cases h
    ·rename_i t1 h1
     have h2:=WJ h1
     have h3:=Y6 h
     have:=(abO 61 s).2
     have hs:cO (s::r)=s.length+cO r:=by simp[cO]
     rw[hs];simp only[aaN];omega
theorem WG {names:List aq}{s:aq}{t:Tk}(h:uv names (jK s)=some t):t.after.length<=s.length+1:=by
 unfold uv at h
 have h1:=Y6 h
 have h2:cO (jK s)+(jK s).length=s.length+1:=C6 32 s
 have h3:cO (jK s).tail+(jK s).tail.length<=cO (jK s)+(jK s).length:=by
  cases jK s with
  | nil=>simp
  | cons a b=>simp[cO];omega
 simp only[ads] at h1
 omega
theorem Uz {names:List aq}:∀ {r:List aq} {ts:List Tk},nq names r=some ts->ts.length=r.length/\∀ B,(∀ s∈r,s.length<=B)->∀ t∈ts,t.after.length<=B+1
 | [],ts,h=>by cases h;exact⟨rfl,fun B _ t ht=>by cases ht⟩
 | s::r,ts,h=>by
  unfold nq at h
  split at h
  ·cases h
  ·rename_i t ht
   rw[aaa] at h
   obtain⟨l,h1,rfl⟩:=h
   obtain⟨i1,i2⟩:=Uz h1
   refine⟨by simp[i1],fun B hB u hu => ?_⟩
   rcases aaY.1 hu with rfl | hu
   ·have:=WG ht
    have:=hB s (.head _)
    omega
   ·exact i2 B (fun s hs=>hB s (.tail _ hs)) u hu
theorem RD.nil (H:Hp):RD H .ah [] []:=⟨rfl,RL.nil H 6,fun i x t h=>by simp at h⟩
theorem ab4 {nx rx:AV}{rws:List AV}{ps:List aq}{R D:Nat}(ml:ps.length<=2000)(kq:∀ s∈ps,s.length<=1100)(hRD:R≠D):∀ (r:List aq) (i:Nat) (H:Hp) (dx:AV) (xs:List AV) (ts:List Tk),i<=ps.length->ps.drop i=r->Gl H->11<=D->(∀ j∈ak dx,11<=j)->PS H rx nx rws ps->Cs H R [.ah] 72 0->Cs H D [dx] 72 0->OL H 99 6 dx (List.zipWith aK ts xs)->RD H dx xs ts->ts.length=i->(∀ x∈xs,∀ j∈ak x,j∉ak dx/\j≠D)->D∉ak dx->(∀ j,j∈ak rx\/j∈ak nx\/(∃ wx∈rws,j∈ak wx)\/j=R->j∉ak dx/\j≠D)->
  ∃ H' S,Out S H H'/\(∀ j∈S,j=D\/j=R\/j∈ak dx\/H.next<=j)/\((∃ aw bh l,nq (ps.map oD) r=some l/\(∀ kJ:K.Fn 2,Dl JN GO cK kJ (.ptr R 0) nx (.ptr D 0) rx (.int .i64 (ps.length:Nat)) (.int .i64 (i:Nat)) H=kJ (.ptr R 0) (.ptr D 0) H')/\Cs H' D [aw] 72 0/\Cs H' R [.ah] 72 0/\RD H' aw bh (ts++l)/\∀ j∈lD aw bh,j∈lD dx xs\/H.next<=j)\/
   (nq (ps.map oD) r=none/\∀ kJ:K.Fn 2,Dl JN GO cK kJ (.ptr R 0) nx (.ptr D 0) rx (.int .i64 (ps.length:Nat)) (.int .i64 (i:Nat)) H=some (.tuple [.agg [.ah],.int .i64 2],H')))
 | [],i,H,dx,xs,ts,hi,h,hg,FN,Mb,hP,hR,hD,hO,hT,z7,FV,OT,hd=>by
  obtain rfl:=drop_nil hi h
  refine⟨H,[],Out.refl _ _,(fun j hj=>by cases hj),.inl ⟨dx,xs,[],rfl,fun kJ => ?_,hD,hR,by simpa using hT,fun j hj => .inl hj⟩⟩
  rw[Iy]
  simp only[Cz,fZ,aj,ai,simprocAttr]
 | s::r,i,H,dx,xs,ts,hi,h,hg,FN,Mb,hP,hR,hD,hO,hT,z7,FV,OT,hd=>by
  obtain⟨h1,h2,h3⟩:=gy h
  have es:=gq h1 (by omega)
  have og:=kq s (aaF h2)
  have zF:rws[i]? = some (rws[i]'(by rw[hP.len];exact h1)):=aau _
  generalize wP:rws[i]'(by rw[hP.len];exact h1)=wx at zF
  have hwm:=aaF zF
  have hw:=hP.w i wx s zF h2
  obtain⟨q,q1,q2⟩:=hP.r.rw.mb zF .i64
  have rj:=C6 32 s
  have Ad:(jK s).length<=5000:=by have:(jK s).length=(cx 32 s).length:=rfl;omega
  have CG:∀ a∈jK s,a.length<=80000:=fun a ha=>by have:=(EA ha).2.2;omega
  obtain⟨H1,t1,t2⟩:=adU (names:=ps.map oD) hg (by rw[adV];omega) (wG 32 s) Ad CG (by show cO (cx 32 s)+(cx 32 s).length<=_;omega) hP.n.rw hw
  have jJ:=t1.nx
  have KM:=hg.nx
  unfold nq
  rcases t2 with⟨t,x,u1,u2,u3,u4⟩ | ⟨u1,v,u2,u3,u4⟩
  ·rw[u1]
   simp only
   have jN:=u3.one
   have aqZ:=WG u1
   have uC:st 6 (.ptr H1.next 0) (.agg (aK t x)) (al H1 [(.str []),.ah,(.int .i64 0),(.int .i64 0),(.int .i64 0),(.str [])] 99 0)=some (al H1 (aK t x) 99 0):=yA t x jN H1
   have o2:=aJ H1 (aK t x) 99 0
   have dW:Out [] H (al H1 (aK t x) 99 0):=t1.trans o2
   have aqC:=hD.1
   have AN:cellAt (al H1 (aK t x) 99 0) D 0=some dx:=(hD.out dW (by simp)).cellAt rfl
   obtain⟨GG,H2,p1,p2,p3,p4,p5⟩:=(hO.out dW (by simp)).push (fJ:=99) (z:=[(.str []),.ah,(.int .i64 0),(.int .i64 0),(.int .i64 0),(.str [])]) (vs:=aK t x) (by simp[aK,Du,kA,jN]) rfl (by decide) (by rw[agy,hT.len,Nat.min_self];omega)
   have gK:=p3.nx
   rw[bI] at gK
   have hDD:=(hD.out dW (by simp)).out p3 OT
   obtain⟨H3,w1,w2,w3,w4⟩:=fG hDD (by decide) (o:=0) (by simp) (v:=GG) p5
   have Hd:List.zipWith aK ts xs++[aK t x]=List.zipWith aK (ts++[t]) (xs++[x]):=by
    rw[List.zipWith_append (by rw[hT.len])];rfl
   rw[Hd] at p2
   have wQ:∀ j∈ak GG,j∈ak dx\/H1.next+1<=j:=fun j hj=>(p4 j hj).imp id fun z=>by rw[bI] at z;exact z
   have fO:=hO.1.rw.lt
   have Xu:D∉ak GG:=fun z=>(wQ D z).elim OT fun y=>by omega
   have o3:Out (D::ak dx) H H3:=((dW.mono fun j hj=>by cases hj).trans (p3.mono fun j hj => .tail _ hj)).trans (w3.mono fun j hj=>by rw[No] at hj;subst hj;exact .head _)
   have wH:=o3.nx
   have akp:=u3.lt
   have EV:=p2.out w3 fun j hj=>by rw[No];intro e;subst e;exact Xu hj
   have aeN:∀ y∈xs,∀ j∈ak y,j<H.next:=fun y hy j hj=>hT.lt j (abx _ (ahu.2 ⟨y,hy,hj⟩))
   have uB:RD H3 GG (xs++[x]) (ts++[t]):=by
    refine⟨by simp[hT.len],EV.rl,fun k y t' hy qi => ?_⟩
    by_cases hk:k<xs.length
    ·rw[abD hk] at hy
     rw[abD (by rw[<-hT.len];exact hk)] at qi
     have Y1:=aaF hy
     exact (hT.jn k y t' hy qi).out o3 fun j hj=>by rw[aaY,not_or];exact⟨(FV y Y1 j hj).2,(FV y Y1 j hj).1⟩
    ·have fR:=(aas.1 hy).1
     rw[aa0] at fR
     obtain rfl:k=xs.length:=by simp at fR;omega
     rw[ab7 (aaH _),ahF] at hy
     rw[ab7 (by rw[hT.len];exact aaH _),hT.len,ahF] at qi
     cases hy;cases qi
     refine ((u3.out0 o2).out p3 fun j hj z => ?_).out w3 fun j hj => ?_
     ·have:=u4 j hj;have:=fO j z;omega
     ·rw[No];have:=u4 j hj;omega
   have hPo:∀ {A B:Hp} {S:List Nat},PS A rx nx rws ps->Out S A B->(∀ j,j∈ak rx\/j∈ak nx\/(∃ wx∈rws,j∈ak wx)->j∉S)->PS B rx nx rws ps:=fun hp ho hs=>
    ⟨hp.r.out ho fun j hj=>hs j (.inl hj),hp.n.out ho fun j hj=>hs j (.inr (.inl hj)),hp.len,fun k wy s' hk ry=>(hp.w k wy s' hk ry).out ho fun j hj=>hs j (.inr (.inr ⟨wy,aaF hk,hj⟩)),hp.dw,hp.dn⟩
   have vP:∀ j,j∈ak rx\/j∈ak nx\/(∃ wx∈rws,j∈ak wx)\/j=R->j∉D::ak dx:=fun j hj=>by rw[aaY,not_or];exact⟨(hd j hj).2,(hd j hj).1⟩
   have He:∀ j,j∈ak rx\/j∈ak nx\/(∃ wx∈rws,j∈ak wx)\/j=R->j<H.next:=fun j hj=>by
    rcases hj with hj | hj | ⟨wy,lV,hj⟩ | rfl
    ·exact hP.r.rw.lt j hj
    ·exact hP.n.rw.lt j hj
    ·obtain⟨k,hk⟩:=adQ lV
     have jF:=(aas.1 hk).1
     rw[hP.len] at jF
     exact (hP.w k wy _ hk (aau jF)).lt j hj
    ·exact hR.1
   obtain⟨H',S,i1,i2,i3⟩:=ab4 ml kq hRD r (i+1) H3 GG (xs++[x]) (ts++[t]) h1 h3 (hg.out o3 fun j hj=>by
    rcases aaY.1 hj with rfl | hj
    ·exact FN
    ·exact Mb j hj) FN (fun j hj=>(wQ j hj).elim (Mb j) fun z=>by omega) (hPo hP o3 fun j hj=>vP j (hj.imp id fun z=>z.imp id .inl)) (hR.out o3 (vP R (.inr (.inr (.inr rfl))))) w2 EV uB (by simp[z7]) (fun y hy j hj=>by
     rcases abV.1 hy with hy | hy
     ·have:=aeN y hy j hj
      exact⟨fun z=>(wQ j z).elim (FV y hy j hj).1 fun w=>by omega,(FV y hy j hj).2⟩
     ·rw[No] at hy
      subst hy
      have:=u4 j hj
      have:=akp j hj
      exact⟨fun z=>(wQ j z).elim (fun w=>by have:=fO j w;omega) fun w=>by omega,by omega⟩) Xu (fun j hj=>⟨fun z=>(wQ j z).elim (hd j hj).1 fun w=>by have:=He j hj;omega,(hd j hj).2⟩)
   refine⟨H',(D::ak dx)++S,(o3.mono fun j hj=>abA _ hj).trans (i1.mono fun j hj=>abx _ hj),fun j hj => ?_,?_⟩
   ·rcases abV.1 hj with hj | hj
    ·rcases aaY.1 hj with rfl | hj
     ·exact .inl rfl
     ·exact .inr (.inr (.inl hj))
    ·rcases i2 j hj with z | z | z | z
     ·exact .inl z
     ·exact .inr (.inl z)
     ·exact .inr (.inr ((wQ j z).imp id fun y=>by omega))
     ·exact .inr (.inr (.inr (by omega)))
   ·have YU:aE (al H1 (aK t x) 99 0) (aK t x) 99 0=some (H1.next+1,al (al H1 (aK t x) 99 0) (aK t x) 99 0):=gB (by rw[xI];omega)
    have CV:fl [(.str []),.ah,(.int .i64 0),(.int .i64 0),(.int .i64 0),(.str [])] [(0,6,.agg (aK t x))]=some (aK t x):=rfl
    have aaE:=TF t x
    have ZG:=xI t x
    have iM:=p1 _ rfl
    rw[bI] at iM
    rcases i3 with⟨aw,bh,l,k1,k2,k3,k4,k5,k6⟩ | ⟨k1,k2⟩
    ·refine .inl ⟨aw,bh,t::l,by rw[k1];rfl,fun kJ => ?_,k3,k4,by simpa[ae9] using k5,fun j hj=>(k6 j hj).elim (fun z => ?_) fun z => .inr (by omega)⟩
     ·rw[Iy]
      simp(disch:=first|exact zqz|fail)only[Cz,bH h1,q1,q2,u2,uC,AN,ZG,aaE,CV,YU,iM,w1,es,k2,ar,au,aj,ai,simprocAttr]
     ·rcases abV.1 z with z | z
      ·exact (wQ j z).imp (fun y=>abA _ y) fun y=>by omega
      ·rw[List.flatMap_append,abV] at z
       rcases z with z | z
       ·exact .inl (abx _ z)
       ·have:j∈ak x:=by simpa using z
        exact .inr (u4 j this)
    ·refine .inr ⟨by rw[k1];rfl,fun kJ => ?_⟩
     rw[Iy]
     simp(disch:=first|exact zqz|fail)only[Cz,bH h1,q1,q2,u2,uC,AN,ZG,aaE,CV,YU,iM,w1,es,k2,ar,au,aj,ai,simprocAttr]
  ·rw[u1]
   have uC:st 6 (.ptr H1.next 0) (.agg v) (al H1 [(.str []),.ah,(.int .i64 0),(.int .i64 0),(.int .i64 0),(.str [])] 99 0)=some (al H1 v 99 0):=iV u4 u3.symm rfl (by decide) u3.symm
   have o2:=aJ H1 v 99 0
   have gN:=hR.out (t1.trans o2) (by simp)
   obtain⟨H3,w1,w2,w3,w4⟩:=fN (n:=1) (vs:=[AV.ah]) gN rfl rfl rfl
   have pI:av H3 R 0 1=some [.ah]:=w2.av 1 0 (by simp)
   refine⟨H3,[R],((t1.trans o2).mono fun j hj=>by cases hj).trans w3,fun j hj=>by rw[No] at hj;exact .inr (.inl hj),.inr ⟨rfl,fun kJ => ?_⟩⟩
   rw[Iy]
   simp(disch:=first|exact zqz|fail)only[Cz,bH h1,q1,q2,u2,uC,w1,pI,ar,au,aj,ai,simprocAttr]
theorem als {text:aq}{H:Hp}(hg:Gl H)(hl:text.length<=4294967296):∃ dx xs H',cK (.func (.func 53) [] []) [.str text] H=some (.tuple [dv dx,.int .i64 (aN text).2],H')/\RD H' dx xs (aN text).1/\Out [] H H'/\∀ j∈lD dx xs,H.next<=j:=by
 have KM:=hg.nx
 have o1:=aJ H [.ah] 72 0
 have c1:=bo H [.ah] 72 0
 unfold aN
 by_cases AY:1024<text.length
 ·rw[if_pos AY]
  have d:decide ((1024:Int)<(text.length:Int))=true:=decide_eq_true (by omega)
  refine⟨.ah,[],al H [.ah] 72 0,Eu ?_,RD.nil _,o1,fun j hj=>by cases hj⟩
  have aC:st 1 (.ptr H.next 0) (.agg [.ah]) (al H [.ah] 72 0)=some (al H [.ah] 72 0):=iV rfl rfl rfl (by decide) rfl
  unfold Bj
  simp(disch:=first|exact zqz|fail)only[d,aC,ar,au,aj,ai,simprocAttr]
 rw[if_neg AY]
 have d:decide ((1024:Int)<(text.length:Int))=false:=decide_eq_false (by omega)
 obtain⟨px,H1,s1,s2,s3,s4⟩:=Oj (c:=59) (by decide) (s:=text) (by omega) (al H [.ah] 72 0)
 have jJ:=s3.nx
 rw[bI] at jJ
 have rj:=C6 59 text
 have ml:=s2.mZ
 rw[ji] at ml
 have kq:∀ s∈cx 59 text,s.length<=1100:=fun s hs=>by have:=(EA hs).2.2;omega
 have c2:=c1.out s3 (by simp)
 obtain⟨rx,nx,rws,H2,S2,i1,i2,i3,i4,i5,i6⟩:=XK (R := .ptr H.next 0) (B:=H1.next) (ps:=cx 59 text) (by omega) (fun s hs=>by have:=kq s hs;omega) (cx 59 text) 0 H1 .ah .ah [] (ac4 _) ada s2 ⟨.nil,.nil,by rw[ah5];rfl,fun i wx s h=>by simp at h,(fun wx h=>by cases h),fun j h=>by cases h⟩ (fun j hj=>⟨by simp[ak],by simp[ak]⟩) (aaH _) (fun j hj=>by rcases hj with hj | hj<;>cases hj) (fun wx h=>by cases h)
 rw[show (((0:Nat):Int))=0 from rfl] at i1
 have gK:=i3.nx
 have nz:Out [] H H2:=(o1.trans s3).then i3 fun j hj=>by have:=i4 j hj;exact .inr (by omega)
 have c3:=c2.out i3 fun z=>by have:=i4 _ z;omega
 have o3:=aJ H2 [.ah] 72 0
 have cD:=bo H2 [.ah] 72 0
 have Ik:PS (al H2 [.ah] 72 0) rx nx rws (cx 59 text):=⟨i2.r.out o3 (by simp),i2.n.out o3 (by simp),i2.len,fun k wx s h1 h2=>(i2.w k wx s h1 h2).out0 o3,i2.dw,i2.dn⟩
 have He:∀ j,j∈ak rx\/j∈ak nx\/(∃ wx∈rws,j∈ak wx)->j<H2.next:=fun j hj=>by
  rcases hj with hj | hj | ⟨wy,lV,hj⟩
  ·exact i2.r.rw.lt j hj
  ·exact i2.n.rw.lt j hj
  ·obtain⟨k,hk⟩:=adQ lV
   have jF:=(aas.1 hk).1
   rw[i2.len] at jF
   exact (i2.w k wy _ hk (aau jF)).lt j hj
 obtain⟨H3,S3,k1,k2,k3⟩:=ab4 (R:=H.next) (D:=H2.next) (by omega) kq (by omega) (cx 59 text) 0 (al H2 [.ah] 72 0) .ah [] [] (ac4 _) ada (hg.out0 (nz.trans o3)) (by omega) (fun j hj=>by cases hj) Ik (c3.out o3 (by simp)) cD (OL.nil _ _ _) (RD.nil _) rfl (fun x hx=>by cases hx) (by simp[ak]) (fun j hj=>⟨by simp[ak],by
  rcases hj with hj | hj | hj | rfl
  ·have:=He j (.inl hj);omega
  ·have:=He j (.inr (.inl hj));omega
  ·have:=He j (.inr (.inr hj));omega
  ·omega⟩)
 rw[show (((0:Nat):Int))=0 from rfl] at k3
 have hS3:∀ j∈S3,H.next<=j:=fun j hj=>by
  rcases k2 j hj with z | z | z | z
  ·omega
  ·omega
  ·cases z
  ·rw[bI] at z;omega
 have vH:Out [] H H3:=(nz.trans o3).then k1 fun j hj => .inr (hS3 j hj)
 have ff:=i2.r.rw.mZ
 rw[i2.len] at ff
 have eY:bq rx=some (.int .i64 ((cx 59 text).length:Nat)):=ff
 have wH:=k1.nx
 rw[bI] at wH
 rcases k3 with⟨dx,xs,ts,m1,m2,m3,m4,m5,m6⟩ | ⟨m1,m2⟩
 ·rw[aiT] at m5
  rw[m1]
  simp only
  obtain⟨tl1,tl2⟩:=Uz m1
  have wz:∀ j∈lD dx xs,H2.next+1<=j:=fun j hj=>(m6 j hj).elim (fun z=>by cases z) fun z=>by rw[bI] at z;exact z
  obtain⟨H4,g1,g2⟩:=Oc (ts:=ts) (by rw[tl1];omega) (fun t ht=>by have:=tl2 1100 kq t ht;omega) m5
  have hn4:=g2.nx
  have AN:av H3 H2.next 0 1=some [dx]:=m3.av 1 0 (by simp)
  have YP:av H4 H2.next 0 1=some [dx]:=(m3.out g2 (by simp)).av 1 0 (by simp)
  have cR:=m4.out g2 (by simp)
  have wQ:=m5.row.one
  by_cases h0:jc ts=0
  ·rw[if_pos h0]
   have d0:((jc ts) != 0)=false:=by rw[h0];rfl
   obtain⟨H5,w1,w2,w3,w4⟩:=fN (n:=1) (vs:=[dx]) cR rfl rfl (by simp[wQ])
   have yO:av H5 H.next 0 1=some [dx]:=w2.av 1 0 (by simp)
   refine⟨dx,xs,H5,Eu ?_,(m5.out0 g2).out w3 fun j hj=>by rw[No];have:=wz j hj;omega,(vH.trans g2).then w3 fun j hj=>by rw[No] at hj;exact .inr (by omega),fun j hj=>by have:=wz j hj;omega⟩
   unfold Bj
   simp(disch:=first|exact zqz|fail)only[d,s1,ml,i1,eY,m2,AN,YP,g1,d0,w1,yO,ar,au,aj,ai,simprocAttr]
  ·rw[if_neg h0]
   have d0:((jc ts) != 0)=true:=by simp[h0]
   obtain⟨H5,w1,w2,w3,w4⟩:=fN (n:=1) (vs:=[AV.ah]) cR rfl rfl rfl
   have yO:av H5 H.next 0 1=some [.ah]:=w2.av 1 0 (by simp)
   refine⟨.ah,[],H5,Eu ?_,RD.nil _,(vH.trans g2).then w3 fun j hj=>by rw[No] at hj;exact .inr (by omega),fun j hj=>by cases hj⟩
   unfold Bj
   simp(disch:=first|exact zqz|fail)only[d,s1,ml,i1,eY,m2,AN,YP,g1,d0,w1,yO,ar,au,aj,ai,simprocAttr]
 ·rw[m1]
  simp only
  refine⟨.ah,[],H3,Eu ?_,RD.nil _,vH,fun j hj=>by cases hj⟩
  unfold Bj
  simp(disch:=first|exact zqz|fail)only[d,s1,ml,i1,eY,m2,ar,au,aj,ai,simprocAttr]
theorem LU {text:aq}(h:(aN text).2=0):jc (aN text).1=0/\1<=(aN text).1.length/\(aN text).1.length<=16/\uD (aN text).1/\ym (aN text).1.length (iX 0 (aN text).1)/\(∀ t∈(aN text).1,vK t=false/\tV t=false):=by
 have key:∀ ts:List Tk,jc ts=0->1<=ts.length/\ts.length<=16/\uD ts/\ym ts.length (iX 0 ts)/\∀ t∈ts,vK t=false/\tV t=false:=by
  intro ts h
  unfold jc at h
  split at h
  ·cases h
  ·rename_i h1
   split at h
   ·cases h
   ·rename_i h2
    split at h
    ·cases h
    ·split at h
     ·cases h
     ·rename_i h3
      split at h
      ·cases h
      ·rename_i h4
       split at h
       ·rename_i h5
        have h1:=ahN.1 h1
        refine⟨h1.1,h1.2,IT (by simpa using h4),h5,fun t ht => ?_⟩
        obtain⟨i,hi⟩:=adQ ht
        have bu:=(aas.1 hi).1
        rw[agC,aiQ] at h2 h3
        have a:=h2 i (aj4.2 bu)
        have b:=h3 i (aj4.2 bu)
        unfold p1 at a
        unfold p3 at b
        rw[hi] at a b
        exact⟨by simpa using a,by simpa using b⟩
       ·cases h
 have hg:jc (aN text).1=0:=by
  unfold aN at h ⊢
  by_cases hb:1024<text.length
  ·rw[if_pos hb] at h;cases h
  ·rw[if_neg hb] at h ⊢
   cases qJ:nq ((cx 59 text).map oD) (cx 59 text) with
   | none=>rw[qJ] at h;cases h
   | some ts=>
    rw[qJ] at h
    simp only at h ⊢
    by_cases h0:jc ts=0
    ·rw[if_pos h0];exact h0
    ·rw[if_neg h0] at h;exact absurd h h0
 exact⟨hg,key _ hg⟩
end Go.Proofs.YtodfajmihkagnaaGreatDoor.DfK
namespace Go.Proofs.YtodfajmihkagnaaGreatDoor.Am.K
open Go
theorem U6:∀ (vs c r:List AV) (k:Nat),k+vs.length<=c.length->iK (c++r) k vs=iK c k vs++r
 | [],c,r,k,h=>rfl
 | v::vs,c,r,k,h=>by
  simp only[aaN] at h
  show iK ((c++r).set k v) (k+1) vs=iK (c.set k v) (k+1) vs++r
  rw[List.set_append_left _ _ (by omega)]
  exact U6 vs _ _ _ (by rw[adM];omega)
theorem Yc:∀ (vs a r:List AV) (k:Nat),iK (a++r) (a.length+k) vs=a++iK r k vs
 | [],a,r,k=>rfl
 | v::vs,a,r,k=>by
  show iK ((a++r).set (a.length+k) v) (a.length+k+1) vs=a++iK (r.set k v) (k+1) vs
  rw[ajU _ _ (by omega),aex,aiB]
  exact Yc vs _ _ _
theorem aaX {es:Nat}{vs:List AV}{k:Nat}(hk:k+vs.length<=es):∀ {L:List (List AV)} {i:Nat} {c:List AV},(∀ c∈L,c.length=es)->L[i]? = some c->(L.set i (iK c k vs)).flatten=iK L.flatten (i*es+k) vs
 | [],i,c,_,h=>by simp at h
 | a::L,0,c,hl,h=>by
  simp only[adR,adG] at h
  subst h
  have:=hl a (.head _)
  rw[ahk,ad6]
  show iK a k vs++L.flatten=iK (a++L.flatten) k vs
  rw[U6 _ _ _ _ (by omega)]
 | a::L,i+1,c,hl,h=>by
  simp only[adL] at h
  have ha:=hl a (.head _)
  show a++(L.set i (iK c k vs)).flatten=iK (a++L.flatten) ((i+1)*es+k) vs
  rw[aaX hk (fun d hd=>hl d (.tail _ hd)) h,afA,aiO,show i*es+es+k=a.length+(i*es+k) by omega,Yc]
theorem OL.Qi {H:Hp}{el es:Nat}{x:AV}{L:List (List AV)}(h:OL H el es x L){i k b o:Nat}{c vs:List AV}(hi:L[i]? = some c)(nB:∀ kd,ia es x (.int kd i)=some (.ptr b o))(hv:∀ v∈vs,ba v=true)(hk:k+vs.length<=es)(dy:0<es) :
  ∃ H',setCells H b (o+k) vs=some H'/\OL H' el es x (L.set i (iK c k vs))/\Out (ak x) H H'/\H'.next=H.next:=by
 obtain⟨ho,hl⟩:=h
 have bu:=(aas.1 hi).1
 have kY:=xd hl
 have hfs:=aaX hk hl hi
 have hc:=hl c (aaF hi)
 have Gh:i*es+es<=L.flatten.length:=by
  rw[kY]
  have:=aeF es (show i+1<=L.length by omega)
  rw[afA,aiO] at this
  exact this
 have Qv:∀ d∈L.set i (iK c k vs),d.length=es:=fun d hd=>by
  rcases agY hd with hd | rfl
  ·exact hl d hd
  ·rw[ER];exact hc
 generalize hF:L.flatten=F at *
 cases ho with
 | nil=>simp at Gh;omega
 | emp=>simp at Gh;omega
 | @mk i0 off n cap ex _ ct lo wU fl iS hg hf gT je hJ hn gZ hs h1 he=>
  have gX:i<n:=by
   rw[kY] at hn
   exact Nat.eq_of_mul_eq_mul_right dy hn▸bu
  have e:=nB .i64
  rw[yh gX] at e
  injection e with e
  injection e with eb eo
  subst eb
  subst eo
  have hcn:n*es<=cap*es:=aeF _ hJ
  obtain⟨H',c',q1,q2,q3,q4,q5⟩:=I0 vs H i0 (off+i*es+k) ct lo wU el fl hg hf (by omega) (by omega) (fun m hm=>by
   have:=hs (i*es+k+m) (by omega)
   rw[show off+i*es+k+m=off+(i*es+k+m) by omega]
   exact this) hv
  refine⟨H',q1,⟨?_,Qv⟩,⟨by omega,fun j hj Gw=>q4 j fun e=>Gw (by subst e;rw[my he];exact .head _)⟩,q2⟩
  rw[hfs]
  refine .mk (by omega) q3 hf gT je hJ (by rw[ER];exact hn) (fun m w hm => ?_) (fun m hm => ?_) (fun w hw => ?_) he
  ·rw[q5]
   rw[A8 _ _ _ _ (by omega)] at hm
   split at hm
   ·rw[if_pos (by omega),show off+m-(off+i*es+k)=m-(i*es+k) by omega];exact hm
   ·rw[if_neg (by omega)];exact gZ m w hm
  ·rw[q5]
   split
   ·rename_i hb
    rw[aau (by omega)];rfl
   ·exact hs m hm
  ·obtain⟨m,hm⟩:=adQ hw
   rw[A8 _ _ _ _ (by omega)] at hm
   split at hm
   ·exact hv w (aaF hm)
   ·exact h1 w (aaF hm)
theorem OL.fG {H:Hp}{el es:Nat}{x:AV}{L:List (List AV)}(h:OL H el es x L){i k b o:Nat}{c:List AV}{v:AV}(hi:L[i]? = some c)(nB:∀ kd,ia es x (.int kd i)=some (.ptr b o))(hv:ba v=true)(hk:k<es) :
  ∃ H',st 1 (.ptr b (o+k)) v H=some H'/\OL H' el es x (L.set i (c.set k v))/\Out (ak x) H H'/\H'.next=H.next:=by
 obtain⟨H',h1,h2⟩:=h.Qi (k:=k) (vs:=[v]) hi nB (fun u hu=>by rw[No] at hu;subst hu;exact hv) (by simp only[aaN,ads];omega) (by omega)
 refine⟨H',?_,h2⟩
 unfold st
 simp only[I7 hv]
 exact h1
theorem OL.stN {H:Hp}{el es:Nat}{x:AV}{L:List (List AV)}(h:OL H el es x L){i b o:Nat}{vs:List AV}(hi:i<L.length)(nB:∀ kd,ia es x (.int kd i)=some (.ptr b o))(hv:vs.all ba=true)(hn:vs.length=es)(dy:0<es) :
  ∃ H',st es (.ptr b o) (.agg vs) H=some H'/\OL H' el es x (L.set i vs)/\Out (ak x) H H'/\H'.next=H.next:=by
 have iS:L[i]? = some L[i]:=aau hi
 obtain⟨H',h1,h2⟩:=h.Qi (k:=0) (vs:=vs) iS nB (adY.1 hv) (by omega) dy
 rw[VO vs _ (by rw[hn,h.2 _ (aaF iS)])] at h2
 refine⟨H',?_,h2⟩
 unfold st
 have:Nat.beq es vs.length=true:=by rw[hn];exact ahj _
 simp only[Bl,this,cond_true]
 exact h1
end Go.Proofs.YtodfajmihkagnaaGreatDoor.Am.K
namespace Go.Proofs.YtodfajmihkagnaaGreatDoor.DfK
open Go Am Am.K jY me jQ nY
structure RT where
 ph:Int
 tr:Int
 kC:Int
 wV:aq
 deriving DecidableEq
def eG (t:RT):List AV:=[.int .i64 t.ph,.int .i64 t.tr,.int .i64 t.kC,.str t.wV]
def gz (l:List RT):List (List AV):=l.map eG
structure Rn where
 ts:List Tk
 st:Int
 rs:List RT
 sg:List aq
abbrev rv (dx:AV)(st:Int)(tx sx:AV):List AV:=[dx,.int .i64 st,tx,sx]
structure RV (H:Hp)(dx:AV)(xs:List AV)(tx sx:AV)(R:Rn):Prop where
 d:RD H dx xs R.ts
 t:RL H 4 tx (gz R.rs)
 s:Rw H 1 sx (strs R.sg)
def mG (dx:AV)(xs:List AV)(tx sx:AV):List Nat:=lD dx xs++(ak tx++ak sx)
theorem RV.out {H H':Hp}{dx tx sx:AV}{xs:List AV}{R:Rn}{S:List Nat}(h:RV H dx xs tx sx R)(k:Out S H H')(hs:∀ j∈mG dx xs tx sx,j∉S):RV H' dx xs tx sx R:=
 ⟨h.d.out k fun j hj=>hs j (abA _ hj),h.t.out k fun j hj=>hs j (abx _ (abA _ hj)),h.s.out k fun j hj=>hs j (abx _ (abx _ hj))⟩
theorem RV.out0 {H H':Hp}{dx tx sx:AV}{xs:List AV}{R:Rn}(h:RV H dx xs tx sx R)(k:Out [] H H'):RV H' dx xs tx sx R:=h.out k fun _ _ q=>by cases q
theorem RV.lt {H:Hp}{dx tx sx:AV}{xs:List AV}{R:Rn}(h:RV H dx xs tx sx R):∀ j∈mG dx xs tx sx,j<H.next:=fun j hj=>by
 rcases abV.1 hj with hj | hj
 ·exact h.d.lt j hj
 ·rcases abV.1 hj with hj | hj
  ·exact h.t.1.lt j hj
  ·exact h.s.lt j hj
theorem yG (l:List RT):(gz l).length=l.length:=by simp[gz]
theorem qw {l:List RT}{i:Nat}{t:RT}(h:l[i]? = some t):(gz l)[i]? = some (eG t):=by simp[gz,h]
theorem RV.Z9 {H:Hp}{dx tx sx:AV}{xs:List AV}{R:Rn}(h:RV H dx xs tx sx R):bq tx=some (.int .i64 (R.rs.length:Nat)):=by
 have:=h.t.len (by decide)
 rw[yG] at this;exact this
theorem K5 (t:RT):(eG t).length=4:=rfl
theorem yl (t:RT):(eG t)[0]? = some (.int .i64 t.ph)/\(eG t)[1]? = some (.int .i64 t.tr)/\(eG t)[2]? = some (.int .i64 t.kC)/\(eG t)[3]? = some (.str t.wV):=⟨rfl,rfl,rfl,rfl⟩
theorem Wa (t:RT)(H:Hp):st 4 (.ptr H.next 0) (.agg (eG t)) (al H [(.int .i64 0),(.int .i64 0),(.int .i64 0),(.str [])] 132 0)=some (al H (eG t) 132 0):=
 iV rfl rfl rfl (by decide) rfl
def nR (R:Rn)(task:Int):Int:=if task<0\/(R.rs.length:Int)<=task then 1 else if R.st=0 then 0 else 9
theorem XJ {H:Hp}{dx tx sx:AV}{xs:List AV}{R:Rn}(h:RV H dx xs tx sx R)(task:Int) :
  cK (.func (.func 108) [] []) [.agg (rv dx R.st tx sx),.int .i64 task] H=some (.int .i64 (nR R task),al H (rv dx R.st tx sx) 75 0):=by
 refine ack ?_
 have hl:=h.Z9
 have c:=bo H (rv dx R.st tx sx) 75 0
 have aW:bx 75 (.agg (rv dx R.st tx sx)) H=some (H.next,al H (rv dx R.st tx sx) 75 0):=iW (by simp)
 have k1:cellAt (al H (rv dx R.st tx sx) 75 0) H.next 1=some (.int .i64 R.st):=c.cellAt rfl
 have k2:cellAt (al H (rv dx R.st tx sx) 75 0) H.next 2=some tx:=c.cellAt rfl
 generalize al H (rv dx R.st tx sx) 75 0=H1 at *
 unfold Tx nR
 by_cases h1:task<0
 ·have d1:decide (task<0)=true:=decide_eq_true h1
  rw[if_pos (.inl h1)]
  simp(disch:=first|exact zqz|fail)only[aW,d1,ar,au,aj,ai,simprocAttr]
 ·have d1:decide (task<0)=false:=decide_eq_false h1
  by_cases h2:(R.rs.length:Int)<=task
  ·have d2:decide ((R.rs.length:Int)<=task)=true:=decide_eq_true h2
   rw[if_pos (.inr h2)]
   simp(disch:=first|exact zqz|fail)only[aW,d1,d2,k1,k2,hl,ar,au,aj,ai,simprocAttr]
  ·have d2:decide ((R.rs.length:Int)<=task)=false:=decide_eq_false h2
   rw[if_neg (fun q=>q.elim h1 h2)]
   by_cases h3:R.st=0
   ·have d3:(R.st != 0)=false:=by simp[h3]
    rw[if_pos h3]
    simp(disch:=first|exact zqz|fail)only[aW,d1,d2,d3,k1,k2,hl,ar,au,aj,ai,simprocAttr]
   ·have d3:(R.st != 0)=true:=by simp[h3]
    rw[if_neg h3]
    simp(disch:=first|exact zqz|fail)only[aW,d1,d2,d3,k1,k2,hl,ar,au,aj,ai,simprocAttr]
theorem DW {R:Rn}{task:Int}(h:nR R task=0):∃ (i:Nat) (t:RT),task=i/\R.rs[i]? = some t/\R.st=0:=by
 unfold nR at h
 split at h
 ·cases h
 ·rename_i h1
  rw[not_or] at h1
  split at h
  ·rename_i h2
   exact⟨task.toNat,R.rs[task.toNat]'(by omega),by omega,aau _,h2⟩
  ·cases h
def mI (R:Rn)(task bw:Int):Int:=if nR R task=0 then (match R.rs[task.toNat]? with | some t=>if t.ph=2/\t.tr=bw then 0 else 8 | none=>0) else nR R task
theorem abW {H:Hp}{dx tx sx:AV}{xs:List AV}{R:Rn}(h:RV H dx xs tx sx R)(task bw:Int) :
  ∃ H',cK (.func (.func 109) [] []) [.agg (rv dx R.st tx sx),.int .i64 task,.int .i64 bw] H=some (.int .i64 (mI R task bw),H')/\Out [] H H':=by
 have c:=bo H (rv dx R.st tx sx) 75 0
 have o1:=aJ H (rv dx R.st tx sx) 75 0
 have aW:bx 75 (.agg (rv dx R.st tx sx)) H=some (H.next,al H (rv dx R.st tx sx) 75 0):=iW (by simp)
 have k0:av (al H (rv dx R.st tx sx) 75 0) H.next 0 4=some (rv dx R.st tx sx):=c.av 4 0 (by simp)
 have hm:=XJ (h.out0 o1) task
 have o2:=aJ (al H (rv dx R.st tx sx) 75 0) (rv dx R.st tx sx) 75 0
 have c2:=c.out o2 (by simp)
 have dW:=o1.trans o2
 generalize al H (rv dx R.st tx sx) 75 0=H1 at *
 generalize al H1 (rv dx R.st tx sx) 75 0=H2 at *
 have k2:cellAt H2 H.next 2=some tx:=c2.cellAt rfl
 by_cases h0:nR R task=0
 ·obtain⟨i,t,rfl,ht,aC⟩:=DW h0
  have d0:(nR R (i:Int) != 0)=false:=by simp[h0]
  obtain⟨b,o,q1,q2,q3,q4,q5⟩:=(h.t.out0 dW).at (by decide) (qw ht)
  have yU:=Wa t H2
  obtain⟨e0,e1,e2,e3⟩:=yl t
  have o3:=aJ H2 (eG t) 132 0
  refine⟨al H2 (eG t) 132 0,ab2 ?_,dW.trans o3⟩
  unfold K8 mI
  rw[if_pos h0,acT,ht]
  simp only
  by_cases p1:t.ph=2
  ·have d1:(t.ph != 2)=false:=by simp[p1]
   by_cases p2:t.tr=bw
   ·have d2:(t.tr != bw)=false:=by simp[p2]
    rw[if_pos ⟨p1,p2⟩]
    simp(disch:=first|exact zqz|fail)only[aW,k0,hm,d0,k2,q1,q4,yU,e0,e1,d1,d2,ar,au,aj,ai,simprocAttr]
   ·have d2:(t.tr != bw)=true:=by simp[p2]
    rw[if_neg (fun q=>p2 q.2)]
    simp(disch:=first|exact zqz|fail)only[aW,k0,hm,d0,k2,q1,q4,yU,e0,e1,d1,d2,ar,au,aj,ai,simprocAttr]
  ·have d1:(t.ph != 2)=true:=by simp[p1]
   rw[if_neg (fun q=>p1 q.1)]
   simp(disch:=first|exact zqz|fail)only[aW,k0,hm,d0,k2,q1,q4,yU,e0,e1,d1,ar,au,aj,ai,simprocAttr]
 ·have d0:(nR R task != 0)=true:=by simp[h0]
  refine⟨H2,ab2 ?_,dW⟩
  unfold K8 mI
  rw[if_neg h0]
  simp(disch:=first|exact zqz|fail)only[aW,k0,hm,d0,ar,au,aj,ai,simprocAttr]
theorem Jx {R:Rn}{task bw:Int}(h:mI R task bw=0):∃ (i:Nat) (t:RT),task=i/\R.rs[i]? = some t/\R.st=0/\t.ph=2/\t.tr=bw:=by
 unfold mI at h
 split at h
 ·rename_i h1
  obtain⟨i,t,rfl,ht,aC⟩:=DW h1
  rw[acT,ht] at h
  simp only at h
  split at h
  ·rename_i h2;exact⟨i,t,rfl,ht,aC,h2.1,h2.2⟩
  ·cases h
 ·rename_i h1;exact absurd h h1
theorem akB {H:Hp}{es:Nat}{x:AV}{l:List AV}(h:Rw H es x l):n0 x x=true:=by
 cases h<;>simp[n0]
theorem Df {H:Hp}{es:Nat}{x:AV}{l:List AV}(h:Rw H es x l):same x x=true:=by
 cases h<;>simp[same,n0]
theorem alw (k:IntKind)(a:Int):same (.int k a) (.int k a)=true:=by cases k<;>simp[same,n0]
theorem ahA {t:Tk}{x:AV}(hx:ba x=true):∀ v∈aK t x,ba v=true:=by
 intro v hv
 simp only[aK,aaY,List.not_mem_nil,or_false] at hv
 rcases hv with rfl | rfl | rfl | rfl | rfl | rfl<;>first | rfl | exact hx
theorem RD.ones {H:Hp}{dx:AV}{xs:List AV}{ts:List Tk}(h:RD H dx xs ts):∀ v∈(List.zipWith aK ts xs).flatten,ba v=true:=by
 intro v hv
 obtain⟨c,hc,hv⟩:=ahl.1 hv
 obtain⟨i,hi⟩:=adQ hc
 rw[aeh] at hi
 cases ht:ts[i]? with
 | none=>rw[ht] at hi;simp at hi
 | some t=>
  cases hx:xs[i]? with
  | none=>rw[ht,hx] at hi;simp at hi
  | some x=>
   rw[ht,hx] at hi
   simp only[adG] at hi
   subst hi
   exact ahA (h.jn i x t hx ht).one v hv
theorem aj2 (l:List RT):∀ v∈(gz l).flatten,ba v=true:=by
 intro v hv
 obtain⟨c,hc,hv⟩:=ahl.1 hv
 obtain⟨t,_,rfl⟩:=adD.1 hc
 simp only[eG,aaY,List.not_mem_nil,or_false] at hv
 rcases hv with rfl | rfl | rfl | rfl<;>rfl
theorem PU {ts:List Tk}{xs:List AV}:∀ c∈List.zipWith aK ts xs,c.length=6:=by
 intro c hc
 obtain⟨i,hi⟩:=adQ hc
 rw[aeh] at hi
 cases ht:ts[i]? with
 | none=>rw[ht] at hi;simp at hi
 | some t=>
  cases hx:xs[i]? with
  | none=>rw[ht,hx] at hi;simp at hi
  | some x=>
   rw[ht,hx] at hi
   simp only[adG] at hi
   subst hi;rfl
theorem Ko (l:List RT):∀ c∈gz l,c.length=4:=fun c hc=>by
 obtain⟨t,_,rfl⟩:=adD.1 hc;rfl
theorem afr {ts:List Tk}{xs:List AV}{i:Nat}{t:Tk}{x y:AV}(ht:ts[i]? = some t)(hx:xs[i]? = some x):(List.zipWith aK ts xs).set i ((aK t x).set 1 y)=List.zipWith aK ts (xs.set i y):=by
 apply aij
 intro k
 rw[agu,aeh,aeh,agu]
 have bu:=(aas.1 ht).1
 have dH:=(aas.1 hx).1
 by_cases e:i=k
 ·subst e
  rw[if_pos rfl,if_pos rfl,if_pos dH,if_pos (by rw[agy];omega),ht];rfl
 ·rw[if_neg e,if_neg e]
theorem Xd {ts:List Tk}{dx bP:AV}{P B:Nat}(hn:ts.length<=1000)(dm:∀ t∈ts,t.after.length<=1000):∀ (r:List Tk) (i:Nat) (H:Hp) (xk:List AV),i<=ts.length->ts.drop i=r->RD H dx xk ts->OL H 99 6 dx (List.zipWith aK ts xk)->cellAt H P 0=some dx->P<H.next->B<=H.next->P∉ak dx->(∀ x∈xk,∀ j∈ak x,j∉ak dx)->(∀ (m:Nat) (x:AV),m<i->xk[m]? = some x->∀ j∈ak x,B<=j)->
  ∃ IX H',(∀ jG:K.Fn 2,FX JN GO cK jG (.ptr P 0) bP dx (.int .i64 (ts.length:Nat)) (.int .i64 (i:Nat)) H=jG (.ptr P 0) bP H')/\RD H' dx IX ts/\(∀ x∈IX,∀ j∈ak x,B<=j/\j∉ak dx)/\Out (ak dx) H H'
 | [],i,H,xk,hi,h,hR,hO,hP,Sv,hB,yL,hd,hb=>by
  obtain rfl:=drop_nil hi h
  refine⟨xk,H,fun jG => ?_,hR,fun x hx j hj=>⟨?_,hd x hx j hj⟩,Out.refl _ _⟩
  ·rw[YS]
   simp only[J9,fZ,aj,ai,simprocAttr]
  ·obtain⟨m,hm⟩:=adQ hx
   have:=(aas.1 hm).1
   rw[hR.len] at this
   exact hb m x this hm j hj
 | t::r,i,H,xk,hi,h,hR,hO,hP,Sv,hB,yL,hd,hb=>by
  obtain⟨h1,h2,h3⟩:=gy h
  have ht:=aaF h2
  obtain⟨x,b,o,q0,q1,q2,q3,q4,q5,q6⟩:=hR.at h2
  have es:=gq h1 (by omega)
  have o1:=aJ H (aK t x) 99 0
  have aC:=yA t x q1 H
  obtain⟨e0,e1,e2,e3,e4,e5⟩:=uh t x
  obtain⟨y,H2,y1,y2,y3,y4,y5⟩:=aov (q2.out0 o1) (fun v hv=>by obtain⟨z,_,rfl⟩:=adD.1 hv;rfl) (by rw[lW];have:=dm t ht;omega)
  have o2:=o1.trans y3
  have gK:=o2.nx
  have fO:=hR.row.1.lt
  have Dy:=hO.out o2 (by simp)
  have hzi:(List.zipWith aK ts xk)[i]? = some (aK t x):=by rw[aeh,h2,q0]
  obtain⟨H3,w1,w2,w3,w4⟩:=Dy.fG (k:=1) hzi q3 y2.jO (by decide)
  rw[afr h2 q0] at w2
  have hP1:cellAt (al H (aK t x) 99 0) P 0=some dx:=by rw[tw Sv];exact hP
  have Vd:cellAt H2 P 0=some dx:=by rw[o2.cellAt Sv (by simp)];exact hP
  have Ik:cellAt H3 P 0=some dx:=by rw[w3.cellAt (by omega) yL];exact Vd
  have aqA:=(aas.1 q0).1
  have YC:∀ j∈ak y,j∉ak dx:=fun j hj z=>by have:=y4 j hj;rw[bI] at this;have:=fO j z;omega
  have hyb:∀ j∈ak y,B<=j:=fun j hj=>by have:=y4 j hj;rw[bI] at this;omega
  have pI:RD H3 dx (xk.set i y) ts:=by
   refine⟨by rw[adM];exact hR.len,w2.rl,fun m z u hz hu => ?_⟩
   rw[agu] at hz
   split at hz
   ·rename_i e
    subst e
    cases hz
    rw[h2] at hu;cases hu
    exact y2.rw.out w3 YC
   ·exact ((hR.jn m z u hz hu).out0 o2).out w3 (hd z (aaF hz))
  obtain⟨IX,H',i1,i2,i3,i4⟩:=Xd (bP:=bP) (P:=P) (B:=B) hn dm r (i+1) H3 (xk.set i y) h1 h3 pI w2 Ik (by omega) (by omega) yL (fun z hz=>by
   rcases agY hz with hz | rfl
   ·exact hd z hz
   ·exact YC) (fun m z hm hz=>by
   rw[agu] at hz
   split at hz
   ·cases hz
    exact hyb
   ·exact hb m z (by omega) hz)
  refine⟨IX,H',fun jG => ?_,i2,i3,((o2.mono fun j hj=>by cases hj).trans w3).trans i4⟩
  rw[YS]
  simp(disch:=first|exact zqz|fail)only[J9,bH h1,q3,q5,aC,hP1,e1,y1,w1,Vd,lK (Df hR.row.1),es,i1,ar,au,aj,ai,simprocAttr]
structure RO (H:Hp)(dx:AV)(xs:List AV)(tx sx:AV)(R:Rn):Prop where
 v:RV H dx xs tx sx R
 t:OL H 132 4 tx (gz R.rs)
 s:Ow H 9 1 sx (strs R.sg)
 dt:∀ j∈ak tx,j∉lD dx xs/\j∉ak sx
 ds:∀ j∈ak sx,j∉lD dx xs
structure Sm (R:Rn):Prop where
 n:R.ts.length<=1000
 a:∀ t∈R.ts,t.after.length<=1000
 r:R.rs.length<=1000
 s:R.sg.length<=1000
theorem yn {H:Hp}{dx tx sx:AV}{xs:List AV}{R:Rn}(h:RV H dx xs tx sx R)(hs:Sm R) :
  ∃ aw bh ay aB H',cK (.func (.func 97) [] []) [.agg (rv dx R.st tx sx)] H=some (.agg (rv aw R.st ay aB),H')/\RO H' aw bh ay aB R/\Out [] H H'/\∀ j∈mG aw bh ay aB,H.next<=j:=by
 have aW:bx 75 (.agg (rv dx R.st tx sx)) H=some (H.next,al H (rv dx R.st tx sx) 75 0):=iW (by simp)
 have o1:=aJ H (rv dx R.st tx sx) 75 0
 have c1:=bo H (rv dx R.st tx sx) 75 0
 have n1:(al H (rv dx R.st tx sx) 75 0).next=H.next+1:=rfl
 generalize al H (rv dx R.st tx sx) 75 0=H1 at *
 have dN:aE H1 [.ah,(.int .i64 0),.ah,.ah] 75 0=some (H.next+1,al H1 [.ah,(.int .i64 0),.ah,.ah] 75 0):=by rw[<-n1];exact gB (by simp)
 have o2:=aJ H1 [.ah,(.int .i64 0),.ah,.ah] 75 0
 have c2:=bo H1 [.ah,(.int .i64 0),.ah,.ah] 75 0
 have n2:(al H1 [.ah,(.int .i64 0),.ah,.ah] 75 0).next=H.next+2:=by rw[bI,n1]
 rw[n1] at c2
 generalize dh:al H1 [.ah,(.int .i64 0),.ah,.ah] 75 0=H2 at *
 have dW:=o1.trans o2
 have jv:=c1.out o2 (by simp)
 have vb:=h.out0 dW
 have k1:cellAt H2 H.next 0=some dx:=jv.cellAt rfl
 have gN:=vb.d
 have kY:(List.zipWith aK R.ts xs).flatten.length<=6000:=by
  rw[xd PU,agy]
  have:=hs.n
  have:min R.ts.length xs.length<=1000:=agr (Nat.min_le_left _ _) hs.n
  omega
 obtain⟨aw,H3,a1,a2,a3,a4,a5⟩:=ah6 gN.row.1 gN.ones (by omega)
 have oF:=jv.out a3 (by simp)
 have gp:ba aw=true:=a2.jO
 obtain⟨H4,b1,b2,b3,b4⟩:=fG oF (by decide) (o:=0) (by simp) (v:=aw) gp
 have Ck:(rv dx R.st tx sx).set 0 aw=rv aw R.st tx sx:=rfl
 rw[Ck] at b2
 have n3:=a3.nx
 have yL:H.next∉ak aw:=fun z=>by have:=a4 _ z;omega
 have SL:cellAt H4 H.next 0=some aw:=b2.cellAt rfl
 have pI:=gN.out0 a3
 have aqU:=gN.lt
 have aok:=h.d.lt
 have kB:RD H4 aw xs R.ts:=⟨pI.len,(show OL H3 99 6 aw (List.zipWith aK R.ts xs) from⟨a2,PU⟩).rl.out b3 (fun j hj=>by rw[No];intro e;subst e;exact yL hj),fun m z u hz hu=>(pI.jn m z u hz hu).out b3 fun j hj=>by
  rw[No]
  have:=(h.d.jn m z u hz hu).lt j hj
  omega⟩
 have hO4:OL H4 99 6 aw (List.zipWith aK R.ts xs):=(show OL H3 99 6 aw (List.zipWith aK R.ts xs) from⟨a2,PU⟩).out b3 (fun j hj=>by rw[No];intro e;subst e;exact yL hj)
 have fO:=kB.bq
 obtain⟨bh,H5,l1,l2,l3,l4⟩:=Xd (bP := .ptr (H.next+1) 0) (P:=H.next) (B:=H.next+2) hs.n hs.a R.ts 0 H4 xs (ac4 _) ada kB hO4 SL b2.1 (by omega) yL (fun x hx j hj z=>by
  obtain⟨m,hm⟩:=adQ hx
  have wX:=(aas.1 hm).1
  rw[h.d.len] at wX
  have:=(h.d.jn m x _ hm (aau wX)).lt j hj
  have:=a4 j z
  omega) (fun m x hm=>by omega)
 rw[show (((0:Nat):Int))=0 from rfl] at l1
 have Tw:=b2.out l4 yL
 have n5:=l4.nx
 have aqL:∀ {S:List Nat} {A B:Hp},Out S A B->True:=fun _=>trivial
 have UJ:Out (H.next::ak aw) H2 H5:=((a3.mono (S':=H.next::ak aw) fun j hj=>by cases hj).trans (b3.mono fun j hj=>by rw[No] at hj;subst hj;exact .head _)).trans (l4.mono fun j hj => .tail _ hj)
 have UO:∀ j,j<H.next->j∉H.next::ak aw:=fun j hj z=>by
  rcases aaY.1 z with e | z
  ·omega
  ·have:=a4 j z;omega
 have Mk:RL H5 4 tx (gz R.rs):=vb.t.out UJ fun j hj=>UO j (h.t.1.lt j hj)
 have hs5:Rw H5 1 sx (strs R.sg):=vb.s.out UJ fun j hj=>UO j (h.s.lt j hj)
 have k2:cellAt H5 H.next 2=some tx:=Tw.cellAt rfl
 obtain⟨ay,H6,t1,t2,t3,t4,t5⟩:=aot Mk.1 (aj2 R.rs) (by rw[xd (Ko _),yG];have:=hs.r;omega)
 have cP6:=Tw.out t3 (by simp)
 obtain⟨H7,u1,u2,u3,u4⟩:=fG cP6 (by decide) (o:=2) (by simp) (v:=ay) t2.jO
 have pT:(rv aw R.st tx sx).set 2 ay=rv aw R.st ay sx:=rfl
 rw[pT] at u2
 have n6:=t3.nx
 have k3:cellAt H7 H.next 3=some sx:=u2.cellAt rfl
 have Ib:∀ j,H.next+2<=j\/j<H.next->j∉[H.next]:=fun j hj=>by rw[No];omega
 have hs7:Rw H7 1 sx (strs R.sg):=(hs5.out0 t3).out u3 fun j hj=>Ib j (.inr (h.s.lt j hj))
 obtain⟨aB,H8,v1,v2,v3,v4,v5⟩:=Y8 hs7 (fun v hv=>by obtain⟨z,_,rfl⟩:=adD.1 hv;rfl) (by rw[ji];have:=hs.s;omega)
 have cP8:=u2.out v3 (by simp)
 obtain⟨H9,w1,w2,w3,w4⟩:=fG cP8 (by decide) (o:=3) (by simp) (v:=aB) v2.jO
 have BC:(rv aw R.st ay sx).set 3 aB=rv aw R.st ay aB:=rfl
 rw[BC] at w2
 have n8:=v3.nx
 have k4:av H9 H.next 0 4=some (rv aw R.st ay aB):=w2.av 4 0 (by simp)
 have hQd:H.next+1∉ak aw:=fun z=>by have:=a4 _ z;omega
 have hQ:∀ S:List Nat,S=[H.next]->H.next+1∉S:=fun S e=>by rw[e,No];omega
 have cQ9:=(((((((c2.out a3 (by simp)).out b3 (hQ _ rfl)).out l4 hQd).out t3 (by simp)).out u3 (hQ _ rfl)).out v3 (by simp)).out w3 (hQ _ rfl))
 obtain⟨vl,z1,z2,z3,z4⟩:=fN (n:=4) (vs:=rv aw R.st ay aB) cQ9 rfl rfl (by simp[gp,t2.jO,v2.jO,kA])
 have k5:av vl (H.next+1) 0 4=some (rv aw R.st ay aB):=z2.av 4 0 (by simp)
 have AG:OL H6 132 4 ay (gz R.rs):=⟨t2,Ko _⟩
 have n7:=u3.nx
 have n9:=w3.nx
 have oB:∀ j,H.next+2<=j->j∉[H.next]/\j∉[H.next+1]:=fun j hj=>by rw[No,No];omega
 have eW:∀ j∈lD aw bh,H.next+2<=j/\j<H5.next:=fun j hj=>⟨by
  rcases abV.1 hj with hj | hj
  ·have:=a4 j hj;omega
  ·obtain⟨x,hx,hj⟩:=ahu.1 hj
   exact (l3 x hx j hj).1,l2.lt j hj⟩
 have qi:∀ j∈ak ay,H5.next<=j/\j<H6.next:=fun j hj=>⟨t4 j hj,t2.rw.lt j hj⟩
 have ry:∀ j∈ak aB,H7.next<=j:=v4
 have n45:H.next+2<=H5.next:=by omega
 have SE:OL vl 132 4 ay (gz R.rs):=(((AG.out u3 fun j hj=>(oB j (by have:=qi j hj;omega)).1).out v3 (by simp)).out w3 fun j hj=>(oB j (by have:=qi j hj;omega)).1).out z3 fun j hj=>(oB j (by have:=qi j hj;omega)).2
 have SN:Ow vl 9 1 aB (strs R.sg):=(v2.out w3 fun j hj=>(oB j (by have:=ry j hj;omega)).1).out z3 fun j hj=>(oB j (by have:=ry j hj;omega)).2
 have ap4:RD vl aw bh R.ts:=((((l2.out0 t3).out u3 fun j hj=>(oB j (eW j hj).1).1).out0 v3).out w3 fun j hj=>(oB j (eW j hj).1).1).out z3 fun j hj=>(oB j (eW j hj).1).2
 have key:∀ {S:List Nat} {A B:Hp},Out [] H A->Out S A B->(∀ j∈S,H.next<=j)->Out [] H B:=fun h k hS=>h.then k fun j hj => .inr (hS j hj)
 have one:∀ (m:Nat),H.next<=m->∀ j∈[m],H.next<=j:=fun m hm j hj=>by rw[No] at hj;omega
 have out:Out [] H vl:=key (key (key (key (key (key (key (key dW a3 (fun j hj=>by cases hj)) b3 (one _ (aaH _))) l4 fun j hj=>by have:=a4 j hj;omega) t3 (fun j hj=>by cases hj)) u3 (one _ (aaH _))) v3 (fun j hj=>by cases hj)) w3 (one _ (aaH _))) z3 (one _ (afu _))
 refine⟨aw,bh,ay,aB,vl,aiF ?_,⟨⟨ap4,SE.rl,SN.rw⟩,SE,SN,fun j hj=>⟨fun z => ?_,fun z => ?_⟩,fun j hj z => ?_⟩,out,fun j hj => ?_⟩
 ·unfold Oe
  simp(disch:=first|exact zqz|fail)only[aW,dN,n1,dh,k1,a1,b1,SL,fO,l1,k2,t1,u1,k3,v1,w1,k4,z1,k5,ar,au,aj,ai,simprocAttr]
 ·have:=qi j hj;have:=eW j z;omega
 ·have:=qi j hj;have:=ry j z;omega
 ·have:=ry j hj;have:=eW j z;omega
 ·rcases abV.1 hj with hj | hj
  ·have:=eW j hj;omega
  ·rcases abV.1 hj with hj | hj
   ·have:=qi j hj;omega
   ·have:=ry j hj;omega
def wZ (rs:List RT)(a:Int):Int:=((rs[a.toNat]?).map (·.ph)).getD 0
def cg (rs:List RT)(t:Tk):Bool:=t.after.any (fun a=>wZ rs a != 3)
def zt (rs:List RT)(sg:List aq)(t:Tk)(r:RT):Bool:=(r.ph==0)&&(!(cg rs t)&&((t.on==[])||sg.any (fun a=>t.on==a)))
def jT (rs:List RT)(sg:List aq)(t:Tk)(r:RT):RT:=if zt rs sg t r then { r with ph:=1 } else r
def ig (R:Rn):Rn:={ R with rs:=List.zipWith (jT R.rs R.sg) R.ts R.rs,st:=if R.rs.all (fun r=>r.ph==3) then 1 else R.st }
theorem PC (rs:List RT)(sg:List aq)(t:Tk)(r:RT):((jT rs sg t r).ph==3)=(r.ph==3):=by
 unfold jT
 split
 ·rename_i h
  unfold zt at h
  rw[aaG,beq_iff_eq] at h
  rw[h.1];rfl
 ·rfl
theorem Q9 {α:Type}{p q:α->Bool}:∀ {l:List α},(∀ a∈l,p a=q a)->l.any p=l.any q
 | [],_=>rfl
 | a::l,h=>by rw[List.any_cons,List.any_cons,h a (.head _),Q9 fun b hb=>h b (.tail _ hb)]
theorem agZ {H:Hp}{p G:Nat}{tx:AV}{rk:List RT}(hG:cellAt H G 0=some (.ptr p 0))(hC:cellAt H p 2=some tx)(hT:RL H 4 tx (gz rk)){a:Int}(h0:0<=a)(h1:a<rk.length) :
  cK (.func (.func 144) [] [.ptr G 0]) [.int .i64 a] H=some (.bool (wZ rk a != 3),H):=by
 obtain⟨m,rfl⟩:∃ m:Nat,a=m:=⟨a.toNat,by omega⟩
 have hm:rk[m]? = some (rk[m]'(by omega)):=aau _
 obtain⟨b,o,q1,q2,q3,q4,q5⟩:=hT.at (by decide) (qw hm)
 have e0:=q5 0 _ (yl _).1
 rw[aem] at e0
 have hp:wZ rk (m:Int)=(rk[m]'(by omega)).ph:=by unfold wZ;rw[acT,hm];rfl
 refine anX ?_
 unfold Ts
 rw[hp]
 simp(disch:=first|exact zqz|fail)only[hG,hC,q1,e0,ar,au,aj,ai,simprocAttr]
theorem LK (l:List RT)(i:Nat)(t:RT):(gz l).set i (eG t)=gz (l.set i t):=by simp[gz,List.map_set]
theorem Zi {ts:List Tk}{dx tx sx:AV}{xs:List AV}{st:Int}{p G:Nat}{sg:List aq}{eD:List RT}(hn:ts.length<=1000)(dm:∀ t∈ts,t.after.length<=1000)(wF:sg.length<=1000)(zP:eD.length=ts.length)(ha:∀ t∈ts,∀ a∈t.after,0<=a/\a<(ts.length:Int))(xe:p∉ak tx)(XA:G∉ak tx)(hd:∀ j∈ak tx,j∉lD dx xs/\j∉ak sx) :
  ∀ (r:List Tk) (i:Nat) (H:Hp) (rk:List RT) (all:Bool),i<=ts.length->ts.drop i=r->Cs H p (rv dx st tx sx) 75 0->cellAt H G 0=some (.ptr p 0)->G<H.next->RD H dx xs ts->OL H 132 4 tx (gz rk)->Rw H 1 sx (strs sg)->rk.length=ts.length->(∀ k,i<=k->rk[k]? = eD[k]?)->(∀ k,k<i->rk[k]? = (List.zipWith (jT eD sg) ts eD)[k]?)->
  ∃ H',(∀ dA:K.Fn 2,uO JN GO cK dA (.ptr G 0) (.bool all) dx (.int .i64 (ts.length:Nat)) (.int .i64 (i:Nat)) H=dA (.ptr G 0) (.bool (all&&(eD.drop i).all (fun r=>r.ph==3))) H')/\Cs H' p (rv dx st tx sx) 75 0/\cellAt H' G 0=some (.ptr p 0)/\OL H' 132 4 tx (gz (List.zipWith (jT eD sg) ts eD))/\Out (ak tx) H H'
 | [],i,H,rk,all,hi,h,hC,hG,Nu,hR,hO,hS,hl,h1,h2=>by
  obtain rfl:=drop_nil hi h
  have DQ:rk=List.zipWith (jT eD sg) ts eD:=by
   apply aij
   intro k
   by_cases hk:k<ts.length
   ·exact h2 k hk
   ·rw[agl (by omega),agl (by rw[agy];omega)]
  refine⟨H,fun dA => ?_,hC,hG,by rw[<-DQ];exact hO,Out.refl _ _⟩
  rw[Re,List.drop_eq_nil_of_le (by omega),List.all_nil,Bool.and_true]
  simp only[yw,fZ,aj,ai,simprocAttr]
 | t::r,i,H,rk,all,hi,h,hC,hG,Nu,hR,hO,hS,hl,h1,h2=>by
  obtain⟨g1,g2,g3⟩:=gy h
  have ht:=aaF g2
  obtain⟨x,b,o,q0,q1,q2,q3,q4,q5,q6⟩:=hR.at g2
  have es:=gq g1 (by omega)
  have aC:=yA t x q1 H
  obtain⟨e0,e1,e2,e3,e4,e5⟩:=uh t x
  have o1:=aJ H (aK t x) 99 0
  have cT:=bo H (aK t x) 99 0
  have xq:∀ H':Hp,Out [] H H'->cellAt H' G 0=some (.ptr p 0)/\cellAt H' p 2=some tx/\cellAt H' p 3=some sx:=fun H' k=>⟨by rw[k.cellAt Nu (by simp)];exact hG,(hC.out k (by simp)).cellAt rfl,(hC.out k (by simp)).cellAt rfl⟩
  obtain⟨H2,f1,f2⟩:=ags (fv := .func (.func 144) [] [.ptr G 0]) (p:=fun a=>wZ rk a != 3) (q2.out0 o1) (by have:=dm t ht;omega) (fun H' k a hm=>by
   obtain⟨c1,c2,c3⟩:=xq H' (o1.trans k)
   exact⟨H',agZ c1 c2 (hO.rl.out0 (o1.trans k)) (ha t ht a hm).1 (by rw[hl];exact (ha t ht a hm).2),Out.refl _ _⟩)
  have o2:=o1.trans f2
  have gK:=o2.nx
  obtain⟨c1,c2,c3⟩:=xq H2 o2
  have cT2:=cT.out f2 (by simp)
  have k5:cellAt H2 H.next 5=some (.str t.on):=cT2.cellAt e5
  have kx:cellAt (al H (aK t x) 99 0) H.next 1=some x:=cT.cellAt e1
  have bu:i<eD.length:=by omega
  have zF:eD[i]? = some (eD[i]'bu):=aau _
  have DQ:rk[i]? = some (eD[i]'bu):=by rw[h1 i (aaH _),zF]
  have yJ:eD.drop i=(eD[i]'bu)::eD.drop (i+1):=(List.getElem_cons_drop bu).symm
  generalize eD[i]'bu=u at *
  obtain⟨b',o',p1,p2,p3,p4,p5⟩:=(hO.rl.out0 o2).at (by decide) (qw DQ)
  have u0:=p5 0 _ (yl u).1
  rw[aem] at u0
  have Hf:(t.after.any fun a=>wZ rk a != 3)=cg eD t:=by
   unfold cg
   refine Q9 fun a hm => ?_
   obtain⟨a0,a1⟩:=ha t ht a hm
   unfold wZ
   by_cases hk:a.toNat<i
   ·have hz:=h2 _ hk
    rw[aeh,aau (show a.toNat<ts.length by omega),aau (show a.toNat<eD.length by omega)] at hz
    rw[hz,aau (show a.toNat<eD.length by omega)]
    simp only[aek,afI]
    have:=PC eD sg (ts[a.toNat]'(by omega)) (eD[a.toNat]'(by omega))
    simp only[bne,this]
   ·rw[h1 _ (by omega)]
  rw[Hf] at f1
  have hz:(List.zipWith (jT eD sg) ts eD)[i]? = some (jT eD sg t u):=by rw[aeh,g2,zF]
  have ou:=Xv (hS.out0 o2) (by omega) t.on
  rw[yJ,List.all_cons]
  have fin:∀ (H3:Hp) (DP:List RT),Out (ak tx) H2 H3->OL H3 132 4 tx (gz DP)->DP.length=ts.length->(∀ k,k≠i->DP[k]? = rk[k]?)->DP[i]? = some (jT eD sg t u)->
    (∀ H':Hp,(∀ dA:K.Fn 2,uO JN GO cK dA (.ptr G 0) (.bool (all&&(u.ph==3))) dx (.int .i64 (ts.length:Nat)) (.int .i64 ((i+1:Nat):Int)) H3=dA (.ptr G 0) (.bool ((all&&(u.ph==3))&&(eD.drop (i+1)).all (fun r=>r.ph==3))) H')->(∀ b3 o3,ia 4 tx (.int .i64 (i:Nat))=some (.ptr b3 o3)->cellAt H3 b3 o3=some (.int .i64 (jT eD sg t u).ph))->cellAt H3 G 0=some (.ptr p 0)->cellAt H3 p 2=some tx->∀ dA:K.Fn 2,uO JN GO cK dA (.ptr G 0) (.bool all) dx (.int .i64 (ts.length:Nat)) (.int .i64 (i:Nat)) H=dA (.ptr G 0) (.bool ((all&&(u.ph==3))&&(eD.drop (i+1)).all (fun r=>r.ph==3))) H')->
    ∃ H',(∀ dA:K.Fn 2,uO JN GO cK dA (.ptr G 0) (.bool all) dx (.int .i64 (ts.length:Nat)) (.int .i64 (i:Nat)) H=dA (.ptr G 0) (.bool (all&&((u.ph==3)&&(eD.drop (i+1)).all (fun r=>r.ph==3)))) H')/\Cs H' p (rv dx st tx sx) 75 0/\cellAt H' G 0=some (.ptr p 0)/\OL H' 132 4 tx (gz (List.zipWith (jT eD sg) ts eD))/\Out (ak tx) H H':=by
   intro H3 DP k3 EV Bi aO TM iR
   have o3:Out (ak tx) H H3:=(o2.mono fun j hj=>by cases hj).trans k3
   have Ih:cellAt H3 G 0=some (.ptr p 0):=by rw[o3.cellAt Nu XA];exact hG
   have EL:=hC.out o3 xe
   have wH:=k3.nx
   obtain⟨H',i1,i2,i3,i4,i5⟩:=Zi hn dm wF zP ha xe XA hd r (i+1) H3 DP (all&&(u.ph==3)) g1 g3 EL Ih (by omega) (hR.out o3 fun j hj z=>(hd j z).1 hj) EV (hS.out o3 fun j hj z=>(hd j z).2 hj) Bi (fun k hk=>by rw[aO k (by omega)];exact h1 k (by omega)) (fun k hk=>by
    by_cases e:k=i
    ·subst e;rw[TM,hz]
    ·rw[aO k e];exact h2 k (by omega))
   refine⟨H',fun dA => ?_,i2,i3,i4,o3.trans i5⟩
   rw[<-Bool.and_assoc]
   refine iR H' i1 (fun b3 o3' hb => ?_) Ih (EL.cellAt rfl) dA
   obtain⟨b4,o4,r1,r2,r3,r4,r5⟩:=EV.rl.at (by decide) (qw TM)
   have e4:=r1 .i64
   rw[hb] at e4
   cases e4
   have:=r5 0 _ (yl (jT eD sg t u)).1
   rwa[aem] at this
  have mD:=PC eD sg t u
  have agB:jT eD sg t u=u->(∀ H':Hp,(∀ dA:K.Fn 2,uO JN GO cK dA (.ptr G 0) (.bool (all&&(u.ph==3))) dx (.int .i64 (ts.length:Nat)) (.int .i64 ((i+1:Nat):Int)) H2=dA (.ptr G 0) (.bool ((all&&(u.ph==3))&&(eD.drop (i+1)).all (fun r=>r.ph==3))) H')->∀ dA:K.Fn 2,uO JN GO cK dA (.ptr G 0) (.bool all) dx (.int .i64 (ts.length:Nat)) (.int .i64 (i:Nat)) H=dA (.ptr G 0) (.bool ((all&&(u.ph==3))&&(eD.drop (i+1)).all (fun r=>r.ph==3))) H')->
    ∃ H',(∀ dA:K.Fn 2,uO JN GO cK dA (.ptr G 0) (.bool all) dx (.int .i64 (ts.length:Nat)) (.int .i64 (i:Nat)) H=dA (.ptr G 0) (.bool (all&&((u.ph==3)&&(eD.drop (i+1)).all (fun r=>r.ph==3)))) H')/\Cs H' p (rv dx st tx sx) 75 0/\cellAt H' G 0=some (.ptr p 0)/\OL H' 132 4 tx (gz (List.zipWith (jT eD sg) ts eD))/\Out (ak tx) H H':=by
   intro e iR
   exact fin H2 rk (Out.refl _ _) (hO.out o2 (by simp)) hl (fun k hk=>rfl) (by rw[DQ,e]) fun H' z _ _ _=>iR H' z
  have d3:∀ z:Bool,(u.ph==3)=z->(u.ph==3)=z:=fun z h=>h
  by_cases hr:zt eD sg t u=true
  ·have hs:jT eD sg t u={ u with ph:=1 }:=by unfold jT;rw[if_pos hr]
   obtain⟨H3,w1,w2,w3,w4⟩:=(hO.out o2 (by simp)).fG (k:=0) (v := .int .i64 1) (qw DQ) p1 rfl (by decide)
   have fh:(eG u).set 0 (.int .i64 1)=eG { u with ph:=1 }:=rfl
   rw[fh,LK] at w2
   rw[aem] at w1
   have jF:=(aas.1 DQ).1
   refine fin H3 (rk.set i { u with ph:=1 }) w3 w2 (by rw[adM];exact hl) (fun k hk=>by rw[ajj (fun e=>hk e.symm)]) (by rw[afz jF,hs]) fun H' z hb Ih EL dA => ?_
   have qG:=hb b' o' (p1 .i64)
   rw[hs] at qG
   have Wq:cellAt H3 b' o'=some (.int .i64 1):=qG
   unfold zt at hr
   simp only[aaG,ag6,aj3] at hr
   obtain⟨r1,r2,r3⟩:=hr
   have r0:u.ph=0:=by simpa using r1
   have r13:(u.ph==3)=false:=by rw[r0];rfl
   rw[r13,Bool.and_false] at z ⊢
   rw[Re]
   cases sY:(t.on==[]) with
   | true=>cases all<;>simp(disch:=first|exact zqz|fail)only[yw,bH g1,q3,q5,aC,kx,f1,c1,c2,c3,p1,u0,r1,r2,k5,sY,w1,Ih,EL,Wq,es,z,ar,au,aj,ai,simprocAttr]
   | false=>
    have r3':=r3.resolve_left (by rw[sY];simp)
    rw[r3'] at ou
    cases all<;>simp(disch:=first|exact zqz|fail)only[yw,bH g1,q3,q5,aC,kx,f1,c1,c2,c3,p1,u0,r1,r2,k5,sY,ou,w1,Ih,EL,Wq,es,z,ar,au,aj,ai,simprocAttr]
  ·have hs:jT eD sg t u=u:=by unfold jT;rw[if_neg hr]
   refine agB hs fun H' z dA => ?_
   rw[Re]
   unfold zt at hr
   cases r1:(u.ph==0) with
   | false=>cases all<;>simp only[aeV,ae8] at z ⊢ <;> simp(disch:=first|exact zqz|fail)only[yw,bH g1,q3,q5,aC,kx,f1,c1,c2,c3,p1,u0,r1,k5,es,z,ar,au,aj,ai,simprocAttr]
   | true=>
    cases r2:cg eD t with
    | true=>
     rw[r2] at f1
     cases all<;>simp only[aeV,ae8] at z ⊢ <;> simp(disch:=first|exact zqz|fail)only[yw,bH g1,q3,q5,aC,kx,f1,c1,c2,c3,p1,u0,r1,r2,k5,es,z,ar,au,aj,ai,simprocAttr]
    | false=>
     rw[r2] at f1
     rw[r1,r2] at hr
     have sY:(t.on==[])=false:=by
      cases hq:(t.on==[]) with
      | false=>rfl
      | true=>rw[hq] at hr;simp at hr
     have hno:(sg.any fun a=>t.on==a)=false:=by
      rw[sY] at hr
      cases hq:(sg.any fun a=>t.on==a) with
      | false=>rfl
      | true=>rw[hq] at hr;simp at hr
     rw[hno] at ou
     cases all<;>simp only[aeV,ae8] at z ⊢ <;> simp(disch:=first|exact zqz|fail)only[yw,bH g1,q3,q5,aC,kx,f1,c1,c2,c3,p1,u0,r1,r2,k5,sY,ou,es,z,ar,au,aj,ai,simprocAttr]
theorem Ml {H:Hp}{p:Nat}{dx tx sx:AV}{xs:List AV}{R:Rn}(hC:Cs H p (rv dx R.st tx sx) 75 0)(hO:RO H dx xs tx sx R)(hp:p∉mG dx xs tx sx)(hs:Sm R)(hl:R.rs.length=R.ts.length)(ha:∀ t∈R.ts,∀ a∈t.after,0<=a/\a<(R.ts.length:Int)) :
  ∃ H',cK (.func (.func 106) [] []) [.ptr p 0] H=some (.tuple [],H')/\Cs H' p (rv dx (ig R).st tx sx) 75 0/\RO H' dx xs tx sx (ig R)/\Out (p::ak tx) H H':=by
 have aW:bx 146 (.ptr p 0) H=some (H.next,al H [.ptr p 0] 146 0):=P0 rfl
 have o1:=aJ H [.ptr p 0] 146 0
 have xe:p∉ak tx:=fun z=>hp (abx _ (abA _ z))
 have Qc:cellAt (al H [.ptr p 0] 146 0) H.next 0=some (.ptr p 0):=by rw[vc rfl];rfl
 have EI:=hC.out o1 (by simp)
 have k0:cellAt (al H [.ptr p 0] 146 0) p 0=some dx:=EI.cellAt rfl
 have oh:=hO.v.d.out0 o1
 have fO:=oh.bq
 have z7:=hO.v.t.1.lt
 obtain⟨H2,i1,i2,i3,i4,i5⟩:=Zi (G:=H.next) hs.n hs.a hs.s hl ha xe (fun z=>by have:=z7 _ z;omega) hO.dt R.ts 0 (al H [.ptr p 0] 146 0) R.rs true (ac4 _) ada EI Qc (by rw[bI];omega) oh (hO.t.out o1 (by simp)) (hO.s.rw.out0 o1) hl (fun k _=>rfl) (fun k hk=>by omega)
 rw[ada,aeV,show (((0:Nat):Int))=0 from rfl] at i1
 have gN:=oh.out i5 fun j hj z=>(hO.dt j z).1 hj
 have OZ:=(hO.s.out o1 (by simp)).out i5 fun j hj z=>(hO.dt j z).2 hj
 have o2:Out (ak tx) H H2:=(o1.mono fun j hj=>by cases hj).trans i5
 cases jZ:R.rs.all (fun r=>r.ph==3) with
 | true=>
  rw[jZ] at i1
  obtain⟨H3,w1,w2,w3,w4⟩:=fG i2 (by decide) (o:=1) (by simp) (v := .int .i64 1) rfl
  have aC:(ig R).st=1:=by unfold ig;rw[jZ];rfl
  have fh:(rv dx R.st tx sx).set 1 (.int .i64 1)=rv dx 1 tx sx:=rfl
  rw[fh] at w2
  have uI:∀ {x:AV},(∀ j∈ak x,j∈mG dx xs tx sx)->∀ j∈ak x,j∉[p]:=fun hx j hj=>by rw[No];intro e;subst e;exact hp (hx j hj)
  have vP:RD H3 dx xs R.ts:=gN.out w3 fun j hj=>by rw[No];intro e;subst e;exact hp (abA _ hj)
  have Ls:=i4.out w3 (uI fun j hj=>abx _ (abA _ hj))
  have BC:=OZ.out w3 (uI fun j hj=>abx _ (abx _ hj))
  refine⟨H3,Uc ?_,by rw[aC];exact w2,⟨⟨vP,Ls.rl,BC.rw⟩,Ls,BC,hO.dt,hO.ds⟩,(o2.mono fun j hj => .tail _ hj).trans (w3.mono fun j hj=>by rw[No] at hj;subst hj;exact .head _)⟩
  unfold Jj
  simp(disch:=first|exact zqz|fail)only[aW,Qc,k0,fO,i1,i3,w1,ar,au,aj,ai,simprocAttr]
 | false=>
  rw[jZ] at i1
  have aC:(ig R).st=R.st:=by unfold ig;rw[jZ];rfl
  refine⟨H2,Uc ?_,by rw[aC];exact i2,⟨⟨gN,i4.rl,OZ.rw⟩,i4,OZ,hO.dt,hO.ds⟩,o2.mono fun j hj => .tail _ hj⟩
  unfold Jj
  simp(disch:=first|exact zqz|fail)only[aW,Qc,k0,fO,i1,i3,ar,au,aj,ai,simprocAttr]
abbrev fC (n:Int):Int:=IntKind.wrap .i64 n
theorem RO.out {H H':Hp}{dx tx sx:AV}{xs:List AV}{R:Rn}{S:List Nat}(h:RO H dx xs tx sx R)(k:Out S H H')(hs:∀ j∈mG dx xs tx sx,j∉S):RO H' dx xs tx sx R:=
 ⟨h.v.out k hs,h.t.out k fun j hj=>hs j (abx _ (abA _ hj)),h.s.out k fun j hj=>hs j (abx _ (abx _ hj)),h.dt,h.ds⟩
theorem RO.out0 {H H':Hp}{dx tx sx:AV}{xs:List AV}{R:Rn}(h:RO H dx xs tx sx R)(k:Out [] H H'):RO H' dx xs tx sx R:=h.out k fun _ _ q=>by cases q
theorem apE (t:RT):(eG t).all ba=true:=rfl
theorem RO.set {H:Hp}{dx tx sx:AV}{xs:List AV}{R:Rn}{i b o:Nat}(h:RO H dx xs tx sx R)(hi:i<R.rs.length)(nB:∀ kd,ia 4 tx (.int kd i)=some (.ptr b o))(t:RT) :
  ∃ H',st 4 (.ptr b o) (.agg (eG t)) H=some H'/\RO H' dx xs tx sx { R with rs:=R.rs.set i t }/\Out (ak tx) H H'/\H'.next=H.next:=by
 obtain⟨H',h1,h2,h3,h4⟩:=h.t.stN (vs:=eG t) (by rw[yG];exact hi) nB (apE t) rfl (by decide)
 rw[LK] at h2
 exact⟨H',h1,⟨⟨h.v.d.out h3 fun j hj z=>(h.dt j z).1 hj,h2.rl,h.v.s.out h3 fun j hj z=>(h.dt j z).2 hj⟩,h2,h.s.out h3 fun j hj z=>(h.dt j z).2 hj,h.dt,h.ds⟩,h3,h4⟩
theorem RD.W7 {H:Hp}{dx:AV}{xs:List AV}{ts:List Tk}(h:RD H dx xs ts){i:Nat}{t:Tk}(ht:ts[i]? = some t) :
  ∃ x b o,(∀ k,ia 6 dx (.int k i)=some (.ptr b o))/\b∈ak dx/\b<H.next/\ba x=true/\av H b o 6=some (aK t x)/\∀ k v,(aK t x)[k]? = some v->cellAt H b (o+k)=some v:=by
 have hi:=(aas.1 ht).1
 have hx:xs[i]? = some (xs[i]'(by rw[h.len];exact hi)):=aau _
 have hw:=h.jn i _ t hx ht
 have hz:(List.zipWith aK ts xs)[i]? = some (aK t (xs[i]'(by rw[h.len];exact hi))):=by rw[aeh,ht,hx]
 obtain⟨b,o,h1,h2,h3,h4,h5⟩:=h.row.at (by decide) hz
 exact⟨_,b,o,h1,h2,h3,hw.one,h4,h5⟩
abbrev zR:List AV:=[.ah,.int .i64 0,.ah,.ah]
abbrev qT:Rn:=⟨[],0,[],[]⟩
theorem RO.zero (H:Hp):RO H .ah [] .ah .ah qT:=
 ⟨⟨RD.nil H,RL.nil H 4,.nil⟩,OL.nil H _ 4,.nil,fun j hj=>(by cases hj),fun j hj=>by cases hj⟩
structure lX (R:Rn):Prop where
 sm:Sm R
 len:R.rs.length=R.ts.length
 jn:∀ t∈R.ts,∀ a∈t.after,0<=a/\a<(R.ts.length:Int)
def mU (f:AV)(args:List AV)(H:Hp)(R:Rn)(e:Int):Prop:=
 ∃ dx xs tx sx H',cK f args H=some (.tuple [.agg (rv dx R.st tx sx),.int .i64 e],H')/\RO H' dx xs tx sx R/\Out [] H H'/\∀ j∈mG dx xs tx sx,H.next<=j
theorem mU.err {f:AV}{args:List AV}{H H1 H':Hp}{e:Int}{m:Nat}(h:cK f args H=some (.tuple [.agg zR,.int .i64 e],H'))(k:Out [] H H1)(k2:Out [m] H1 H')(hm:H.next<=m):mU f args H qT e:=
 ⟨.ah,[],.ah,.ah,H',h,RO.zero H',k.then k2 (fun j hj=>by rw[No] at hj;exact .inr (by omega)),fun j hj=>by cases hj⟩
theorem kf {n m:Nat}(h:n<=m):∀ j∈[m],n<=j:=fun j hj=>by rw[No] at hj;omega
theorem gF {H A B:Hp}{S:List Nat}(h:Out [] H A)(k:Out S A B)(hS:∀ j∈S,H.next<=j):Out [] H B:=h.then k fun j hj => .inr (hS j hj)
def nO (R:Rn)(task bw now:Int):Rn × Int:=
 if nR R task=0 then (match R.rs[task.toNat]?,R.ts[task.toNat]? with
  | some t,some d=>if t.ph=1 then (if bw=fC (t.tr+1) then ({ R with rs:=R.rs.set task.toNat ⟨2,bw,fC (now+d.wait),t.wV⟩ },0) else (qT,8)) else (qT,4)
  | _,_=>(qT,4)) else (qT,nR R task)
theorem ac8 {H:Hp}{dx tx sx:AV}{xs:List AV}{R:Rn}(h:RV H dx xs tx sx R)(hk:lX R)(task bw now:Int) :
  mU (.func (.func 78) [] []) [.agg (rv dx R.st tx sx),.int .i64 task,.int .i64 bw,.int .i64 now] H (nO R task bw now).1 (nO R task bw now).2:=by
 have aW:bx 75 (.agg (rv dx R.st tx sx)) H=some (H.next,al H (rv dx R.st tx sx) 75 0):=iW (by simp)
 have o1:=aJ H (rv dx R.st tx sx) 75 0
 have c1:=bo H (rv dx R.st tx sx) 75 0
 have n1:(al H (rv dx R.st tx sx) 75 0).next=H.next+1:=rfl
 generalize al H (rv dx R.st tx sx) 75 0=H1 at *
 have o2:=aJ H1 zR 75 0
 have c2:=bo H1 zR 75 0
 have n2:(al H1 zR 75 0).next=H.next+2:=by rw[bI,n1]
 rw[n1] at c2
 generalize dh:al H1 zR 75 0=H2 at *
 have dW:=o1.trans o2
 have jv:=c1.out o2 (by simp)
 have k1:av H2 H.next 0 4=some (rv dx R.st tx sx):=jv.av 4 0 (by simp)
 have hm:=XJ (h.out0 dW) task
 have o3:=aJ H2 (rv dx R.st tx sx) 75 0
 have n3:(al H2 (rv dx R.st tx sx) 75 0).next=H.next+3:=by rw[bI,n2]
 generalize al H2 (rv dx R.st tx sx) 75 0=H3 at *
 have gW:=dW.trans o3
 have oF:=jv.out o3 (by simp)
 have qL:=c2.out o3 (by simp)
 unfold nO
 by_cases h0:nR R task=0
 ·obtain⟨i,t,rfl,ht,aC⟩:=DW h0
  have bu:=(aas.1 ht).1
  have hd:R.ts[i]? = some (R.ts[i]'(by rw[<-hk.len];exact bu)):=aau _
  have d0:(nR R (i:Int) != 0)=false:=by simp[h0]
  rw[if_pos h0,acT,ht,hd]
  simp only
  generalize R.ts[i]'(by rw[<-hk.len];exact bu)=d at *
  have k2:cellAt H3 H.next 2=some tx:=oF.cellAt rfl
  obtain⟨b,o,q1,q2,q3,q4,q5⟩:=(h.t.out0 gW).at (by decide) (qw ht)
  have yU:=Wa t H3
  rw[n3] at yU
  obtain⟨e0,e1,e2,e3⟩:=yl t
  have o4:=aJ H3 (eG t) 132 0
  have KG:=bo H3 (eG t) 132 0
  rw[n3] at KG
  have n4:(al H3 (eG t) 132 0).next=H.next+4:=by rw[bI,n3]
  generalize al H3 (eG t) 132 0=H4 at *
  have hz4:aE H3 [(.int .i64 0),(.int .i64 0),(.int .i64 0),(.str [])] 132 0=some (H.next+3,al H3 [(.int .i64 0),(.int .i64 0),(.int .i64 0),(.str [])] 132 0):=by rw[<-n3];exact gB (by simp)
  have mL:=gW.trans o4
  have YX:=oF.out o4 (by simp)
  have Nk:=qL.out o4 (by simp)
  have t0:cellAt H4 (H.next+3) 0=some (.int .i64 t.ph):=KG.cellAt e0
  have t1:cellAt H4 (H.next+3) 1=some (.int .i64 t.tr):=KG.cellAt e1
  by_cases h1:t.ph=1
  ·have d1:(t.ph != 1)=false:=by simp[h1]
   rw[if_pos h1]
   by_cases h2:bw=fC (t.tr+1)
   ·have d2:(bw != IntKind.wrap .i64 (t.tr+1))=false:=by simp[h2]
    rw[if_pos h2]
    have k4:av H4 H.next 0 4=some (rv dx R.st tx sx):=YX.av 4 0 (by simp)
    obtain⟨aw,bh,ay,aB,H5,r1,r2,r3,r4⟩:=yn (h.out0 mL) hk.sm
    have n5:=r3.nx
    obtain⟨H6,s1,s2,s3,s4⟩:=fN (n:=4) (vs:=rv aw R.st ay aB) (YX.out r3 (by simp)) rfl rfl (by simp[r2.v.d.row.one,r2.t.rl.one,r2.s.jO,kA])
    have fr:∀ m,m<H.next+4->∀ j∈mG aw bh ay aB,j∉[m]:=fun m hm j hj=>by rw[No];have:=r4 j hj;omega
    have R6:=r2.out s3 (fr _ (by omega))
    obtain⟨x,b2,Lx,p1,p2,p3,p4,p5,p6⟩:=R6.v.d.W7 hd
    have WA:cellAt H6 b2 (Lx+3)=some (.int .i64 d.wait):=p6 3 _ rfl
    have kd6:cellAt H6 H.next 0=some aw:=s2.cellAt rfl
    have cT6:=(KG.out r3 (by simp)).out s3 (by rw[No];omega)
    have iv:b2≠H.next+3:=by have:=r4 b2 (abA _ (abA _ p2));omega
    obtain⟨H7,u1,u2,u3,u4⟩:=fG cT6 (by decide) (o:=0) (by rw[K5];omega) (v := .int .i64 2) rfl
    obtain⟨H8,v1,v2,v3,v4⟩:=fG u2 (by decide) (o:=1) (by rw[adM,K5];omega) (v := .int .i64 bw) rfl
    obtain⟨H9,w1,w2,w3,w4⟩:=fG v2 (by decide) (o:=2) (by rw[adM,adM,K5];omega) (v := .int .i64 (fC (now+d.wait))) rfl
    have fh:(((eG t).set 0 (.int .i64 2)).set 1 (.int .i64 bw)).set 2 (.int .i64 (fC (now+d.wait)))=eG ⟨2,bw,fC (now+d.wait),t.wV⟩:=rfl
    rw[fh] at w2
    have Xb:cellAt H7 b2 (Lx+3)=some (.int .i64 d.wait):=by rw[u3.cellAt p3 (by rw[No];exact iv)];exact WA
    have kw8:cellAt H8 b2 (Lx+3)=some (.int .i64 d.wait):=by rw[v3.cellAt (by omega) (by rw[No];exact iv)];exact Xb
    have uB:H.next∉[H.next+3]:=by rw[No];omega
    have s7:=s2.out u3 uB
    have s8:=s7.out v3 uB
    have s9:=s8.out w3 uB
    have kd7:cellAt H7 H.next 0=some aw:=s7.cellAt rfl
    have kd8:cellAt H8 H.next 0=some aw:=s8.cellAt rfl
    have kt9:cellAt H9 H.next 2=some ay:=s9.cellAt rfl
    have kT9:av H9 (H.next+3) 0 4=some (eG ⟨2,bw,fC (now+d.wait),t.wV⟩):=w2.av 4 0 (by rw[K5];omega)
    have R9:=((R6.out u3 (fr _ (by omega))).out v3 (fr _ (by omega))).out w3 (fr _ (by omega))
    obtain⟨b3,o3',y1,y2,y3,y4,y5⟩:=R9.v.t.at (by decide) (qw ht)
    obtain⟨vl,z1,z2,z3,z4⟩:=R9.set bu y1 ⟨2,bw,fC (now+d.wait),t.wV⟩
    have wj:∀ m,m<H.next+4->m∉ak ay:=fun m hm z=>by have:=r4 m (abx _ (abA _ z));omega
    have s10:=s9.out z3 (wj _ (by omega))
    have age:av vl H.next 0 4=some (rv aw R.st ay aB):=s10.av 4 0 (by simp)
    have hQ:∀ m,m≠H.next+1->H.next+1∉[m]:=fun m hm=>by rw[No];omega
    have aoq:=((((((Nk.out r3 (by simp)).out s3 (hQ _ (by omega))).out u3 (hQ _ (by omega))).out v3 (hQ _ (by omega))).out w3 (hQ _ (by omega))).out z3 (wj _ (by omega)))
    obtain⟨Xx,g1,g2,g3,g4⟩:=fN (n:=4) (vs:=rv aw R.st ay aB) aoq rfl rfl (by simp[r2.v.d.row.one,r2.t.rl.one,r2.s.jO,kA])
    have kQ:av Xx (H.next+1) 0 4=some (rv aw R.st ay aB):=g2.av 4 0 (by simp)
    have out:=gF (gF (gF (gF (gF (gF (mL.trans r3) s3 (kf (aaH _))) u3 (kf (by omega))) v3 (kf (by omega))) w3 (kf (by omega))) z3 (fun j hj=>by have:=r4 j (abx _ (abA _ hj));omega)) g3 (kf (by omega))
    refine⟨aw,bh,ay,aB,Xx,K0 ?_,z2.out g3 (fr _ (by omega)),out,fun j hj=>by have:=r4 j hj;omega⟩
    unfold DH
    simp(disch:=first|exact zqz|fail)only[aW,n1,dh,k1,hm,d0,k2,q1,q4,n3,yU,t0,t1,d1,d2,k4,r1,s1,kd6,p1,WA,u1,v1,w1,kd7,kd8,Xb,kw8,lK (Df r2.v.d.row.1),lK (alw _ _),kt9,kT9,y1,z1,age,g1,kQ,ar,au,aj,ai,simprocAttr]
   ·have d2:(bw != IntKind.wrap .i64 (t.tr+1))=true:=by simp[h2]
    rw[if_neg h2]
    obtain⟨H5,w1,w2,w3,w4⟩:=fN (n:=4) (vs:=zR) Nk rfl rfl rfl
    have k5:av H5 (H.next+1) 0 4=some zR:=w2.av 4 0 (by simp)
    refine mU.err (K0 (?_:_=some (_,H5))) mL w3 (afu _)
    unfold DH
    simp(disch:=first|exact zqz|fail)only[aW,n1,dh,k1,hm,d0,k2,q1,q4,n3,yU,t0,t1,d1,d2,w1,k5,ar,au,aj,ai,simprocAttr]
  ·have d1:(t.ph != 1)=true:=by simp[h1]
   rw[if_neg h1]
   obtain⟨H5,w1,w2,w3,w4⟩:=fN (n:=4) (vs:=zR) Nk rfl rfl rfl
   have k5:av H5 (H.next+1) 0 4=some zR:=w2.av 4 0 (by simp)
   refine mU.err (K0 (?_:_=some (_,H5))) mL w3 (afu _)
   unfold DH
   simp(disch:=first|exact zqz|fail)only[aW,n1,dh,k1,hm,d0,k2,q1,q4,n3,yU,t0,d1,w1,k5,ar,au,aj,ai,simprocAttr]
 ·have d0:(nR R task != 0)=true:=by simp[h0]
  rw[if_neg h0]
  obtain⟨H4,w1,w2,w3,w4⟩:=fN (n:=4) (vs:=zR) qL rfl rfl rfl
  have k5:av H4 (H.next+1) 0 4=some zR:=w2.av 4 0 (by simp)
  refine mU.err (K0 (?_:_=some (_,H4))) gW w3 (afu _)
  unfold DH
  simp(disch:=first|exact zqz|fail)only[aW,n1,dh,k1,hm,d0,w1,k5,ar,au,aj,ai,simprocAttr]
theorem apu {H:Hp}{z:List AV}{el n s:Nat}(k j:IntKind)(hn:n<=1048576)(hl:n*z.length<=16777216):xj z el s (.int k n) (.int j n) H=some (.slice H.next 0 n n true s,al H (List.replicate n z).flatten el 0):=by
 unfold xj
 have hr:rep n z=(List.replicate n z).flatten:=by
  unfold rep
  rfl
 have hlen:(List.replicate n z).flatten.length=n*z.length:=by simp
 simp only
 rw[if_pos ⟨by omega,by omega,by omega⟩,acT,hr,gB (by rw[hlen];omega)]
 rfl
abbrev mM:RT:=⟨0,0,0,[]⟩
noncomputable def bX (ts:List Tk):Rn × Int:=if jc ts=0 then (ig ⟨ts,0,List.replicate ts.length mM,[]⟩,0) else (qT,jc ts)
theorem Vz {H:Hp}{dx:AV}{xs:List AV}{ts:List Tk}(h:RD H dx xs ts)(hn:ts.length<=1000)(dm:∀ t∈ts,t.after.length<=1000) :
  mU (.func (.func 76) [] []) [dv dx] H (bX ts).1 (bX ts).2:=by
 have gp:=h.row.one
 have aW:bx 72 (.agg [dx]) H=some (H.next,al H [dx] 72 0):=iW (by simp)
 have o1:=aJ H [dx] 72 0
 have c1:=bo H [dx] 72 0
 have n1:(al H [dx] 72 0).next=H.next+1:=rfl
 generalize al H [dx] 72 0=H1 at *
 have o2:=aJ H1 zR 75 0
 have c2:=bo H1 zR 75 0
 have n2:(al H1 zR 75 0).next=H.next+2:=by rw[bI,n1]
 rw[n1] at c2
 generalize dh:al H1 zR 75 0=H2 at *
 have dW:=o1.trans o2
 have jv:=c1.out o2 (by simp)
 have k1:av H2 H.next 0 1=some [dx]:=jv.av 1 0 (by simp)
 obtain⟨H3,g1,o3⟩:=Oc (ts:=ts) (by omega) (fun t ht=>by have:=dm t ht;omega) (h.out0 dW)
 have n3:=o3.nx
 have gW:=dW.trans o3
 have oF:=jv.out o3 (by simp)
 have qL:=c2.out o3 (by simp)
 unfold bX
 by_cases h0:jc ts=0
 ·rw[if_pos h0]
  have hq:1<=ts.length/\ts.length<=16/\uD ts:=by
   have h:=h0
   unfold jc at h
   split at h
   ·cases h
   ·rename_i h1
    split at h
    ·cases h
    ·split at h
     ·cases h
     ·split at h
      ·cases h
      ·split at h
       ·cases h
       ·rename_i h4
        have h1:=ahN.1 h1
        exact⟨h1.1,h1.2,IT (by simpa using h4)⟩
  rw[h0] at g1
  have k2:av H3 H.next 0 1=some [dx]:=oF.av 1 0 (by simp)
  have k3:cellAt H3 H.next 0=some dx:=oF.cellAt rfl
  have pI:=h.out0 gW
  have fO:=pI.bq
  have kY:(List.replicate ts.length [(AV.int .i64 0),(.int .i64 0),(.int .i64 0),(.str [])]).flatten=(gz (List.replicate ts.length mM)).flatten:=by
   simp[gz,eG]
  have yr:=apu (H:=H3) (z:=[(.int .i64 0),(.int .i64 0),(.int .i64 0),(.str [])]) (el:=132) (s:=4) (n:=ts.length) .i64 .i64 (by omega) (by simp;omega)
  rw[kY] at yr
  have o4:=aJ H3 (gz (List.replicate ts.length mM)).flatten 132 0
  have cM:=bo H3 (gz (List.replicate ts.length mM)).flatten 132 0
  have n4:(al H3 (gz (List.replicate ts.length mM)).flatten 132 0).next=H3.next+1:=rfl
  generalize al H3 (gz (List.replicate ts.length mM)).flatten 132 0=H4 at *
  have Y5:(gz (List.replicate ts.length mM)).flatten.length=ts.length*4:=by rw[xd (Ko _),yG,aeX]
  have yM:RL H4 4 (.slice H3.next 0 ts.length ts.length true 4) (gz (List.replicate ts.length mM)):=⟨.mk cM.ro (by rw[Y5]) (aaH _) (by rw[aeV,<-agC,Nat.beq_eq];omega),Ko _⟩
  have hV4:RV H4 dx xs (.slice H3.next 0 ts.length ts.length true 4) .ah ⟨ts,0,List.replicate ts.length mM,[]⟩:=⟨pI.out0 o4,yM,.nil⟩
  have Kf:lX ⟨ts,0,List.replicate ts.length mM,[]⟩:=⟨⟨hn,dm,by rw[aeX];omega,by simp⟩,by simp,fun t ht a ha=>by
   obtain⟨i,hi⟩:=adQ ht
   have:=(yi hq.2.2 hi).1 a ha
   exact⟨this.1,by show a<(ts.length:Int);omega⟩⟩
  obtain⟨aw,bh,ay,aB,H5,r1,r2,r3,r4⟩:=yn hV4 Kf.sm
  have n5:=r3.nx
  have r1':cK (.func (.func 97) [] []) [.agg [dx,.int .i64 0,.slice H3.next 0 ts.length ts.length true 4,.ah]] H4=some (.agg (rv aw 0 ay aB),H5):=r1
  have o5:=aJ H5 (rv aw 0 ay aB) 75 0
  have cA:=bo H5 (rv aw 0 ay aB) 75 0
  have stA:st 4 (.ptr H5.next 0) (.agg (rv aw 0 ay aB)) (al H5 zR 75 0)=some (al H5 (rv aw 0 ay aB) 75 0):=iV (by simp[r2.v.d.row.one,r2.t.rl.one,r2.s.jO,kA]) rfl rfl (by decide) rfl
  have n6:(al H5 (rv aw 0 ay aB) 75 0).next=H5.next+1:=rfl
  have apx:aE H5 zR 75 0=some (H5.next,al H5 zR 75 0):=gB (by simp)
  generalize hA6:al H5 (rv aw 0 ay aB) 75 0=H6 at *
  have Vv:=r2.v.lt
  obtain⟨H7,s1,s2,s3,s4⟩:=Ml (R:=⟨ts,0,List.replicate ts.length mM,[]⟩) cA (r2.out0 o5) (fun z=>by have:=Vv _ z;omega) Kf.sm Kf.len Kf.jn
  have Yk:∀ j∈H5.next::ak ay,H4.next<=j:=fun j hj=>by
   rcases aaY.1 hj with rfl | hj
   ·exact n5
   ·exact r4 j (abx _ (abA _ hj))
  have hQ7:Cs H7 (H.next+1) zR 75 0:=(((qL.out o4 (by simp)).out r3 (by simp)).out o5 (by simp)).out s4 fun z=>by have:=Yk _ z;omega
  generalize ig ⟨ts,0,List.replicate ts.length mM,[]⟩=R7 at *
  have kA7:av H7 H5.next 0 4=some (rv aw R7.st ay aB):=s2.av 4 0 (by simp)
  obtain⟨H8,w1,w2,w3,w4⟩:=fN (n:=4) (vs:=rv aw R7.st ay aB) hQ7 rfl rfl (by simp[r2.v.d.row.one,r2.t.rl.one,r2.s.jO,kA])
  have kQ:av H8 (H.next+1) 0 4=some (rv aw R7.st ay aB):=w2.av 4 0 (by simp)
  have k4:av H4 H.next 0 1=some [dx]:=(oF.out o4 (by simp)).av 1 0 (by simp)
  have fl1:fl zR [(0,1,.agg [dx]),(2,1,.slice H3.next 0 ts.length ts.length true 4)]=some [dx,.int .i64 0,.slice H3.next 0 ts.length ts.length true 4,.ah]:=by
   rw[zT (l:=[dx]) (n:=1) rfl (by simp),GY rfl (by simp),tP];rfl
  have smd:same (.agg [dx]) (.agg [dx])=true:=by
   show tA _ _=true
   unfold tA
   rw[akB h.row.1];rfl
  have d0:((0:Int) != 0)=false:=rfl
  have out:=gF (gF (((gW.trans o4).trans r3).trans o5) s4 fun j hj=>by have:=Yk j hj;omega) w3 (kf (afu _))
  refine⟨aw,bh,ay,aB,H8,Xp ?_,s3.out w3 (fun j hj=>by rw[No];have:=r4 j hj;omega),out,fun j hj=>by have:=r4 j hj;omega⟩
  unfold Iw
  simp(disch:=first|exact zqz|fail)only[aW,n1,dh,k1,g1,d0,k2,k3,fO,yr,fl1,r1',apx,stA,k4,lK smd,s1,kA7,w1,kQ,ar,au,aj,ai,simprocAttr]
 ·rw[if_neg h0]
  have d0:(jc ts != 0)=true:=by simp[h0]
  obtain⟨H4,w1,w2,w3,w4⟩:=fN (n:=4) (vs:=zR) qL rfl rfl rfl
  have k5:av H4 (H.next+1) 0 4=some zR:=w2.av 4 0 (by simp)
  refine mU.err (Xp (?_:_=some (_,H4))) gW w3 (afu _)
  unfold Iw
  simp(disch:=first|exact zqz|fail)only[aW,n1,dh,k1,g1,d0,w1,k5,ar,au,aj,ai,simprocAttr]
def qh (R:Rn)(task bw:Int)(data:aq):Rn × Int:=
 if mI R task bw=0 then (ig { R with rs:=R.rs.set task.toNat ⟨3,bw,0,data⟩ },0) else (qT,mI R task bw)
theorem lX.set {R:Rn}(h:lX R)(i:Nat)(t:RT):lX { R with rs:=R.rs.set i t }:=⟨⟨h.sm.n,h.sm.a,by rw[adM];exact h.sm.r,h.sm.s⟩,by rw[adM];exact h.len,h.jn⟩
theorem ahv {H:Hp}{dx tx sx:AV}{xs:List AV}{R:Rn}(h:RV H dx xs tx sx R)(hk:lX R)(task bw:Int)(data:aq) :
  mU (.func (.func 79) [] []) [.agg (rv dx R.st tx sx),.int .i64 task,.int .i64 bw,.str data] H (qh R task bw data).1 (qh R task bw data).2:=by
 have aW:bx 75 (.agg (rv dx R.st tx sx)) H=some (H.next,al H (rv dx R.st tx sx) 75 0):=iW (by simp)
 have o1:=aJ H (rv dx R.st tx sx) 75 0
 have c1:=bo H (rv dx R.st tx sx) 75 0
 have n1:(al H (rv dx R.st tx sx) 75 0).next=H.next+1:=rfl
 generalize al H (rv dx R.st tx sx) 75 0=H1 at *
 have o2:=aJ H1 zR 75 0
 have c2:=bo H1 zR 75 0
 have n2:(al H1 zR 75 0).next=H.next+2:=by rw[bI,n1]
 rw[n1] at c2
 generalize dh:al H1 zR 75 0=H2 at *
 have dW:=o1.trans o2
 have jv:=c1.out o2 (by simp)
 have k1:av H2 H.next 0 4=some (rv dx R.st tx sx):=jv.av 4 0 (by simp)
 obtain⟨H3,hm,o3⟩:=abW (h.out0 dW) task bw
 have n3:=o3.nx
 have gW:=dW.trans o3
 have oF:=jv.out o3 (by simp)
 have qL:=c2.out o3 (by simp)
 unfold qh
 by_cases h0:mI R task bw=0
 ·obtain⟨i,t,rfl,ht,aC,mD,Hy⟩:=Jx h0
  have bu:=(aas.1 ht).1
  have d0:(mI R (i:Int) bw != 0)=false:=by simp[h0]
  rw[if_pos h0,acT]
  have k3:av H3 H.next 0 4=some (rv dx R.st tx sx):=oF.av 4 0 (by simp)
  obtain⟨aw,bh,ay,aB,H4,r1,r2,r3,r4⟩:=yn (h.out0 gW) hk.sm
  have n4:=r3.nx
  have ones:(rv aw R.st ay aB).all ba=true:=by simp[r2.v.d.row.one,r2.t.rl.one,r2.s.jO,kA]
  obtain⟨H5,s1,s2,s3,s4⟩:=fN (n:=4) (vs:=rv aw R.st ay aB) (oF.out r3 (by simp)) rfl rfl ones
  have fr:∀ m,m<H.next+2->∀ j∈mG aw bh ay aB,j∉[m]:=fun m hm j hj=>by rw[No];have:=r4 j hj;omega
  have R5:=r2.out s3 (fr _ (by omega))
  have k5:cellAt H5 H.next 2=some ay:=s2.cellAt rfl
  obtain⟨b,o,q1,q2,q3,q4,q5⟩:=R5.v.t.at (by decide) (qw ht)
  obtain⟨H6,z1,z2,z3,z4⟩:=R5.set bu q1 ⟨3,bw,0,data⟩
  have wj:∀ m,m<H.next+2->m∉ak ay:=fun m hm z=>by have:=r4 m (abx _ (abA _ z));omega
  have s6:=s2.out z3 (wj _ (by omega))
  have fR:=hk.set i ⟨3,bw,0,data⟩
  obtain⟨H7,t1,t2,t3,t4⟩:=Ml (R:={ R with rs:=R.rs.set i ⟨3,bw,0,data⟩ }) s6 z2 (fun z=>by have:=r4 _ z;omega) fR.sm fR.len fR.jn
  have Gu:∀ m,m<H.next+2->m≠H.next->m∉H.next::ak ay:=fun m hm aO z=>(aaY.1 z).elim aO (wj m hm)
  have Hu:=(((qL.out r3 (by simp)).out s3 (by rw[No];omega)).out z3 (wj _ (by omega))).out t4 (Gu _ (by omega) (by omega))
  generalize ig { R with rs:=R.rs.set i ⟨3,bw,0,data⟩ }=R7 at *
  have k7:av H7 H.next 0 4=some (rv aw R7.st ay aB):=t2.av 4 0 (by simp)
  obtain⟨H8,w1,w2,w3,w4⟩:=fN (n:=4) (vs:=rv aw R7.st ay aB) Hu rfl rfl (by simp[r2.v.d.row.one,r2.t.rl.one,r2.s.jO,kA])
  have k8:av H8 (H.next+1) 0 4=some (rv aw R7.st ay aB):=w2.av 4 0 (by simp)
  have z1':st 4 (.ptr b o) (.agg [.int .i64 3,.int .i64 bw,.int .i64 0,.str data]) H5=some H6:=z1
  have qB:∀ j∈ak ay,H.next<=j:=fun j hj=>by have:=r4 j (abx _ (abA _ hj));omega
  have out:=gF (gF (gF (gF (gW.trans r3) s3 (kf (aaH _))) z3 qB) t4 (fun j hj=>(aaY.1 hj).elim (fun e=>by omega) (qB j))) w3 (kf (afu _))
  refine⟨aw,bh,ay,aB,H8,aay ?_,t3.out w3 (fr _ (by omega)),out,fun j hj=>by have:=r4 j hj;omega⟩
  unfold Ja
  simp(disch:=first|exact zqz|fail)only[aW,n1,dh,k1,hm,d0,k3,r1,s1,k5,q1,z1',t1,k7,w1,k8,ar,au,aj,ai,simprocAttr]
 ·have d0:(mI R task bw != 0)=true:=by simp[h0]
  rw[if_neg h0]
  obtain⟨H4,w1,w2,w3,w4⟩:=fN (n:=4) (vs:=zR) qL rfl rfl rfl
  have k5:av H4 (H.next+1) 0 4=some zR:=w2.av 4 0 (by simp)
  refine mU.err (aay (?_:_=some (_,H4))) gW w3 (afu _)
  unfold Ja
  simp(disch:=first|exact zqz|fail)only[aW,n1,dh,k1,hm,d0,w1,k5,ar,au,aj,ai,simprocAttr]
def As:Nat->Nat->Nat
 | 0,d=>d
 | n+1,d=>if d<64000 then As n (min (2*d) 64000) else d
def Ga (base bw:Nat):Nat:=if base=0\/bw=0 then 0 else As (bw-1) (min base 64000)
theorem Av (ty:Array TypeId)(x y:Int)(H:Hp):gG P .min ty [.int .i64 x,.int .i64 y] H=some (.int .i64 (if y<x then y else x),H):=aaw rfl (id rfl)
theorem aaW:∀ (n d:Nat),d<=64000->As n d<=64000
 | 0,d,h=>h
 | n+1,d,h=>by
  unfold As
  split
  ·exact aaW n _ (akR _ _)
  ·exact h
theorem aiP (b t:Nat):Ga b t<=64000:=by
 unfold Ga
 split
 ·omega
 ·exact aaW _ _ (akR _ _)
theorem ZY {t:Nat}(ht:t<=1000000){H:Hp}(eX:K.Fn 1):∀ (n d k:Nat),k+n=t->d<=64000->HJ JN GO cK eX (.int .i64 (t:Nat)) (.int .i64 (d:Nat)) (.int .i64 (k:Nat)) H=eX (.int .i64 (As n d:Nat)) H
 | 0,d,k,h,hd=>by
  obtain rfl:k=t:=by omega
  rw[Zd]
  simp only[LA,fZ,As,aj,ai,simprocAttr]
 | n+1,d,k,h,hd=>by
  have h1:k<t:=by omega
  have es:=gq h1 (by omega)
  rw[Zd]
  unfold As
  by_cases h2:d<64000
  ·have d2:decide (((d:Nat):Int)<64000)=true:=decide_eq_true (by omega)
   have sh:zG (.int .i64 ((d:Nat):Int)) (.int .u64 1)=some (.int .i64 ((2*d:Nat):Int)):=by
    have:=afl (k := .i64) (j := .u64) (a:=d) (b:=1)
    rw[show (((1:Nat):Int))=1 from rfl] at this
    rw[this,show min 1 IntKind.i64.bits=1 from rfl,Nat.pow_one,Nat.mul_comm,wrap_i64 (by omega) (by omega)]
   have hm:(if (64000:Int)<((2*d:Nat):Int) then (64000:Int) else ((2*d:Nat):Int))=((min (2*d) 64000:Nat):Int):=by
    split<;>omega
   have EH:=Av #[2,2] ((2*d:Nat):Int) 64000 H
   rw[hm] at EH
   have ih:=ZY ht (H:=H) eX n (min (2*d) 64000) (k+1) (by omega) (akR _ _)
   rw[if_pos h2]
   simp only[LA,bH h1,d2,sh,EH,es,ih,aj,ai,simprocAttr]
  ·have d2:decide (((d:Nat):Int)<64000)=false:=decide_eq_false (by omega)
   rw[if_neg h2]
   simp only[LA,bH h1,d2,aj,ai,simprocAttr]
theorem alO {base t:Nat}(hb:base<=1000000)(ht:t<=1000000)(H:Hp):cK (.func (.func 145) [] []) [.int .i64 (base:Nat),.int .i64 (t:Nat)] H=some (.int .i64 (Ga base t:Nat),H):=by
 refine apo ?_
 unfold Ug Ga
 by_cases h0:base=0
 ·have d0:decide (((base:Nat):Int)<1)=true:=decide_eq_true (by omega)
  rw[if_pos (.inl h0)]
  simp only[d0,aj,ai,simprocAttr]<;>rfl
 ·have d0:decide (((base:Nat):Int)<1)=false:=decide_eq_false (by omega)
  by_cases h1:t=0
  ·have d1:decide (((t:Nat):Int)<1)=true:=decide_eq_true (by omega)
   rw[if_pos (.inr h1)]
   simp only[d0,d1,aj,ai,simprocAttr]<;>rfl
  ·have d1:decide (((t:Nat):Int)<1)=false:=decide_eq_false (by omega)
   rw[if_neg (fun q=>q.elim h0 h1)]
   have hm:(if (64000:Int)<((base:Nat):Int) then (64000:Int) else ((base:Nat):Int))=((min base 64000:Nat):Int):=by
    split<;>omega
   have EH:=Av #[2,2] ((base:Nat):Int) 64000 H
   rw[hm] at EH
   have ih:=fun eX=>ZY ht (H:=H) eX (t-1) (min base 64000) 1 (by omega) (akR _ _)
   rw[show (((1:Nat):Int))=1 from rfl] at ih
   simp only[d0,d1,EH,ih,aj,ai,simprocAttr]
def dM (base tr:Int):Int:=(Ga base.toNat tr.toNat:Nat)
def lI (R:Rn)(i:Nat)(t:RT)(d:Tk)(now:Int):Rn:=
 if t.tr<=d.retry then { R with rs:=R.rs.set i { t with ph:=5,kC:=fC (now+dM d.base t.tr) } } else { R with rs:=R.rs.set i { t with ph:=4,kC:=0 },st:=2 }
theorem RO.bO {H H':Hp}{dx tx sx:AV}{xs:List AV}{R:Rn}{l:List RT}(h:RO H dx xs tx sx R)(hO:OL H' 132 4 tx (gz l))(k:Out (ak tx) H H'):RO H' dx xs tx sx { R with rs:=l }:=
 ⟨⟨h.v.d.out k fun j hj z=>(h.dt j z).1 hj,hO.rl,h.v.s.out k fun j hj z=>(h.dt j z).2 hj⟩,hO,h.s.out k fun j hj z=>(h.dt j z).2 hj,h.dt,h.ds⟩
theorem T8 {H:Hp}{p i:Nat}{dx tx sx:AV}{xs:List AV}{R:Rn}{t:RT}{d:Tk}(hC:Cs H p (rv dx R.st tx sx) 75 0)(hO:RO H dx xs tx sx R)(hp:p∉mG dx xs tx sx)(ht:R.rs[i]? = some t)(hd:R.ts[i]? = some d)(mO:0<=d.base)(hb:d.base<=1000000)(ht0:0<=t.tr)(ht1:t.tr<=1000000)(now:Int) :
  ∃ H',cK (.func (.func 107) [] []) [.ptr p 0,.int .i64 (i:Nat),.int .i64 now] H=some (.tuple [],H')/\Cs H' p (rv dx (lI R i t d now).st tx sx) 75 0/\RO H' dx xs tx sx (lI R i t d now)/\Out (p::ak tx) H H':=by
 have xe:p∉ak tx:=fun z=>hp (abx _ (abA _ z))
 obtain⟨x,b2,Lx,p1,p2,p3,p4,p5,p6⟩:=hO.v.d.W7 hd
 have aC:=yA d x p4 H
 have o1:=aJ H (aK d x) 99 0
 have cT:=bo H (aK d x) 99 0
 have c2:cellAt H p 2=some tx:=hC.cellAt rfl
 have c0:cellAt H p 0=some dx:=hC.cellAt rfl
 obtain⟨b,o,q1,q2,q3,q4,q5⟩:=(hO.v.t.out0 o1).at (by decide) (qw ht)
 have r1:cellAt (al H (aK d x) 99 0) b (o+1)=some (.int .i64 t.tr):=q5 1 _ (yl t).2.1
 have m2:cellAt (al H (aK d x) 99 0) H.next 2=some (.int .i64 d.retry):=cT.cellAt (uh d x).2.2.1
 have m4:cellAt (al H (aK d x) 99 0) H.next 4=some (.int .i64 d.base):=cT.cellAt (uh d x).2.2.2.2.1
 have zo:=hO.out0 o1
 have EI:=hC.out o1 (by simp)
 have bu:=(aas.1 ht).1
 have DD:cK (.func (.func 145) [] []) [.int .i64 d.base,.int .i64 t.tr] (al H (aK d x) 99 0)=some (.int .i64 (dM d.base t.tr),al H (aK d x) 99 0):=by
  have:=alO (base:=d.base.toNat) (t:=t.tr.toNat) (by omega) (by omega) (al H (aK d x) 99 0)
  rw[show ((d.base.toNat:Nat):Int)=d.base by omega,show ((t.tr.toNat:Nat):Int)=t.tr by omega] at this
  exact this
 generalize hA:al H (aK d x) 99 0=H1 at *
 have two:∀ (a c:Int),∃ H3 H2,st 1 (.ptr b o) (.int .i64 a) H1=some H2/\st 1 (.ptr b (o+2)) (.int .i64 c) H2=some H3/\OL H3 132 4 tx (gz (R.rs.set i { t with ph:=a,kC:=c }))/\Out (ak tx) H1 H3:=by
  intro a c
  obtain⟨H2,w1,w2,w3,w4⟩:=zo.t.fG (k:=0) (v := .int .i64 a) (qw ht) q1 rfl (by decide)
  have e2:((gz R.rs).set i ((eG t).set 0 (.int .i64 a)))[i]? = some ((eG t).set 0 (.int .i64 a)):=afz (by rw[yG];exact bu)
  obtain⟨H3,v1,v2,v3,v4⟩:=w2.fG (k:=2) (v := .int .i64 c) e2 q1 rfl (by decide)
  rw[List.set_set] at v2
  have fh:((eG t).set 0 (.int .i64 a)).set 2 (.int .i64 c)=eG { t with ph:=a,kC:=c }:=rfl
  rw[fh,LK] at v2
  rw[aem] at w1
  exact⟨H3,H2,w1,v1,v2,w3.trans v3⟩
 unfold lI
 by_cases hle:t.tr<=d.retry
 ·have dl:decide (t.tr<=d.retry)=true:=decide_eq_true hle
  obtain⟨H3,H2,v1,v2,v3,v4⟩:=two 5 (fC (now+dM d.base t.tr))
  rw[if_pos hle]
  refine⟨H3,Yy ?_,EI.out v4 xe,zo.bO v3 v4,(o1.mono fun j hj=>by cases hj).trans (v4.mono fun j hj => .tail _ hj)⟩
  unfold JZ
  simp(disch:=first|exact zqz|fail)only[c2,c0,q1,p1,p5,aC,hA,r1,m2,m4,dl,DD,v1,v2,ar,au,aj,ai,simprocAttr]
 ·have dl:decide (t.tr<=d.retry)=false:=decide_eq_false hle
  obtain⟨H3,H2,v1,v2,v3,v4⟩:=two 4 0
  rw[if_neg hle]
  obtain⟨H4,w1,w2,w3,w4⟩:=fG (EI.out v4 xe) (by decide) (o:=1) (by simp) (v := .int .i64 2) rfl
  have fh:(rv dx R.st tx sx).set 1 (.int .i64 2)=rv dx 2 tx sx:=rfl
  rw[fh] at w2
  have kB:=(zo.bO v3 v4).out w3 fun j hj=>by rw[No];intro e;subst e;exact hp hj
  refine⟨H4,Yy ?_,w2,⟨⟨kB.v.d,kB.v.t,kB.v.s⟩,kB.t,kB.s,kB.dt,kB.ds⟩,((o1.mono fun j hj=>by cases hj).trans (v4.mono fun j hj => .tail _ hj)).trans (w3.mono fun j hj=>by rw[No] at hj;subst hj;exact .head _)⟩
  unfold JZ
  simp(disch:=first|exact zqz|fail)only[c2,c0,q1,p1,p5,aC,hA,r1,m2,m4,dl,v1,v2,w1,ar,au,aj,ai,simprocAttr]
structure sS (R:Rn):Prop where
 d:∀ t∈R.ts,0<=t.base/\t.base<=1000000
 t:∀ t∈R.rs,0<=t.tr/\t.tr<=1000000
def vR (R:Rn)(task bw now:Int):Rn × Int:=
 if mI R task bw=0 then (match R.rs[task.toNat]?,R.ts[task.toNat]? with
  | some t,some d=>(lI R task.toNat t d now,0)
  | _,_=>(qT,0)) else (qT,mI R task bw)
theorem afm {H:Hp}{dx tx sx:AV}{xs:List AV}{R:Rn}(h:RV H dx xs tx sx R)(hk:lX R)(hb:sS R)(task bw now:Int) :
  mU (.func (.func 80) [] []) [.agg (rv dx R.st tx sx),.int .i64 task,.int .i64 bw,.int .i64 now] H (vR R task bw now).1 (vR R task bw now).2:=by
 have aW:bx 75 (.agg (rv dx R.st tx sx)) H=some (H.next,al H (rv dx R.st tx sx) 75 0):=iW (by simp)
 have o1:=aJ H (rv dx R.st tx sx) 75 0
 have c1:=bo H (rv dx R.st tx sx) 75 0
 have n1:(al H (rv dx R.st tx sx) 75 0).next=H.next+1:=rfl
 generalize al H (rv dx R.st tx sx) 75 0=H1 at *
 have o2:=aJ H1 zR 75 0
 have c2:=bo H1 zR 75 0
 have n2:(al H1 zR 75 0).next=H.next+2:=by rw[bI,n1]
 rw[n1] at c2
 generalize dh:al H1 zR 75 0=H2 at *
 have dW:=o1.trans o2
 have jv:=c1.out o2 (by simp)
 have k1:av H2 H.next 0 4=some (rv dx R.st tx sx):=jv.av 4 0 (by simp)
 obtain⟨H3,hm,o3⟩:=abW (h.out0 dW) task bw
 have n3:=o3.nx
 have gW:=dW.trans o3
 have oF:=jv.out o3 (by simp)
 have qL:=c2.out o3 (by simp)
 unfold vR
 by_cases h0:mI R task bw=0
 ·obtain⟨i,t,rfl,ht,aC,mD,Hy⟩:=Jx h0
  have bu:=(aas.1 ht).1
  have hd:R.ts[i]? = some (R.ts[i]'(by rw[<-hk.len];exact bu)):=aau _
  have d0:(mI R (i:Int) bw != 0)=false:=by simp[h0]
  rw[if_pos h0,acT,ht,hd]
  simp only
  generalize R.ts[i]'(by rw[<-hk.len];exact bu)=d at *
  have k3:av H3 H.next 0 4=some (rv dx R.st tx sx):=oF.av 4 0 (by simp)
  obtain⟨aw,bh,ay,aB,H4,r1,r2,r3,r4⟩:=yn (h.out0 gW) hk.sm
  have n4:=r3.nx
  have ones:∀ z:Int,(rv aw z ay aB).all ba=true:=fun z=>by simp[r2.v.d.row.one,r2.t.rl.one,r2.s.jO,kA]
  obtain⟨H5,s1,s2,s3,s4⟩:=fN (n:=4) (vs:=rv aw R.st ay aB) (oF.out r3 (by simp)) rfl rfl (ones _)
  have fr:∀ m,m<H.next+2->∀ j∈mG aw bh ay aB,j∉[m]:=fun m hm j hj=>by rw[No];have:=r4 j hj;omega
  have R5:=r2.out s3 (fr _ (by omega))
  have wj:∀ m,m<H.next+2->m∉ak ay:=fun m hm z=>by have:=r4 m (abx _ (abA _ z));omega
  have b1:=hb.d d (aaF hd)
  have b2:=hb.t t (aaF ht)
  obtain⟨H7,t1,t2,t3,t4⟩:=T8 s2 R5 (fun z=>by have:=r4 _ z;omega) ht hd b1.1 b1.2 b2.1 b2.2 now
  have Gu:∀ m,m<H.next+2->m≠H.next->m∉H.next::ak ay:=fun m hm aO z=>(aaY.1 z).elim aO (wj m hm)
  have Hu:=((qL.out r3 (by simp)).out s3 (by rw[No];omega)).out t4 (Gu _ (by omega) (by omega))
  generalize lI R i t d now=R7 at *
  have k7:av H7 H.next 0 4=some (rv aw R7.st ay aB):=t2.av 4 0 (by simp)
  obtain⟨H8,w1,w2,w3,w4⟩:=fN (n:=4) (vs:=rv aw R7.st ay aB) Hu rfl rfl (ones _)
  have k8:av H8 (H.next+1) 0 4=some (rv aw R7.st ay aB):=w2.av 4 0 (by simp)
  have qB:∀ j∈ak ay,H.next<=j:=fun j hj=>by have:=r4 j (abx _ (abA _ hj));omega
  have out:=gF (gF (gF (gW.trans r3) s3 (kf (aaH _))) t4 (fun j hj=>(aaY.1 hj).elim (fun e=>by omega) (qB j))) w3 (kf (afu _))
  refine⟨aw,bh,ay,aB,H8,ab6 ?_,t3.out w3 (fr _ (by omega)),out,fun j hj=>by have:=r4 j hj;omega⟩
  unfold MO
  simp(disch:=first|exact zqz|fail)only[aW,n1,dh,k1,hm,d0,k3,r1,s1,t1,k7,w1,k8,ar,au,aj,ai,simprocAttr]
 ·have d0:(mI R task bw != 0)=true:=by simp[h0]
  rw[if_neg h0]
  obtain⟨H4,w1,w2,w3,w4⟩:=fN (n:=4) (vs:=zR) qL rfl rfl rfl
  have k5:av H4 (H.next+1) 0 4=some zR:=w2.av 4 0 (by simp)
  refine mU.err (ab6 (?_:_=some (_,H4))) gW w3 (afu _)
  unfold MO
  simp(disch:=first|exact zqz|fail)only[aW,n1,dh,k1,hm,d0,w1,k5,ar,au,aj,ai,simprocAttr]
theorem aec {H:Hp}{g:Nat}{name:aq}(hg:cellAt H g 0=some (.str name))(xE:g<H.next)(t:Tk)(x:AV) :
  ∃ H',cK (.func (.func 110) [] [.ptr g 0]) [.agg (aK t x)] H=some (.bool ((t.on==name)&&!(name==[])),H')/\Out [] H H':=by
 have b1:=ve t x H
 have o1:=aJ H (aK t x) 99 0
 have c1:=bo H (aK t x) 99 0
 have uN:cellAt (al H (aK t x) 99 0) g 0=some (.str name):=by rw[tw xE];exact hg
 have k5:=c1.cellAt (uh t x).2.2.2.2.2
 generalize hA:al H (aK t x) 99 0=H1 at *
 refine⟨H1,ah9 ?_,o1⟩
 unfold Yi
 cases h1:(t.on==name) with
 | false=>simp(disch:=first|exact zqz|fail)only[b1,hA,uN,k5,h1,ae8,ar,au,aj,ai,simprocAttr]
 | true=>
  cases h2:(name==[]) with
  | false=>simp(disch:=first|exact zqz|fail)only[b1,hA,uN,k5,h1,h2,aeV,ar,au,aj,ai,simprocAttr]
  | true=>simp(disch:=first|exact zqz|fail)only[b1,hA,uN,k5,h1,h2,aeV,ar,au,aj,ai,simprocAttr]
def J2 (name:aq)(c:List AV):Bool:=match c[5]? with | some (AV.str s)=>(s==name)&&!(name==[]) | _=>false
def GF (ts:List Tk)(name:aq):Bool:=ts.any fun t=>(t.on==name)&&!(name==[])
def rU (R:Rn)(name:aq):Rn × Int:=
 if R.st≠0 then (qT,9) else if R.sg.any (fun s=>name==s) then (qT,5) else if GF R.ts name then (ig { R with sg:=R.sg++[name] },0) else (qT,1)
theorem ail {ts:List Tk}{name:aq}:∀ {xs:List AV},xs.length=ts.length->(List.zipWith aK ts xs).any (J2 name)=GF ts name:=by
 induction ts with
 | nil=>intro xs _;rfl
 | cons t ts ih=>
  intro xs h
  cases xs with
  | nil=>simp at h
  | cons x xs=>
   simp only[aaN,Nat.add_right_cancel_iff] at h
   show (J2 name (aK t x)||(List.zipWith aK ts xs).any (J2 name))=_
   rw[ih h]
   rfl
theorem aoK {H:Hp}{dx tx sx:AV}{xs:List AV}{R:Rn}(h:RV H dx xs tx sx R)(hk:lX R)(wF:R.sg.length<=900)(name:aq) :
  mU (.func (.func 81) [] []) [.agg (rv dx R.st tx sx),.str name] H (rU R name).1 (rU R name).2:=by
 have aW:bx 75 (.agg (rv dx R.st tx sx)) H=some (H.next,al H (rv dx R.st tx sx) 75 0):=iW (by simp)
 have o1:=aJ H (rv dx R.st tx sx) 75 0
 have c1:=bo H (rv dx R.st tx sx) 75 0
 have n1:(al H (rv dx R.st tx sx) 75 0).next=H.next+1:=rfl
 generalize dq:al H (rv dx R.st tx sx) 75 0=H1 at *
 have oS:=aJ H1 [.str name] 9 0
 have cS:=bo H1 [.str name] 9 0
 have nS:(al H1 [.str name] 9 0).next=H.next+2:=by rw[bI,n1]
 rw[n1] at cS
 generalize hAS:al H1 [.str name] 9 0=HS at *
 have o2:=aJ HS zR 75 0
 have c2:=bo HS zR 75 0
 have n2:(al HS zR 75 0).next=H.next+3:=by rw[bI,nS]
 rw[nS] at c2
 generalize dh:al HS zR 75 0=H2 at *
 have dW:=(o1.trans oS).trans o2
 have jv:=(c1.out oS (by simp)).out o2 (by simp)
 have VK:=cS.out o2 (by simp)
 have k0:cellAt H2 H.next 0=some dx:=jv.cellAt rfl
 have k1:cellAt H2 H.next 1=some (.int .i64 R.st):=jv.cellAt rfl
 have k3:cellAt H2 H.next 3=some sx:=jv.cellAt rfl
 have kS:cellAt H2 (H.next+1) 0=some (.str name):=VK.cellAt rfl
 unfold rU
 by_cases h0:R.st≠0
 ·have d0:(R.st != 0)=true:=by simp[h0]
  rw[if_pos h0]
  have k5:av H2 (H.next+2) 0 4=some zR:=c2.av 4 0 (by simp)
  refine mU.err (m:=H.next+2) (JK (?_:_=some (_,H2))) dW ((Out.refl [] H2).mono fun j hj=>by cases hj) (by omega)
  unfold B9
  simp(disch:=first|exact zqz|fail)only[aW,dq,n1,hAS,nS,dh,k1,d0,k5,ar,au,aj,ai,simprocAttr]
 have d0:(R.st != 0)=false:=by simpa using h0
 rw[if_neg h0]
 have ou:=Xv (h.s.out0 dW) (by omega) name
 cases h5:R.sg.any (fun s=>name==s) with
 | true=>
  rw[h5] at ou
  rw[if_pos rfl]
  obtain⟨H4,w1,w2,w3,w4⟩:=fN (n:=4) (vs:=zR) c2 rfl rfl rfl
  have k5:av H4 (H.next+2) 0 4=some zR:=w2.av 4 0 (by simp)
  refine mU.err (JK (?_:_=some (_,H4))) dW w3 (by omega)
  unfold B9
  simp(disch:=first|exact zqz|fail)only[aW,dq,n1,hAS,nS,dh,k1,d0,k3,kS,ou,w1,k5,ar,au,aj,ai,simprocAttr]
 | false=>
  rw[h5] at ou
  rw[if_neg (by simp)]
  have yT:(List.zipWith aK R.ts xs).length<=1000:=by rw[agy];exact agr (Nat.min_le_left _ _) hk.sm.n
  obtain⟨H3,f1,f2⟩:=akw (fv := .func (.func 110) [] [.ptr (H.next+1) 0]) (p:=J2 name) (h.d.row.out0 dW) (by omega) (fun H' k a ha=>by
   obtain⟨i,hi⟩:=adQ ha
   rw[aeh] at hi
   cases ht:R.ts[i]? with
   | none=>rw[ht] at hi;simp at hi
   | some t=>
    cases hx:xs[i]? with
    | none=>rw[ht,hx] at hi;simp at hi
    | some x=>
     rw[ht,hx] at hi
     simp only[adG] at hi
     subst hi
     have po:=k.nx
     exact aec (g:=H.next+1) (by rw[k.cellAt (by omega) (by simp)];exact kS) (by omega) t x)
  rw[ail h.d.len] at f1
  have gW:=dW.trans f2
  have n3:=f2.nx
  have oF:=jv.out f2 (by simp)
  have cS3:=VK.out f2 (by simp)
  have qL:=c2.out f2 (by simp)
  cases h6:GF R.ts name with
  | false=>
   rw[h6] at f1
   rw[if_neg (by simp)]
   obtain⟨H4,w1,w2,w3,w4⟩:=fN (n:=4) (vs:=zR) qL rfl rfl rfl
   have k5:av H4 (H.next+2) 0 4=some zR:=w2.av 4 0 (by simp)
   refine mU.err (JK (?_:_=some (_,H4))) gW w3 (by omega)
   unfold B9
   simp(disch:=first|exact zqz|fail)only[aW,dq,n1,hAS,nS,dh,k1,d0,k3,kS,ou,k0,f1,w1,k5,ar,au,aj,ai,simprocAttr]
  | true=>
   rw[h6] at f1
   rw[if_pos rfl]
   have k4:av H3 H.next 0 4=some (rv dx R.st tx sx):=oF.av 4 0 (by simp)
   obtain⟨aw,bh,ay,aB,H4,r1,r2,r3,r4⟩:=yn (h.out0 gW) hk.sm
   have n4:=r3.nx
   have ones:∀ z:Int,∀ s:AV,ba s=true->(rv aw z ay s).all ba=true:=fun z s hs=>by simp[r2.v.d.row.one,r2.t.rl.one,hs,kA]
   obtain⟨H5,s1,s2,s3,s4⟩:=fN (n:=4) (vs:=rv aw R.st ay aB) (oF.out r3 (by simp)) rfl rfl (ones _ _ r2.s.jO)
   have fr:∀ m,m<H.next+3->∀ j∈mG aw bh ay aB,j∉[m]:=fun m hm j hj=>by rw[No];have:=r4 j hj;omega
   have R5:=r2.out s3 (fr _ (by omega))
   have Rr:cellAt H5 H.next 3=some aB:=s2.cellAt rfl
   have kS5:cellAt H5 (H.next+1) 0=some (.str name):=((cS3.out r3 (by simp)).out s3 (by rw[No];omega)).cellAt rfl
   have Vv:=R5.v.lt
   have n5:=s3.nx
   have WU:∀ m,m<H.next+3->m∉ak aB:=fun m hm z=>by have:=r4 m (abx _ (abx _ z));omega
   obtain⟨wm,H6,p1,p2,p3,p4,p5⟩:=uf (fJ:=9) (z:=[(.str [])]) (vs:=[.str name]) R5.s rfl rfl (by decide) (by rw[ji];simp;omega)
   have pH:strs R.sg++[.str name]=strs (R.sg++[name]):=by simp[strs]
   rw[pH] at p2
   have iM:=p1 _ rfl
   have n6:=p3.nx
   have s6:=s2.out p3 (WU _ (by omega))
   obtain⟨H7,v1,v2,v3,v4⟩:=Am.K.fG s6 (by decide) (o:=3) (by simp) (v:=wm) p5
   have fh:(rv aw R.st ay aB).set 3 wm=rv aw R.st ay wm:=rfl
   rw[fh] at v2
   have n7:=v3.nx
   have pT:∀ j∈ak wm,j∈ak aB\/H5.next<=j:=p4
   have DN:∀ j∈mG aw bh ay wm,H.next+3<=j:=fun j hj=>by
    rcases abV.1 hj with hj | hj
    ·have:=r4 j (abA _ hj);omega
    ·rcases abV.1 hj with hj | hj
     ·have:=r4 j (abx _ (abA _ hj));omega
     ·rcases pT j hj with z | z
      ·have:=r4 j (abx _ (abx _ z));omega
      ·omega
   have Ib:∀ j,H.next+3<=j->j∉[H.next]:=fun j hj=>by rw[No];omega
   have RO7:RO H7 aw bh ay wm { R with sg:=R.sg++[name] }:=by
    have DB:=(R5.v.d.out p3 fun j hj z=>R5.ds j z hj).out v3 fun j hj=>Ib j (DN j (abA _ hj))
    have ht6:=(R5.t.out p3 fun j hj z=>(R5.dt j hj).2 z).out v3 fun j hj=>Ib j (DN j (abx _ (abA _ hj)))
    have Vg:=p2.out v3 fun j hj=>Ib j (DN j (abx _ (abx _ hj)))
    refine⟨⟨DB,ht6.rl,Vg.rw⟩,ht6,Vg,fun j hj=>⟨(R5.dt j hj).1,fun z => ?_⟩,fun j hj z => ?_⟩
    ·rcases pT j z with y | y
     ·exact (R5.dt j hj).2 y
     ·have:=R5.t.rl.1.lt j hj;omega
    ·rcases pT j hj with y | y
     ·exact R5.ds j y z
     ·have:=R5.v.d.lt j z;omega
   have fR:lX { R with sg:=R.sg++[name] }:=⟨⟨hk.sm.n,hk.sm.a,hk.sm.r,by show (R.sg++[name]).length<=1000;rw[aa0];simp;omega⟩,hk.len,hk.jn⟩
   obtain⟨H8,t1,t2,t3,t4⟩:=Ml (R:={ R with sg:=R.sg++[name] }) v2 RO7 (fun z=>by have:=DN _ z;omega) fR.sm fR.len fR.jn
   have It:∀ j∈ak ay,H.next+3<=j:=fun j hj=>by have:=r4 j (abx _ (abA _ hj));omega
   have cQ8:=((((qL.out r3 (by simp)).out s3 (by rw[No];omega)).out p3 (WU _ (by omega))).out v3 (by rw[No];omega)).out t4 fun z=>(aaY.1 z).elim (fun e=>by omega) fun z=>by have:=It _ z;omega
   generalize ig { R with sg:=R.sg++[name] }=R8 at *
   have k8:av H8 H.next 0 4=some (rv aw R8.st ay wm):=t2.av 4 0 (by simp)
   obtain⟨H9,w1,w2,w3,w4⟩:=fN (n:=4) (vs:=rv aw R8.st ay wm) cQ8 rfl rfl (ones _ _ p5)
   have k9:av H9 (H.next+2) 0 4=some (rv aw R8.st ay wm):=w2.av 4 0 (by simp)
   have out:=gF (gF (gF (gF (gF (gW.trans r3) s3 (kf (aaH _))) p3 (fun j hj=>by have:=r4 j (abx _ (abx _ hj));omega)) v3 (kf (aaH _))) t4 (fun j hj=>(aaY.1 hj).elim (fun e=>by omega) fun z=>by have:=It _ z;omega)) w3 (kf (by omega))
   refine⟨aw,bh,ay,wm,H9,JK ?_,t3.out w3 (fun j hj=>by rw[No];have:=DN j hj;omega),out,fun j hj=>by have:=DN j hj;omega⟩
   unfold B9
   simp(disch:=first|exact zqz|fail)only[aW,dq,n1,hAS,nS,dh,k1,d0,k3,kS,ou,k0,f1,k4,r1,s1,Rr,kS5,iM,v1,t1,k8,w1,k9,ar,au,aj,ai,simprocAttr]
def xy (H:Hp)(i:Nat)(s:List Nat)(pos:Nat):Prop:=i<H.next/\H.h.get i=some (.sA s pos)
def DL (H:Hp)(s:List Nat):Hp:=⟨H.h.put 34 H.next (.sA s 0),H.next+1⟩
theorem XZ {t:TypeId}(hu:P.underlying t=some .string)(s:List Nat)(H:Hp):xF P t (.str s) H=some (.ptr H.next 0,DL H s):=by
 unfold xF
 rw[hu];rfl
theorem Z1 (H:Hp)(s:List Nat):xy (DL H s) H.next s 0:=⟨aif _,by show (Tr.put 34 H.h H.next _).get H.next=_;rw[Tr.put,Tr.fj,if_pos rfl]⟩
theorem abH (H:Hp)(s:List Nat):Out [] H (DL H s):=⟨afu _,fun j hj _=>by show (Tr.put 34 H.h H.next _).get j=_;rw[Tr.put,Tr.fj,if_neg (by omega)]⟩
theorem xy.out {H H':Hp}{i pos:Nat}{s:List Nat}{S:List Nat}(h:xy H i s pos)(k:Out S H H')(hi:i∉S):xy H' i s pos:=⟨adW h.1 k.1,by rw[k.2 i h.1 hi];exact h.2⟩
theorem aaP {H:Hp}{i pos b:Nat}{s:List Nat}(h:xy H i s pos)(hb:s[pos]? = some b)(h7:b<128) :
  ∃ H',vV (.ptr i 0) true H=some (.tuple [.bool true,.int .i64 (pos:Nat),.int .i32 (b:Nat)],H')/\xy H' i s (pos+1)/\Out [i] H H'/\H'.next=H.next:=by
 have hl:=(aas.1 hb).1
 have hd:s.drop pos=b::s.drop (pos+1):=by
  rw[ajb hl]
  rw[aau hl] at hb
  cases hb;rfl
 refine⟨Am.setObj H i (.sA s (pos+1)),?_,⟨h.1,by rw[Lj,if_pos rfl]⟩,⟨aaH _,fun j _ hn=>by rw[Lj,if_neg (by simpa using hn)]⟩,rfl⟩
 have h8:Nat.blt b 128=true:=by rw[ad5];exact h7
 unfold vV
 simp only[h.2,hd,h8,cond_true]
theorem Yt {H:Hp}{i pos:Nat}{s:List Nat}(h:xy H i s pos)(hp:s.length<=pos):vV (.ptr i 0) true H=some (.tuple [.bool false],H):=by
 have hd:s.drop pos=[]:=List.drop_eq_nil_of_le hp
 unfold vV
 simp only[h.2,hd]
structure Ev where
 kd:Int
 rn:Int
 tk:Int
 ty:Int
 n:Int
 nm:aq
 ky:aq
 dt:aq
def aG (e:Ev):List AV:=[.int .i64 e.kd,.int .i64 e.rn,.int .i64 e.tk,.int .i64 e.ty,.int .i64 e.n,.str e.nm,.str e.ky,.str e.dt]
def fieldsM (k:Int):aq:=
 if k=1 then [77,68] else if k=2 then [82,77,75] else if k=3\/k=5 then [82,84,89] else if k=4 then [82,84,89,68] else if k=6\/k=9 then [78] else if k=7 then [82,77] else if k=8 then [82] else []
def vD (n a b:Int):Bool:=decide (a<=n)&&decide (n<=b)
noncomputable def rE (e:Ev)(c:Nat):Bool:=
 if c=82 then vD e.rn 1 64 else if c=84 then vD e.tk 0 15 else if c=89 then vD e.ty 1 9 else if c=78 then vD e.n 1 (if e.kd=9 then 1048575 else 1099511627776)
 else if c=77 then uL e.nm else if c=75 then decide (e.ky.length<=16) else if e.kd=1 then decide (e.dt.length<=900) else decide (e.dt.length<=64)
def HD (e x:Ev)(c:Nat):Ev:=
 if c=82 then { x with rn:=e.rn } else if c=84 then { x with tk:=e.tk } else if c=89 then { x with ty:=e.ty } else if c=78 then { x with n:=e.n }
 else if c=77 then { x with nm:=e.nm } else if c=75 then { x with ky:=e.ky } else if c=68 then { x with dt:=e.dt } else x
def xH (k:Int):Ev:=⟨k,0,0,0,0,[],[],[]⟩
def Bg (e:Ev)(l:aq):Ev:=l.foldl (HD e) (xH e.kd)
def yt (a b:Ev):Bool:=(a.kd==b.kd)&&((a.rn==b.rn)&&((a.tk==b.tk)&&((a.ty==b.ty)&&((a.n==b.n)&&((a.nm==b.nm)&&((a.ky==b.ky)&&(a.dt==b.dt)))))))
noncomputable def uW (e:Ev):Bool := !(fieldsM e.kd==[])&&(yt (Bg e (fieldsM e.kd)) e&&(fieldsM e.kd).all (rE e))
theorem nf (e:Ev):(aG e).length=8:=rfl
theorem XI (e:Ev):(aG e)[0]? = some (.int .i64 e.kd)/\(aG e)[1]? = some (.int .i64 e.rn)/\(aG e)[2]? = some (.int .i64 e.tk)/\(aG e)[3]? = some (.int .i64 e.ty)/\(aG e)[4]? = some (.int .i64 e.n)/\(aG e)[5]? = some (.str e.nm)/\(aG e)[6]? = some (.str e.ky)/\(aG e)[7]? = some (.str e.dt):=⟨rfl,rfl,rfl,rfl,rfl,rfl,rfl,rfl⟩
theorem Ot (k:Int)(H:Hp):cK (.func (.func 48) [] []) [.int .i64 k] H=some (.str (fieldsM k),H):=by
 refine afM ?_
 unfold abP fieldsM
 by_cases h1:k=1
 ·subst h1;simp only[aj,ai,simprocAttr,↓reduceIte]
 have b1:(k==1)=false:=by simp[h1]
 by_cases h2:k=2
 ·subst h2;simp only[b1,aj,ai,simprocAttr]<;>rfl
 have b2:(k==2)=false:=by simp[h2]
 by_cases h3:k=3
 ·subst h3;simp only[b1,b2,aj,ai,simprocAttr]<;>rfl
 have b3:(k==3)=false:=by simp[h3]
 by_cases h5:k=5
 ·subst h5;simp only[b1,b2,b3,aj,ai,simprocAttr]<;>rfl
 have b5:(k==5)=false:=by simp[h5]
 by_cases h4:k=4
 ·subst h4;simp only[b1,b2,b3,b5,aj,ai,simprocAttr]<;>rfl
 have b4:(k==4)=false:=by simp[h4]
 by_cases h6:k=6
 ·subst h6;simp only[b1,b2,b3,b5,b4,aj,ai,simprocAttr]<;>rfl
 have b6:(k==6)=false:=by simp[h6]
 by_cases h9:k=9
 ·subst h9;simp only[b1,b2,b3,b5,b4,b6,aj,ai,simprocAttr]<;>rfl
 have b9:(k==9)=false:=by simp[h9]
 by_cases h7:k=7
 ·subst h7;simp only[b1,b2,b3,b5,b4,b6,b9,aj,ai,simprocAttr]<;>rfl
 have b7:(k==7)=false:=by simp[h7]
 by_cases h8:k=8
 ·subst h8;simp only[b1,b2,b3,b5,b4,b6,b9,b7,aj,ai,simprocAttr]<;>rfl
 have b8:(k==8)=false:=by simp[h8]
 simp only[b1,b2,b3,b5,b4,b6,b9,b7,b8,h1,h2,h3,h4,h5,h6,h7,h8,h9,or_self,↓reduceIte,aj,ai,simprocAttr]
theorem Pe (n a b:Int)(H:Hp):cK (.func (.func 87) [] []) [.int .i64 n,.int .i64 a,.int .i64 b] H=some (.bool (vD n a b),H):=by
 refine aei ?_
 unfold Xh vD
 by_cases h1:a<=n
 ·simp(disch:=first|exact zqz|fail)only[h1,aeV,ar,au,aj,ai,simprocAttr]
 ·simp(disch:=first|exact zqz|fail)only[h1,ae8,ar,au,aj,ai,simprocAttr]
theorem ady (e:Ev)(c:Nat)(H:Hp):∃ H',cK (.func (.func 52) [] []) [.agg (aG e),.int .i32 (c:Nat)] H=some (.bool (rE e c),H')/\Out [] H H':=by
 have aW:bx 26 (.agg (aG e)) H=some (H.next,al H (aG e) 26 0):=iW (by rw[nf];omega)
 have o1:=aJ H (aG e) 26 0
 have c1:=bo H (aG e) 26 0
 generalize al H (aG e) 26 0=H1 at *
 obtain⟨e0,e1,e2,e3,e4,e5,e6,e7⟩:=XI e
 have k0:=c1.cellAt e0
 have k1:=c1.cellAt e1
 have k2:=c1.cellAt e2
 have k3:=c1.cellAt e3
 have k4:=c1.cellAt e4
 have k5:=c1.cellAt e5
 have k6:=c1.cellAt e6
 have k7:=c1.cellAt e7
 have hd:∀ n:Nat,c≠n->(((c:Nat):Int)==(n:Nat))=false:=fun n hn=>by rw[beq_eq_false_iff_ne];omega
 refine⟨H1,al1 ?_,o1⟩
 unfold Pr rE
 by_cases h1:c=82
 ·subst h1;simp(disch:=first|exact zqz|fail)only[aW,k1,Pe,↓reduceIte,ae1,ar,au,aj,ai,simprocAttr]
 have b1:(((c:Nat):Int)==82)=false:=hd 82 h1
 rw[if_neg h1]
 by_cases h2:c=84
 ·subst h2;simp(disch:=first|exact zqz|fail)only[aW,k2,Pe,↓reduceIte,ae1,ar,au,aj,ai,simprocAttr]
 have b2:(((c:Nat):Int)==84)=false:=hd 84 h2
 rw[if_neg h2]
 by_cases h3:c=89
 ·subst h3;simp(disch:=first|exact zqz|fail)only[aW,k3,Pe,↓reduceIte,ae1,ar,au,aj,ai,simprocAttr]
 have b3:(((c:Nat):Int)==89)=false:=hd 89 h3
 rw[if_neg h3]
 by_cases h4:c=78
 ·subst h4
  rw[if_pos rfl]
  by_cases hk:e.kd=9
  ·have bk:(e.kd==9)=true:=by simp[hk]
   rw[if_pos hk]
   unfold vD
   by_cases hn:1<=e.n
   ·simp(disch:=first|exact zqz|fail)only[aW,k0,k4,bk,hn,aeV,ae1,ar,au,aj,ai,simprocAttr]
   ·simp(disch:=first|exact zqz|fail)only[aW,k0,k4,bk,hn,ae8,ae1,ar,au,aj,ai,simprocAttr]
  ·have bk:(e.kd==9)=false:=by simp[hk]
   rw[if_neg hk]
   unfold vD
   by_cases hn:1<=e.n
   ·simp(disch:=first|exact zqz|fail)only[aW,k0,k4,bk,hn,aeV,ae1,ar,au,aj,ai,simprocAttr]
   ·simp(disch:=first|exact zqz|fail)only[aW,k0,k4,bk,hn,ae8,ae1,ar,au,aj,ai,simprocAttr]
 have b4:(((c:Nat):Int)==78)=false:=hd 78 h4
 rw[if_neg h4]
 by_cases h5:c=77
 ·subst h5;simp(disch:=first|exact zqz|fail)only[aW,k5,IG,↓reduceIte,ae1,ar,au,aj,ai,simprocAttr]
 have b5:(((c:Nat):Int)==77)=false:=hd 77 h5
 rw[if_neg h5]
 have hle:∀ (a n:Nat),decide (((a:Nat):Int)<=((n:Nat):Int))=decide (a<=n):=fun a n=>by simp
 by_cases h6:c=75
 ·subst h6
  have:=hle e.ky.length 16
  rw[show (((16:Nat):Int))=16 from rfl] at this
  simp(disch:=first|exact zqz|fail)only[aW,k6,this,↓reduceIte,ae1,ar,au,aj,ai,simprocAttr]
 have b6:(((c:Nat):Int)==75)=false:=hd 75 h6
 rw[if_neg h6]
 by_cases h7:e.kd=1
 ·have b7:(e.kd==1)=true:=by simp[h7]
  have:=hle e.dt.length 900
  rw[show (((900:Nat):Int))=900 from rfl] at this
  rw[if_pos h7]
  simp(disch:=first|exact zqz|fail)only[aW,k0,k7,b1,b2,b3,b4,b5,b6,b7,this,ar,au,aj,ai,simprocAttr]
 ·have b7:(e.kd==1)=false:=by simp[h7]
  have:=hle e.dt.length 64
  rw[show (((64:Nat):Int))=64 from rfl] at this
  rw[if_neg h7]
  simp(disch:=first|exact zqz|fail)only[aW,k0,k7,b1,b2,b3,b4,b5,b6,b7,this,ar,au,aj,ai,simprocAttr]
theorem aan {e:Ev}{E X it:Nat}{l:aq}{y:AV}(hl:∀ c∈l,c<128)(h1:E≠X)(h2:E≠it)(h3:X≠it):∀ (r:aq) (i:Nat) (H:Hp) (x:Ev),l.drop i=r->xy H it l i->Cs H E (aG e) 26 0->Cs H X (aG x) 26 0->
  ∃ H',(∀ bL:K.Fn 2,Cl JN GO cK bL (.ptr E 0) y (.ptr X 0) (.ptr it 0) H=bL y (.ptr X 0) H')/\Cs H' X (aG (r.foldl (HD e) x)) 26 0/\Out [it,X] H H'/\H'.next=H.next
 | [],i,H,x,h,hS,hE,hX=>by
  have hi:l.length<=i:=by
   rcases akL i l.length with q | q
   ·rw[ajb q] at h;cases h
   ·exact q
  refine⟨H,fun bL => ?_,hX,Out.refl _ _,rfl⟩
  rw[wT]
  simp only[ur,Yt hS hi,aj,ai,simprocAttr]
 | c::r,i,H,x,h,hS,hE,hX=>by
  obtain⟨g1,g2,g3⟩:=gy h
  obtain⟨H1,n1,n2,n3,n4⟩:=aaP hS g2 (hl c (aaF g2))
  have yo:=hE.out n3 (by simpa using h2)
  have hX1:=hX.out n3 (by simpa using h3)
  obtain⟨e0,e1,e2,e3,e4,e5,e6,e7⟩:=XI e
  have hd:∀ n:Nat,c≠n->(((c:Nat):Int)==(n:Nat))=false:=fun n hn=>by rw[beq_eq_false_iff_ne];omega
  have fin:∀ (H2:Hp) (x':Ev),Cs H2 X (aG x') 26 0->Out [X] H1 H2->H2.next=H1.next->HD e x c=x'->∃ H',(∀ bL:K.Fn 2,Cl JN GO cK bL (.ptr E 0) y (.ptr X 0) (.ptr it 0) H2=bL y (.ptr X 0) H')/\Cs H' X (aG ((c::r).foldl (HD e) x)) 26 0/\Out [it,X] H H'/\H'.next=H.next:=by
   intro H2 x' oC ho hn hx
   obtain⟨H',i1,i2,i3,i4⟩:=aan (y:=y) hl h1 h2 h3 r (i+1) H2 x' g3 (n2.out ho (by simpa using fun q=>h3 q.symm)) (yo.out ho (by simpa using h1)) oC
   refine⟨H',i1,by rw[List.foldl_cons,hx];exact i2,((n3.mono (fun j hj=>by simp at hj;simp[hj])).trans (ho.mono (fun j hj=>by simp at hj;simp[hj]))).trans i3,by omega⟩
  have sv:∀ (o:Nat) (v:AV),o<8->ba v=true->∃ H2,st 1 (.ptr X o) v H1=some H2/\Cs H2 X ((aG x).set o v) 26 0/\Out [X] H1 H2/\H2.next=H1.next:=fun o v ho hv=>fG hX1 (by decide) (by rw[nf];exact ho) hv
  by_cases q1:c=82
  ·subst q1
   obtain⟨H2,s1,s2,s3,s4⟩:=sv 1 (.int .i64 e.rn) (by omega) rfl
   obtain⟨H',i1,i2,i3,i4⟩:=fin H2 { x with rn:=e.rn } s2 s3 s4 rfl
   refine⟨H',fun bL => ?_,i2,i3,i4⟩
   rw[wT]
   simp(disch:=first|exact zqz|fail)only[ur,n1,yo.cellAt e1,s1,i1,ae1,ar,au,aj,ai,simprocAttr]
  have b1:(((c:Nat):Int)==82)=false:=hd 82 q1
  by_cases q2:c=84
  ·subst q2
   obtain⟨H2,s1,s2,s3,s4⟩:=sv 2 (.int .i64 e.tk) (by omega) rfl
   obtain⟨H',i1,i2,i3,i4⟩:=fin H2 { x with tk:=e.tk } s2 s3 s4 rfl
   refine⟨H',fun bL => ?_,i2,i3,i4⟩
   rw[wT]
   simp(disch:=first|exact zqz|fail)only[ur,n1,yo.cellAt e2,s1,i1,ae1,ar,au,aj,ai,simprocAttr]
  have b2:(((c:Nat):Int)==84)=false:=hd 84 q2
  by_cases q3:c=89
  ·subst q3
   obtain⟨H2,s1,s2,s3,s4⟩:=sv 3 (.int .i64 e.ty) (by omega) rfl
   obtain⟨H',i1,i2,i3,i4⟩:=fin H2 { x with ty:=e.ty } s2 s3 s4 rfl
   refine⟨H',fun bL => ?_,i2,i3,i4⟩
   rw[wT]
   simp(disch:=first|exact zqz|fail)only[ur,n1,yo.cellAt e3,s1,i1,ae1,ar,au,aj,ai,simprocAttr]
  have b3:(((c:Nat):Int)==89)=false:=hd 89 q3
  by_cases q4:c=78
  ·subst q4
   obtain⟨H2,s1,s2,s3,s4⟩:=sv 4 (.int .i64 e.n) (by omega) rfl
   obtain⟨H',i1,i2,i3,i4⟩:=fin H2 { x with n:=e.n } s2 s3 s4 rfl
   refine⟨H',fun bL => ?_,i2,i3,i4⟩
   rw[wT]
   simp(disch:=first|exact zqz|fail)only[ur,n1,yo.cellAt e4,s1,i1,ae1,ar,au,aj,ai,simprocAttr]
  have b4:(((c:Nat):Int)==78)=false:=hd 78 q4
  by_cases q5:c=77
  ·subst q5
   obtain⟨H2,s1,s2,s3,s4⟩:=sv 5 (.str e.nm) (by omega) rfl
   obtain⟨H',i1,i2,i3,i4⟩:=fin H2 { x with nm:=e.nm } s2 s3 s4 rfl
   refine⟨H',fun bL => ?_,i2,i3,i4⟩
   rw[wT]
   simp(disch:=first|exact zqz|fail)only[ur,n1,yo.cellAt e5,s1,i1,ae1,ar,au,aj,ai,simprocAttr]
  have b5:(((c:Nat):Int)==77)=false:=hd 77 q5
  by_cases q6:c=75
  ·subst q6
   obtain⟨H2,s1,s2,s3,s4⟩:=sv 6 (.str e.ky) (by omega) rfl
   obtain⟨H',i1,i2,i3,i4⟩:=fin H2 { x with ky:=e.ky } s2 s3 s4 rfl
   refine⟨H',fun bL => ?_,i2,i3,i4⟩
   rw[wT]
   simp(disch:=first|exact zqz|fail)only[ur,n1,yo.cellAt e6,s1,i1,ae1,ar,au,aj,ai,simprocAttr]
  have b6:(((c:Nat):Int)==75)=false:=hd 75 q6
  by_cases q7:c=68
  ·subst q7
   obtain⟨H2,s1,s2,s3,s4⟩:=sv 7 (.str e.dt) (by omega) rfl
   obtain⟨H',i1,i2,i3,i4⟩:=fin H2 { x with dt:=e.dt } s2 s3 s4 rfl
   refine⟨H',fun bL => ?_,i2,i3,i4⟩
   rw[wT]
   simp(disch:=first|exact zqz|fail)only[ur,n1,yo.cellAt e7,s1,i1,ae1,ar,au,aj,ai,simprocAttr]
  have b7:(((c:Nat):Int)==68)=false:=hd 68 q7
  obtain⟨H',i1,i2,i3,i4⟩:=fin H1 x hX1 (Out.refl _ _) rfl (by unfold HD;rw[if_neg q1,if_neg q2,if_neg q3,if_neg q4,if_neg q5,if_neg q6,if_neg q7])
  refine⟨H',fun bL => ?_,i2,i3,i4⟩
  rw[wT]
  simp(disch:=first|exact zqz|fail)only[ur,n1,b1,b2,b3,b4,b5,b6,b7,i1,ar,au,aj,ai,simprocAttr]
abbrev zE:List AV:=[(.int .i64 0),(.int .i64 0),(.int .i64 0),(.int .i64 0),(.int .i64 0),(.str []),(.str []),(.str [])]
theorem aeG (e:Ev){l:aq}(hl:∀ c∈l,c<128)(H:Hp):∃ H',cK (.func (.func 49) [] []) [.agg (aG e),.str l] H=some (.agg (aG (Bg e l)),H')/\Out [] H H':=by
 have aW:bx 26 (.agg (aG e)) H=some (H.next,al H (aG e) 26 0):=iW (by rw[nf];omega)
 have o1:=aJ H (aG e) 26 0
 have c1:=bo H (aG e) 26 0
 have n1:(al H (aG e) 26 0).next=H.next+1:=rfl
 generalize al H (aG e) 26 0=H1 at *
 have dN:aE H1 zE 26 0=some (H.next+1,al H1 zE 26 0):=by rw[<-n1];exact gB (by simp)
 have o2:=aJ H1 zE 26 0
 have c2:=bo H1 zE 26 0
 have n2:(al H1 zE 26 0).next=H.next+2:=by rw[bI,n1]
 rw[n1] at c2
 generalize dh:al H1 zE 26 0=H2 at *
 have k0:cellAt H2 H.next 0=some (.int .i64 e.kd):=(c1.out o2 (by simp)).cellAt rfl
 have hf:fl zE [(0,1,.int .i64 e.kd)]=some (aG (xH e.kd)):=rfl
 have aqO:aE H2 zE 26 0=some (H.next+2,al H2 zE 26 0):=by rw[<-n2];exact gB (by simp)
 have aC:st 8 (.ptr (H.next+2) 0) (.agg (aG (xH e.kd))) (al H2 zE 26 0)=some (al H2 (aG (xH e.kd)) 26 0):=iV rfl rfl n2.symm (by decide) rfl
 have o3:=aJ H2 (aG (xH e.kd)) 26 0
 have c3:=bo H2 (aG (xH e.kd)) 26 0
 have n3:(al H2 (aG (xH e.kd)) 26 0).next=H.next+3:=by rw[bI,n2]
 rw[n2] at c3
 generalize al H2 (aG (xH e.kd)) 26 0=H3 at *
 have zU:xF P 9 (.str l) H3=some (.ptr (H.next+3) 0,DL H3 l):=by rw[<-n3];exact XZ Tryz.underlying9 l H3
 have o4:=abH H3 l
 have s4:=Z1 H3 l
 rw[n3] at s4
 have cE:=((c1.out o2 (by simp)).out o3 (by simp)).out o4 (by simp)
 have cV:=(c2.out o3 (by simp)).out o4 (by simp)
 have cX:=c3.out o4 (by simp)
 obtain⟨H5,i1,i2,i3,i4⟩:=aan (y := .ptr (H.next+1) 0) hl (by omega) (by omega) (by omega) l 0 (DL H3 l) (xH e.kd) ada s4 cE cX
 have cV5:=cV.out i3 (by simp)
 have k8:av H5 (H.next+2) 0 8=some (aG (Bg e l)):=i2.av 8 0 (by rw[nf];omega)
 obtain⟨H6,t1,t2,t3,t4⟩:=fN (n:=8) (vs:=aG (Bg e l)) cV5 rfl rfl rfl
 have k9:av H6 (H.next+1) 0 8=some (aG (Bg e l)):=t2.av 8 0 (by rw[nf];omega)
 have out:Out [] H H6:=gF (gF (((o1.trans o2).trans o3).trans o4) i3 (fun j hj=>by simp at hj;omega)) t3 (kf (by omega))
 refine⟨H6,amj ?_,out⟩
 unfold PD
 simp(disch:=first|exact zqz|fail)only[aW,n1,dh,n2,k0,hf,aC,zU,i1,k8,t1,k9,ar,au,aj,ai,simprocAttr]
theorem ZX (a b c d e:Int)(f g h:aq)(a' b' c' d' e':Int)(f' g' h':aq)(H:Hp):dC P 50 26 (.agg [.int .i64 a,.int .i64 b,.int .i64 c,.int .i64 d,.int .i64 e,.str f,.str g,.str h]) (.agg [.int .i64 a',.int .i64 b',.int .i64 c',.int .i64 d',.int .i64 e',.str f',.str g',.str h']) H=rR (fun z:Bool=>some z) [a==a',b==b',c==c',d==d',e==e',f==f',g==g',h==h']:=by kernel_rfl
theorem X3:Program.eqGuardType P P.depth 26=false:=by kernel_rfl
theorem AP:∀ l:List Bool,rR (fun z:Bool=>some z) l=some (l.all id)
 | []=>rfl
 | b::l=>by
  unfold rR
  rw[AP l,List.all_cons]
  cases b<;>rfl
theorem Wy (a b:Ev)(H:Hp):gA P .eql 26 false (.agg (aG a)) (.agg (aG b))=true/\eA P .eql 26 (.agg (aG a)) (.agg (aG b)) H=some (.bool (yt a b)):=by
 constructor
 ·show (!(Program.eqGuardType P P.depth 26))=true
  rw[X3];rfl
 ·show (dC P 50 26 (.agg (aG a)) (.agg (aG b)) H).map (fun b=>AV.bool b)=_
  have h:dC P 50 26 (.agg (aG a)) (.agg (aG b)) H=_:=ZX a.kd a.rn a.tk a.ty a.n a.nm a.ky a.dt b.kd b.rn b.tk b.ty b.n b.nm b.ky b.dt H
  rw[h,AP]
  simp[yt]
def findF (p:Nat->Bool):aq->Nat->Option Nat
 | [],_=>none
 | c::r,i=>if p c then some i else findF p r (i+1)
theorem VG (p:Nat->Bool):∀ (l:aq) (i:Nat),(findF p l i).isSome=l.any p
 | [],i=>rfl
 | c::r,i=>by
  unfold findF
  rw[List.any_cons]
  cases h:p c with
  | true=>rfl
  | false=>rw[Bool.false_or];exact VG p r (i+1)
theorem XD {fv:AV}{it:Nat}{l:aq}{p:Nat->Bool}{H0:Hp}(hl:∀ c∈l,c<128)(hp:∀ H,Out [] H0 H->∀ c∈l,∃ H',cK fv [.int .i32 (c:Nat)] H=some (.bool (p c),H')/\Out [] H H')(hit:H0.next<=it):∀ (r:aq) (i:Nat) (H:Hp),l.drop i=r->xy H it l i->Out [] H0 H->
  ∃ H',(∀ j3:K.Fn 0,GK JN GO cK j3 fv (.bool true) (.ptr it 0) H=match findF p r i with | some k=>some (.int .i64 (k:Nat),H') | none=>j3 H')/\Out [] H0 H'
 | [],i,H,h,hS,hO=>by
  have hi:l.length<=i:=by
   rcases akL i l.length with q | q
   ·rw[ajb q] at h;cases h
   ·exact q
  refine⟨H,fun j3 => ?_,hO⟩
  rw[Ov]
  simp only[JB,Yt hS hi,aj,ai,simprocAttr]
  rfl
 | c::r,i,H,h,hS,hO=>by
  obtain⟨g1,g2,g3⟩:=gy h
  obtain⟨H1,n1,n2,n3,n4⟩:=aaP hS g2 (hl c (aaF g2))
  have zo:Out [] H0 H1:=gF hO n3 (kf hit)
  obtain⟨H2,f1,f2⟩:=hp H1 zo c (aaF g2)
  have Dy:=zo.trans f2
  unfold findF
  cases hc:p c with
  | true=>
   refine⟨H2,fun j3 => ?_,Dy⟩
   rw[Ov]
   rw[hc] at f1
   have bt:(true==true)=true:=rfl
   simp(disch:=first|exact zqz|fail)only[JB,n1,f1,bt,↓reduceIte,ar,au,aj,ai,simprocAttr]
  | false=>
   obtain⟨H',i1,i2⟩:=XD hl hp hit r (i+1) H2 g3 (n2.out f2 (by simp)) Dy
   refine⟨H',fun j3 => ?_,i2⟩
   rw[Ov]
   rw[hc] at f1
   have bt:(false==true)=false:=rfl
   simp(disch:=first|exact zqz|fail)only[JB,n1,f1,bt,i1,abz,↓reduceIte,ar,au,aj,ai,simprocAttr]
theorem akl {fv:AV}{l:aq}{p:Nat->Bool}{H0:Hp}(hl:∀ c∈l,c<128)(hp:∀ H,Out [] H0 H->∀ c∈l,∃ H',cK fv [.int .i32 (c:Nat)] H=some (.bool (p c),H')/\Out [] H H') :
  ∃ H',cK (.func (.func 50) [] []) [.str l,fv] H0=some (.bool (l.any p),H')/\Out [] H0 H':=by
 have zU:=XZ Tryz.underlying9 l H0
 have o1:=abH H0 l
 have s1:=Z1 H0 l
 obtain⟨H',i1,i2⟩:=XD hl hp (aaH _) l 0 (DL H0 l) ada s1 o1
 refine⟨H',acs ?_,i2⟩
 have h1:cK (.func (.func 115) [] []) [.str l,fv,.bool true] H0=some (.int .i64 (lB (findF p l 0)),H'):=by
  refine afc ?_
  unfold VF
  simp only[zU,i1,aj,ai,simprocAttr]
  cases findF p l 0<;>rfl
 have h2:cK (.func (.func 86) [] []) [.str l,fv] H0=some (.int .i64 (lB (findF p l 0)),H'):=by
  refine anw ?_
  unfold WL
  simp only[h1,aj,ai,simprocAttr]
 unfold Xs
 simp only[h2,Gn,VG,aj,ai,simprocAttr]
theorem ak9 {e:Ev}{E:Nat}{H:Hp}(hE:Cs H E (aG e) 26 0)(c:Nat):∃ H',cK (.func (.func 51) [] [.ptr E 0]) [.int .i32 (c:Nat)] H=some (.bool (!rE e c),H')/\Out [] H H':=by
 obtain⟨H',h1,h2⟩:=ady e c H
 have k8:av H E 0 8=some (aG e):=hE.av 8 0 (by rw[nf];omega)
 refine⟨H',amT ?_,h2⟩
 unfold V0
 simp(disch:=first|exact zqz|fail)only[k8,h1,ar,au,aj,ai,simprocAttr]
theorem TW (k:Int):∀ c∈fieldsM k,c<128:=by
 unfold fieldsM
 intro c hc
 repeat' split at hc
 all_goals first | (simp at hc;omega) | (simp at hc)
theorem ab1 (e:Ev)(H:Hp):∃ H',cK (.func (.func 21) [] []) [.agg (aG e)] H=some (.bool (uW e),H')/\Out [] H H':=by
 have aW:bx 26 (.agg (aG e)) H=some (H.next,al H (aG e) 26 0):=iW (by rw[nf];omega)
 have o1:=aJ H (aG e) 26 0
 have c1:=bo H (aG e) 26 0
 generalize al H (aG e) 26 0=H1 at *
 have k0:cellAt H1 H.next 0=some (.int .i64 e.kd):=c1.cellAt rfl
 have k8:av H1 H.next 0 8=some (aG e):=c1.av 8 0 (by rw[nf];omega)
 unfold uW
 cases hf:(fieldsM e.kd==[]) with
 | true=>
  refine⟨H1,Qt ?_,o1⟩
  unfold Lv
  simp(disch:=first|exact zqz|fail)only[aW,k0,Ot,hf,ae8,ar,au,aj,ai,simprocAttr]
 | false=>
  obtain⟨H2,h1,h2⟩:=aeG e (TW e.kd) H1
  have c2:=c1.out h2 (by simp)
  have k9:av H2 H.next 0 8=some (aG e):=c2.av 8 0 (by rw[nf];omega)
  obtain⟨q1,q2⟩:=Wy (Bg e (fieldsM e.kd)) e H2
  have hs:same (.agg (aG e)) (.agg (aG e))=true:=by
   have hk:(IntKind.i64==IntKind.i64)=true:=rfl
   simp[same,aG,tA,n0]
  cases he:yt (Bg e (fieldsM e.kd)) e with
  | false=>
   refine⟨H2,Qt ?_,o1.trans h2⟩
   rw[he] at q2
   unfold Lv
   simp(disch:=first|exact zqz|fail)only[aW,k0,Ot,hf,k8,h1,k9,q1,lf,q2,lK hs,ae8,aeV,ar,au,aj,ai,simprocAttr]
  | true=>
   obtain⟨H3,h3,h4⟩:=akl (fv := .func (.func 51) [] [.ptr H.next 0]) (p:=fun c => !rE e c) (H0:=H2) (TW e.kd) (fun H' k c _=>ak9 (c2.out k (by simp)) c)
   refine⟨H3,Qt ?_,(o1.trans h2).trans h4⟩
   rw[he] at q2
   have jZ:(!((fieldsM e.kd).any fun c => !rE e c))=(fieldsM e.kd).all (rE e):=by
    rw[List.not_any_eq_all_not]
    simp
   unfold Lv
   simp(disch:=first|exact zqz|fail)only[aW,k0,Ot,hf,k8,h1,k9,q1,lf,q2,lK hs,h3,jZ,aeV,ar,au,aj,ai,simprocAttr]
abbrev Ky:=aq × aq
def cn (k:Ky):List AV:=[.str k.1,.str k.2]
theorem ZK (a b c d:aq)(H:Hp):dC P 20 80 (.agg [.str a,.str b]) (.agg [.str c,.str d]) H=rR (fun z:Bool=>some z) [a==c,b==d]:=by kernel_rfl
theorem NT {k q:Ky}(h:q≠k)(H:Hp):dC P 20 80 (.agg (cn k)) (.agg (cn q)) H=some false:=by
 have h1:dC P 20 80 (.agg (cn k)) (.agg (cn q)) H=_:=ZK k.1 k.2 q.1 q.2 H
 rw[h1,AP]
 simp only[List.all_cons,List.all_nil,id,Bool.and_true,adG,Bool.and_eq_false_iff,beq_eq_false_iff_ne]
 by_cases h2:k.1=q.1
 ·exact .inr fun h3=>h (Prod.ext h2.symm h3.symm)
 ·exact .inl h2
theorem adE (k:Ky)(H:Hp):dC P 20 80 (.agg (cn k)) (.agg (cn k)) H=some true:=by
 have h1:dC P 20 80 (.agg (cn k)) (.agg (cn k)) H=_:=ZK k.1 k.2 k.1 k.2 H
 rw[h1,AP]
 simp
abbrev Ke:=Ky × Int
def qI (E:List (Ke × Nat)):List ME:=E.map fun x=>⟨.agg (cn x.1.1),.int .i64 x.1.2,x.2⟩
theorem Nn {H:Hp}{k:Ky}:∀ (E:List (Ke × Nat)) (i:Nat),(∀ x∈E,x.1.1≠k)->mz P H 80 (.agg (cn k)) (qI E) i=some none
 | [],i,_=>rfl
 | x::E,i,h=>by
  show mz P H _ (.agg (cn k)) (⟨.agg (cn x.1.1),.int .i64 x.1.2,x.2⟩::qI E) i=_
  unfold mz
  simp only[NT (h x (.head _)) H]
  exact Nn E (i+1) fun y hy=>h y (.tail _ hy)
theorem Zl {H:Hp}{k:Ky}:∀ (E:List (Ke × Nat)),(∀ x∈E,x.1.1≠k)->vE P H 80 (.agg (cn k)) (qI E)=true
 | [],_=>rfl
 | x::E,h=>by
  show vE P H _ (.agg (cn k)) (⟨.agg (cn x.1.1),.int .i64 x.1.2,x.2⟩::qI E)=_
  unfold vE
  simp only[NT (h x (.head _)) H]
  exact Zl E fun y hy=>h y (.tail _ hy)
theorem Vy {H:Hp}{k:Ky}{x:Ke × Nat}{B:List (Ke × Nat)}(hx:x.1.1=k)(hB:∀ y∈B,y.1.1≠k):∀ (A:List (Ke × Nat)) (i:Nat),(∀ y∈A,y.1.1≠k)->
  ∃ j,mz P H 80 (.agg (cn k)) (qI (A++x::B)) i=some (some (j,⟨.agg (cn x.1.1),.int .i64 x.1.2,x.2⟩))
 | [],i,_=>by
  refine⟨i,?_⟩
  show mz P H _ (.agg (cn k)) (⟨.agg (cn x.1.1),.int .i64 x.1.2,x.2⟩::qI B) i=_
  unfold mz
  subst hx
  simp only[adE,Zl B hB,cond_true]
 | y::A,i,h=>by
  obtain⟨j,hj⟩:=Vy hx hB A (i+1) fun z hz=>h z (.tail _ hz)
  refine⟨j,?_⟩
  show mz P H _ (.agg (cn k)) (⟨.agg (cn y.1.1),.int .i64 y.1.2,y.2⟩::qI (A++x::B)) i=_
  unfold mz
  simp only[NT (h y (.head _)) H]
  exact hj
theorem OO (k:Ky):nc P 20 80 (.agg (cn k))=true:=by kernel_rfl
def iT (ks:List Ke)(k:Ky):Option Int:=(ks.find? (fun x=>x.1==k)).map (·.2)
theorem Hr {ks:List Ke}{k:Ky}(h:iT ks k=none):∀ x∈ks,x.1≠k:=by
 unfold iT at h
 rw[Option.map_eq_none_iff,List.find?_eq_none] at h
 intro x hx q
 exact h x hx (by rw[q];exact beq_self_eq_true _)
theorem Pn {ks:List Ke}{k:Ky}{id:Int}(h:iT ks k=some id):∃ a b,ks=a++(k,id)::b/\∀ x∈a,x.1≠k:=by
 unfold iT at h
 rw[aaa] at h
 obtain⟨x,h1,rfl⟩:=h
 rw[List.find?_eq_some_iff_append] at h1
 obtain⟨h2,a,b,rfl,h3⟩:=h1
 have:x.1=k:=by simpa using h2
 subst this
 exact⟨a,b,rfl,fun y hy q=>by have:=h3 y hy;rw[q] at this;simp at this⟩
abbrev kv (km:Nat)(lx:AV):List AV:=[.int .i64 128,.map km,lx]
structure KO (H:Hp)(kp km:Nat)(lx:AV)(ks:List Ke):Prop where
 c:Cs H kp (kv km lx) 136 0
 m:∃ bs c,bs.length=ks.length/\Mp H km (qI (ks.zip bs)) c
 l:OL H 80 2 lx (ks.map fun x=>cn x.1)
 nd:(ks.map (·.1)).Nodup
 d1:kp≠km
 d2:∀ j∈ak lx,j≠kp/\j≠km
def zZ (kp km:Nat)(lx:AV):List Nat:=kp::km::ak lx
theorem KO.out {H H':Hp}{kp km:Nat}{lx:AV}{ks:List Ke}{S:List Nat}(h:KO H kp km lx ks)(k:Out S H H')(hs:∀ j∈zZ kp km lx,j∉S):KO H' kp km lx ks:=by
 obtain⟨bs,c,h1,h2⟩:=h.m
 exact⟨h.c.out k (hs _ (.head _)),⟨bs,c,h1,h2.out k (hs _ (.tail _ (.head _)))⟩,h.l.out k fun j hj=>hs j (.tail _ (.tail _ hj)),h.nd,h.d1,h.d2⟩
theorem KO.out0 {H H':Hp}{kp km:Nat}{lx:AV}{ks:List Ke}(h:KO H kp km lx ks)(k:Out [] H H'):KO H' kp km lx ks:=h.out k fun _ _ q=>by cases q
theorem KO.lt {H:Hp}{kp km:Nat}{lx:AV}{ks:List Ke}(h:KO H kp km lx ks):∀ j∈zZ kp km lx,j<H.next:=by
 intro j hj
 obtain⟨bs,c,h1,h2⟩:=h.m
 rcases aaY.1 hj with rfl | hj
 ·exact h.c.1
 ·rcases aaY.1 hj with rfl | hj
  ·exact h2.1
  ·exact h.l.1.rw.lt j hj
theorem aoS (H:Hp):∃ kp km H',cK (.func (.func 44) [] []) [.int .i64 128] H=some (.ptr kp 0,H')/\KO H' kp km .ah []/\Out [] H H'/\H.next<=kp/\H.next<=km:=by
 obtain⟨H1,m1,m2,m3,m4⟩:=KK H
 have hf:fl [(.int .i64 0),.ja,.ah] [(0,1,.int .i64 128),(1,1,.map H.next)]=some (kv H.next .ah):=rfl
 have aW:bx 136 (.agg (kv H.next .ah)) H1=some (H1.next,al H1 (kv H.next .ah) 136 0):=iW (by simp)
 have o2:=aJ H1 (kv H.next .ah) 136 0
 have c2:=bo H1 (kv H.next .ah) 136 0
 refine⟨H1.next,H.next,al H1 (kv H.next .ah) 136 0,ajn ?_,⟨c2,⟨[],0,rfl,m2.out o2 (by simp)⟩,OL.nil _ _ _,by simp,by omega,fun j hj=>by cases hj⟩,m3.trans o2,by omega,aaH _⟩
 unfold Yw
 simp only[anM,Av,Int.reduceLT,if_false,if_true,m1,hf,aW,aj,ai,simprocAttr]
theorem Ir {ks:List Ke}{bs:List Nat}{k:Ky}(h:∀ x∈ks,x.1≠k):∀ y∈ks.zip bs,y.1.1≠k:=fun y hy=>h y.1 (List.of_mem_zip hy).1
theorem apt {a b:List Ke}{x:Ke}{bs:List Nat}(h:bs.length=(a++x::b).length):∃ b1 c b2,(a++x::b).zip bs=a.zip b1++(x,c)::b.zip b2:=by
 have h1:a.length<bs.length:=by rw[h,aa0,aaN];omega
 refine⟨bs.take a.length,bs[a.length],bs.drop (a.length+1),?_⟩
 conv=>lhs;rw[show bs=bs.take a.length++bs[a.length]::bs.drop (a.length+1) by rw[List.getElem_cons_drop,ah8]]
 rw[List.zip_append (by rw[ael];omega)]
 rfl
theorem NW {H:Hp}{km:Nat}{ks:List Ke}(hm:∃ bs c,bs.length=ks.length/\Mp H km (qI (ks.zip bs)) c)(gU:(ks.map (·.1)).Nodup)(k:Ky)(ok:Bool) :
  pZ P 133 (.map km) (.agg (cn k)) ok H=some (bif ok then .tuple [.int .i64 ((iT ks k).getD 0),.bool (iT ks k).isSome] else .int .i64 ((iT ks k).getD 0)):=by
 obtain⟨bs,c,h1,h2⟩:=hm
 have hu:P.underlying 133=some (.map 80 3):=Tryz.underlying133
 have hz:((P.info? 3).bind (·.zero)).bind jr=some (.int .i64 0):=by kernel_rfl
 unfold pZ
 cases hg:iT ks k with
 | none=>
  simp only[hu,OO,cond_true,Ge h2,Nn _ 0 (Ir (bs:=bs) (Hr hg)),hz,aek]
  cases ok<;>rfl
 | some id=>
  obtain⟨a,b,rfl,h3⟩:=Pn hg
  obtain⟨b1,c1,b2,h4⟩:=apt h1
  rw[h4] at h2
  have hb:∀ x∈b,x.1≠k:=by
   intro x hx q
   rw[ad8,adK,aff,aio] at gU
   exact gU.2.1.1 (adD.2 ⟨x,hx,q⟩)
  obtain⟨j,hj⟩:=Vy (H:=H) (x:=((k,id),c1)) (k:=k) rfl (Ir (bs:=b2) hb) (a.zip b1) 0 (Ir h3)
  simp only[hu,OO,cond_true,Ge h2,hj]
  cases ok<;>rfl
theorem Cp (k:Ky):(cn k).length=2:=rfl
theorem acJ {H:Hp}{kp km:Nat}{lx:AV}{ks:List Ke}(h:KO H kp km lx ks)(k:Ky):∃ H',cK (.func (.func 83) [] []) [.ptr kp 0,.agg (cn k)] H=some (.tuple [.int .i64 ((iT ks k).getD 0),.bool (iT ks k).isSome],H')/\Out [] H H':=by
 have aW:bx 80 (.agg (cn k)) H=some (H.next,al H (cn k) 80 0):=iW (by rw[Cp];omega)
 have o1:=aJ H (cn k) 80 0
 have c1:=bo H (cn k) 80 0
 generalize al H (cn k) 80 0=H1 at *
 have h1:=h.out0 o1
 have k1:cellAt H1 kp 1=some (.map km):=h1.c.cellAt rfl
 have k2:av H1 H.next 0 2=some (cn k):=c1.av 2 0 (by rw[Cp];omega)
 have lk:=NW h1.m h1.nd k true
 refine⟨H1,aiM ?_,o1⟩
 unfold Z6
 simp(disch:=first|exact zqz|fail)only[aW,k1,k2,lk,cond_true,ar,au,aj,ai,simprocAttr]
theorem alq {H:Hp}{kp km:Nat}{lx:AV}{ks:List Ke}(h:KO H kp km lx ks)(hn:ks.length<128){k:Ky}(hk:iT ks k=none)(id:Int) :
  ∃ sR H',cK (.func (.func 33) [] []) [.ptr kp 0,.agg (cn k),.int .i64 id] H=some (.tuple [.int .i64 id,.bool true],H')/\KO H' kp km sR (ks++[(k,id)])/\Out (zZ kp km lx) H H'/\∀ j∈ak sR,j∈ak lx\/H.next<=j:=by
 have aW:bx 80 (.agg (cn k)) H=some (H.next,al H (cn k) 80 0):=iW (by rw[Cp];omega)
 have o1:=aJ H (cn k) 80 0
 have c1:=bo H (cn k) 80 0
 have n1:(al H (cn k) 80 0).next=H.next+1:=rfl
 generalize al H (cn k) 80 0=H1 at *
 have h1:=h.out0 o1
 have aI:=h.lt
 have k0:cellAt H1 kp 0=some (.int .i64 128):=h1.c.cellAt rfl
 have k1:cellAt H1 kp 1=some (.map km):=h1.c.cellAt rfl
 have k2:cellAt H1 kp 2=some lx:=h1.c.cellAt rfl
 have kx:av H1 H.next 0 2=some (cn k):=c1.av 2 0 (by rw[Cp];omega)
 have lk:=NW h1.m h1.nd k true
 rw[hk] at lk
 have hlen:=h1.l.rl.len (by decide)
 rw[adV] at hlen
 have dn:(((ks.length:Nat):Int)==128)=false:=by rw[beq_eq_false_iff_ne];omega
 obtain⟨bs,c,b1,b2⟩:=h1.m
 have hu:P.underlying 133=some (.map 80 3):=Tryz.underlying133
 have Ic:qI ((ks++[(k,id)]).zip (bs++[c]))=qI (ks.zip bs)++[⟨.agg (cn k),.int .i64 id,c⟩]:=by
  rw[List.zip_append b1.symm];simp[qI]
 obtain⟨H2,u1,u2,u3,u4⟩:∃ H2,nH P 133 (.map km) (.agg (cn k)) (.int .i64 id) H1=some H2/\Mp H2 km (qI ((ks++[(k,id)]).zip (bs++[c]))) (c+1)/\Out [km] H1 H2/\H2.next=H1.next:=by
  rw[Ic]
  refine⟨_,?_,(b2.set _ _).1,(b2.set _ _).2,rfl⟩
  unfold nH
  simp only[hu,OO,cond_true,b2.2,Nn _ 0 (Ir (bs:=bs) (Hr hk))]
 have hkm:km<H.next:=aI km (.tail _ (.head _))
 have hkp:kp<H.next:=aI kp (.head _)
 have q2:cellAt H2 kp 2=some lx:=by rw[u3.cellAt h1.c.1 (by simpa using h.d1)];exact k2
 have qx:av H2 H.next 0 2=some (cn k):=by rw[u3.av c1.1 (by rw[No];omega)];exact kx
 have hf:fl [(.str []),(.str [])] [(0,2,.agg (cn k))]=some (cn k):=rfl
 have nF:OL H2 80 2 lx (ks.map fun x=>cn x.1):=h1.l.out u3 fun j hj=>by rw[No];exact (h.d2 j hj).2
 have dN:aE H2 (cn k) 80 0=some (H2.next,al H2 (cn k) 80 0):=gB (by rw[Cp];omega)
 obtain⟨sR,H3,p1,p2,p3,p4,p5⟩:=nF.push (fJ:=80) (z:=[(.str []),(.str [])]) (vs:=cn k) rfl rfl (by decide) (by rw[adV];omega)
 have iM:=p1 H2.next rfl
 have c3:Cs H3 kp (kv km lx) 136 0:=(h1.c.out u3 (by simpa using h.d1)).out p3 fun q=>(h.d2 kp q).1 rfl
 obtain⟨H4,s1,s2,s3,s4⟩:=fG c3 (by decide) (o:=2) (by simp) (v:=sR) p5
 have a2:=aJ H2 (cn k) 80 0
 have q3:cellAt (al H2 (cn k) 80 0) kp 2=some lx:=by rw[a2.cellAt (by rw[u4,n1];omega) (by simp)];exact q2
 have gK:H2.next=H.next+1:=by rw[u4,n1]
 have eW:∀ j∈ak sR,j≠kp/\j≠km:=fun j hj=>by
  rcases p4 j hj with q | q
  ·exact h.d2 j q
  ·omega
 have m3:Mp H3 km (qI ((ks++[(k,id)]).zip (bs++[c]))) (c+1):=u2.out p3 fun q=>(h.d2 km q).2 rfl
 refine⟨sR,H4,aj5 ?_,⟨s2,⟨bs++[c],c+1,by simp[b1],m3.out s3 (by rw[No];exact fun q=>h.d1 q.symm)⟩,?_,?_,h.d1,eW⟩,?_,fun j hj=>(p4 j hj).imp (fun q=>q) fun q=>by omega⟩
 ·unfold Nq
  simp(disch:=first|exact zqz|fail)only[aW,k0,k1,k2,kx,lk,hlen,dn,u1,q2,qx,hf,dN,iM,s1,q3,lK (Df h1.l.1.rw),afk,cond_true,ar,au,aj,ai,simprocAttr]
 ·rw[ad8]
  exact p2.out s3 fun j hj=>by rw[No];exact (eW j hj).1
 ·rw[ad8]
  rw[aff]
  refine⟨h.nd,by simp,fun x hx y hy q => ?_⟩
  simp at hy
  obtain⟨z,hz,rfl⟩:=adD.1 hx
  exact Hr hk z hz (q.trans hy)
 ·refine ((((o1.mono (S':=zZ kp km lx) (fun j hj=>by cases hj)).trans (u3.mono fun j hj => ?_)).trans (p3.mono fun j hj => .tail _ (.tail _ hj))).trans (s3.mono fun j hj => ?_))
  ·rw[No] at hj;subst hj;exact .tail _ (.head _)
  ·rw[No] at hj;subst hj;exact .head _
def lT (x:Ke):List AV:=[.str x.1.1,.str x.1.2,.int .i64 x.2]
theorem af2 {ks:List Ke}(gU:(ks.map (·.1)).Nodup){i:Nat}{x:Ke}(h:ks[i]? = some x):iT ks x.1=some x.2:=by
 cases hg:iT ks x.1 with
 | none=>exact absurd rfl (Hr hg x (aaF h))
 | some id=>
  obtain⟨a,b,rfl,h3⟩:=Pn hg
  have hx:=aaF h
  rcases abV.1 hx with hx | hx
  ·exact absurd rfl (h3 x hx)
  ·rcases aaY.1 hx with hx | hx
   ·rw[hx]
   ·rw[ad8,adK,aff,aio] at gU
    exact absurd (adD.2 ⟨x,hx,rfl⟩) gU.2.1.1
theorem Xq {kp km:Nat}{lx:AV}{ks:List Ke}{H0:Hp}(hn:ks.length<=1000)(YM:KO H0 kp km lx ks):∀ (r:List Ke) (i:Nat) (H:Hp) (ox:AV),i<=ks.length->ks.drop i=r->Out [] H0 H->OL H 82 3 ox ((ks.take i).map lT)->(∀ j∈ak ox,H0.next<=j)->
  ∃ Ie H',(∀ cH:K.Fn 1,Ii JN GO cK cH (.ptr kp 0) ox lx (.int .i64 (ks.length:Nat)) (.int .i64 (i:Nat)) H=cH Ie H')/\OL H' 82 3 Ie (ks.map lT)/\Out [] H0 H'/\∀ j∈ak Ie,H0.next<=j
 | [],i,H,ox,hi,h,hO,hL,hr=>by
  obtain rfl:=drop_nil hi h
  refine⟨ox,H,fun cH => ?_,by rw[List.take_length] at hL;exact hL,hO,hr⟩
  rw[Yj]
  simp only[R0,fZ,aj,ai,simprocAttr]
 | x::r,i,H,ox,hi,h,hO,hL,hr=>by
  obtain⟨g1,g2,g3⟩:=gy h
  have es:=gq g1 (by omega)
  have hK:=YM.out0 hO
  obtain⟨b,o,q1,q2,q3,q4,q5⟩:=hK.l.rl.at (by decide) (i:=i) (c:=cn x.1) (by rw[adX,g2];rfl)
  have aC:st 2 (.ptr H.next 0) (.agg (cn x.1)) (al H [(.str []),(.str [])] 80 0)=some (al H (cn x.1) 80 0):=iV rfl rfl rfl (by decide) rfl
  have o1:=aJ H (cn x.1) 80 0
  have c1:=bo H (cn x.1) 80 0
  have n1:(al H (cn x.1) 80 0).next=H.next+1:=rfl
  have aiN:aE H [(.str []),(.str [])] 80 0=some (H.next,al H [(.str []),(.str [])] 80 0):=gB (by simp)
  generalize dq:al H (cn x.1) 80 0=H1 at *
  have P5:=hK.out0 o1
  have k1:cellAt H1 kp 1=some (.map km):=P5.c.cellAt rfl
  have kx:av H1 H.next 0 2=some (cn x.1):=c1.av 2 0 (by rw[Cp];omega)
  have lk:=NW P5.m P5.nd x.1 false
  rw[af2 hK.nd g2] at lk
  have z8:fl [(.str []),(.str []),(.int .i64 0)] [(0,2,.agg (cn x.1)),(2,1,.int .i64 x.2)]=some (lT x):=rfl
  have hf2:fl [(.str []),(.str []),(.int .i64 0)] [(0,3,.agg (lT x))]=some (lT x):=rfl
  have hL1:OL H1 82 3 ox ((ks.take i).map lT):=hL.out o1 fun j hj=>by simp
  have dN:aE H1 (lT x) 82 0=some (H1.next,al H1 (lT x) 82 0):=gB (by simp[lT])
  obtain⟨Ie,H2,p1,p2,p3,p4,p5⟩:=hL1.push (fJ:=82) (z:=[(.str []),(.str []),(.int .i64 0)]) (vs:=lT x) rfl rfl (by decide) (by rw[adV,ael];omega)
  have iM:=p1 H1.next rfl
  have Dy:Out [] H0 H2:=gF (hO.trans o1) p3 hr
  have hO0:=hO.1
  obtain⟨ox2,H',i1,i2,i3,i4⟩:=Xq hn YM r (i+1) H2 Ie g1 g3 Dy (by rw[ahw,g2,ad8];exact p2) (fun j hj=>(p4 j hj).elim (hr j) fun q=>by omega)
  refine⟨ox2,H',fun cH => ?_,i2,i3,i4⟩
  rw[Yj]
  simp(disch:=first|exact zqz|fail)only[R0,bH g1,q1,q4,aiN,aC,kx,k1,lk,z8,hf2,dN,iM,afI,cond_false,es,i1,ar,au,aj,ai,simprocAttr]
theorem akK {H:Hp}{kp km:Nat}{lx:AV}{ks:List Ke}(hn:ks.length<=1000)(h:KO H kp km lx ks) :
  ∃ ox H',cK (.func (.func 32) [] []) [.ptr kp 0] H=some (ox,H')/\OL H' 82 3 ox (ks.map lT)/\Out [] H H'/\∀ j∈ak ox,H.next<=j:=by
 have k2:cellAt H kp 2=some lx:=h.c.cellAt rfl
 have hlen:=h.l.rl.len (by decide)
 rw[adV] at hlen
 obtain⟨ox,H',i1,i2,i3,i4⟩:=Xq hn h ks 0 H .ah (ac4 _) ada (Out.refl _ _) (by rw[ah5];exact OL.nil _ _ _) (fun j hj=>by cases hj)
 rw[show (((0:Nat):Int))=0 from rfl] at i1
 refine⟨ox,H',ajt ?_,i2,i3,i4⟩
 unfold TY
 simp(disch:=first|exact zqz|fail)only[k2,hlen,i1,ar,au,aj,ai,simprocAttr]
def Dj (l m:List Nat):Prop:=∀ j∈l,j∉m
theorem Dj.symm {l m:List Nat}(h:Dj l m):Dj m l:=fun j hj hl=>h j hl hj
theorem Rx {L:List (List Nat)}{k N:Nat}{l l':List Nat}(h:L.Pairwise Dj)(hk:L[k]? = some l)(hN:∀ m∈L,∀ j∈m,j<N)(hl:∀ j∈l',j∈l\/N<=j):(L.set k l').Pairwise Dj:=by
 rw[List.pairwise_iff_getElem] at h ⊢
 obtain⟨jF,kL⟩:=aas.1 hk
 have key:∀ (i:Nat) (hi:i<L.length),i≠k->Dj l' L[i]:=by
  intro i hi hik j hj hm
  rcases hl j hj with q | q
  ·rcases Nat.lt_or_gt_of_ne hik with c | c
   ·exact h i k hi jF c j hm (by rw[kL];exact q)
   ·exact h k i jF hi c j (by rw[kL];exact q) hm
  ·have:=hN _ (List.getElem_mem hi) j hm;omega
 intro i j hi hj ng
 rw[adM] at hi hj
 rw[List.getElem_set,List.getElem_set]
 by_cases h1:k=i
 ·subst h1
  rw[if_pos rfl,if_neg (by omega)]
  exact key j hj (by omega)
 ·rw[if_neg h1]
  by_cases h2:k=j
  ·subst h2
   rw[if_pos rfl]
   exact (key i hi (by omega)).symm
  ·rw[if_neg h2]
   exact h i j hi hj ng
theorem CR {L:List (List Nat)}(h:L.Pairwise Dj){i j:Nat}(ng:i≠j){l m:List Nat}(hi:L[i]? = some l)(hj:L[j]? = some m):Dj l m:=by
 rw[List.pairwise_iff_getElem] at h
 obtain⟨a1,a2⟩:=aas.1 hi
 obtain⟨b1,b2⟩:=aas.1 hj
 subst a2;subst b2
 rcases Nat.lt_or_gt_of_ne ng with c | c
 ·exact h i j a1 b1 c
 ·exact (h j i b1 a1 c).symm
structure RA where
 dx:AV
 xs:List AV
 tx:AV
 sx:AV
def RA.fp (r:RA):List Nat:=mG r.dx r.xs r.tx r.sx
structure Fm where
 ck:Int
 nms:List aq
 txs:List (aq × aq)
 az:List (Rn × aq)
 ks:List Ke
structure FA where
 tm:Nat
 kp:Nat
 km:Nat
 nx:AV
 rx:AV
 kl:AV
 ras:List RA
def dI (r:RA)(x:Rn × aq):List AV:=[r.dx,.int .i64 x.1.st,r.tx,r.sx,.str x.2]
def mw (E:List ((aq × aq) × Nat)):List ME:=E.map fun x=>⟨.str x.1.1,.str x.1.2,x.2⟩
def gQ (p:Nat)(a:FA):List (List Nat):=[[p],[a.tm],[a.kp],[a.km],ak a.nx,ak a.rx,ak a.kl]
def own (p:Nat)(a:FA):List Nat:=(gQ p a).flatten
def dB (a:FA):List Nat:=a.ras.flatMap RA.fp
abbrev fv (a:FA)(f:Fm):List AV:=[.int .i64 f.ck,a.nx,.map a.tm,a.rx,.ptr a.kp 0]
structure FL (H:Hp)(p:Nat)(a:FA)(f:Fm):Prop where
 c:Cs H p (fv a f) 67 0
 n:Ow H 9 1 a.nx (strs f.nms)
 t:∃ bs c,bs.length=f.txs.length/\Mp H a.tm (mw (f.txs.zip bs)) c
 rP:(f.txs.map (·.1)).Nodup
 r:OL H 77 5 a.rx (List.zipWith dI a.ras f.az)
 v:∀ (i:Nat) (r:RA) (x:Rn × aq),a.ras[i]? = some r->f.az[i]? = some x->RV H r.dx r.xs r.tx r.sx x.1
 len:a.ras.length=f.az.length
 k:KO H a.kp a.km a.kl f.ks
 dj:(gQ p a).Pairwise Dj
 lo:∀ j∈own p a,11<=j
 dB:∀ j∈dB a,j∉own p a/\j<H.next
theorem fL {p j k:Nat}{a:FA}{l:List Nat}(h:(gQ p a)[k]? = some l)(hj:j∈l):j∈own p a:=ahl.2 ⟨l,aaF h,hj⟩
theorem FL.lt {H:Hp}{p:Nat}{a:FA}{f:Fm}(h:FL H p a f):∀ j∈own p a,j<H.next:=by
 intro j hj
 obtain⟨l,hl,hj⟩:=ahl.1 hj
 obtain⟨bs,c,_,hm⟩:=h.t
 have hk:=h.k.lt
 simp only[gQ,aaY,List.mem_nil_iff,or_false] at hl
 rcases hl with rfl | rfl | rfl | rfl | rfl | rfl | rfl
 ·rw[No] at hj;subst hj;exact h.c.1
 ·rw[No] at hj;subst hj;exact hm.1
 ·rw[No] at hj;subst hj;exact hk _ (.head _)
 ·rw[No] at hj;subst hj;exact hk _ (.tail _ (.head _))
 ·exact h.n.rw.lt j hj
 ·exact h.r.1.rw.lt j hj
 ·exact hk _ (.tail _ (.tail _ hj))
theorem FL.RX {H:Hp}{p:Nat}{a:FA}{f:Fm}(h:FL H p a f):∀ m∈gQ p a,∀ j∈m,j<H.next:=fun m hm j hj=>h.lt j (ahl.2 ⟨m,hm,hj⟩)
theorem FY {a:FA}{i:Nat}{r:RA}(h:a.ras[i]? = some r):∀ j∈r.fp,j∈dB a:=fun j hj=>ahu.2 ⟨r,aaF h,hj⟩
theorem FL.out {H H':Hp}{p:Nat}{a:FA}{f:Fm}{S:List Nat}(h:FL H p a f)(k:Out S H H')(hs:∀ j∈own p a,j∉S)(hi:∀ j∈DfK.dB a,j∉S):FL H' p a f:=by
 obtain⟨bs,c,h1,h2⟩:=h.t
 have hk:=h.k.lt
 refine⟨h.c.out k (hs _ (fL (k:=0) rfl (.head _))),h.n.out k fun j hj=>hs _ (fL (k:=4) rfl hj),⟨bs,c,h1,h2.out k (hs _ (fL (k:=1) rfl (.head _)))⟩,h.rP,h.r.out k fun j hj=>hs _ (fL (k:=5) rfl hj),fun i r x hr hx=>(h.v i r x hr hx).out k fun j hj=>hi j (FY hr j hj),h.len,h.k.out k fun j hj => ?_,h.dj,h.lo,fun j hj=>⟨(h.dB j hj).1,adW (h.dB j hj).2 k.1⟩⟩
 rcases aaY.1 hj with rfl | hj
 ·exact hs _ (fL (k:=2) rfl (.head _))
 ·rcases aaY.1 hj with rfl | hj
  ·exact hs _ (fL (k:=3) rfl (.head _))
  ·exact hs _ (fL (k:=6) rfl hj)
theorem FL.out0 {H H':Hp}{p:Nat}{a:FA}{f:Fm}(h:FL H p a f)(k:Out [] H H'):FL H' p a f:=h.out k (fun _ _ q=>by cases q) fun _ _ q=>by cases q
structure FSt (H H':Hp)(p:Nat)(a a':FA):Prop where
 o:Out (own p a) H H'
 w:∀ j∈own p a',j∈own p a\/H.next<=j
 i:∀ j∈DfK.dB a',j∈DfK.dB a\/H.next<=j
theorem FSt.same {H H':Hp}(k:Out [] H H')(p:Nat)(a:FA):FSt H H' p a a:=⟨k.mono fun j hj=>(by cases hj),fun j hj => .inl hj,fun j hj => .inl hj⟩
theorem FSt.trans {H H' lG:Hp}{p:Nat}{a b c:FA}(h:FSt H H' p a b)(k:FSt H' lG p b c):FSt H lG p a c:=
 ⟨h.o.then k.o h.w,fun j hj=>(k.w j hj).elim (h.w j) fun q => .inr (agr h.o.1 q),fun j hj=>(k.i j hj).elim (h.i j) fun q => .inr (agr h.o.1 q)⟩
theorem FL.part {H H':Hp}{p:Nat}{a:FA}{f:Fm}{S:List Nat}{i:Nat}(h:FL H p a f)(k:Out S H H')(hS:(gQ p a)[i]? = some S) :
  (i≠0->Cs H' p (fv a f) 67 0)/\(i≠4->Ow H' 9 1 a.nx (strs f.nms))/\(i≠1->∃ bs c,bs.length=f.txs.length/\Mp H' a.tm (mw (f.txs.zip bs)) c)/\(i≠5->OL H' 77 5 a.rx (List.zipWith dI a.ras f.az))/\
  (i≠2->i≠3->i≠6->KO H' a.kp a.km a.kl f.ks)/\(∀ (i:Nat) (r:RA) (x:Rn × aq),a.ras[i]? = some r->f.az[i]? = some x->RV H' r.dx r.xs r.tx r.sx x.1):=by
 have sep:∀ {j:Nat} {l:List Nat},i≠j->(gQ p a)[j]? = some l->∀ x∈l,x∉S:=fun ng hl=>(CR h.dj ng hS hl).symm
 obtain⟨bs,c,h1,h2⟩:=h.t
 refine⟨fun hi=>h.c.out k (sep hi rfl p (.head _)),fun hi=>h.n.out k (sep hi rfl),fun hi=>⟨bs,c,h1,h2.out k (sep hi rfl a.tm (.head _))⟩,fun hi=>h.r.out k (sep hi rfl),fun i1 i2 i3=>h.k.out k fun j hj => ?_,fun m r x hr hx=>(h.v m r x hr hx).out k fun j hj q=>(h.dB j (FY hr j hj)).1 (fL hS q)⟩
 rcases aaY.1 hj with rfl | hj
 ·exact sep i1 rfl _ (.head _)
 ·rcases aaY.1 hj with rfl | hj
  ·exact sep i2 rfl _ (.head _)
  ·exact sep i3 rfl _ hj
theorem FL.NL {H H':Hp}{p:Nat}{a:FA}{f:Fm}(h:FL H p a f)(hn:H.next<=H'.next):∀ j∈DfK.dB a,j∉own p a/\j<H'.next:=fun j hj=>⟨(h.dB j hj).1,adW (h.dB j hj).2 hn⟩
theorem FL.clock {H:Hp}{p:Nat}{a:FA}{f:Fm}(h:FL H p a f)(z:Int):∃ H',st 1 (.ptr p 0) (.int .i64 z) H=some H'/\FL H' p a { f with ck:=z }/\FSt H H' p a a:=by
 obtain⟨H',s1,s2,s3,s4⟩:=fG h.c (by decide) (o:=0) (by simp) (v := .int .i64 z) rfl
 obtain⟨p0,p4,p1,p5,pk,pv⟩:=h.part s3 (i:=0) rfl
 exact⟨H',s1,⟨s2,p4 (by decide),p1 (by decide),h.rP,p5 (by decide),pv,h.len,pk (by decide) (by decide) (by decide),h.dj,h.lo,h.NL s3.1⟩,s3.mono fun j hj=>fL (k:=0) rfl hj,fun j hj => .inl hj,fun j hj => .inl hj⟩
theorem Ob {p k N:Nat}{a a':FA}{l l':List Nat}(hs:gQ p a'=(gQ p a).set k l')(hk:(gQ p a)[k]? = some l)(hl:∀ j∈l',j∈l\/N<=j):∀ j∈own p a',j∈own p a\/N<=j:=by
 intro j hj
 obtain⟨m,hm,hj⟩:=ahl.1 hj
 rw[hs] at hm
 rcases agY hm with q | rfl
 ·exact .inl (ahl.2 ⟨m,q,hj⟩)
 ·exact (hl j hj).imp (fun q=>fL hk q) id
theorem FL.anJ {H:Hp}{p:Nat}{a:FA}{f:Fm}(h:FL H p a f)(s:aq)(hn:f.nms.length<=1000) :
  ∃ fX H1 H2,(∀ i,i=H.next->gw 9 1 [(.str [])] false a.nx (.slice i 0 1 1 true 1) (al H [.str s] 9 0)=some (fX,H1))/\st 1 (.ptr p 1) fX H1=some H2/\FL H2 p { a with nx:=fX } { f with nms:=f.nms++[s] }/\FSt H H2 p a { a with nx:=fX }/\ba fX=true:=by
 obtain⟨fX,H1,p1,p2,p3,p4,p5⟩:=uf (fJ:=9) (z:=[(.str [])]) (vs:=[.str s]) h.n rfl rfl (by decide) (by rw[ji];simp;omega)
 obtain⟨q0,q4,q1,q5,qk,qv⟩:=h.part p3 (i:=4) rfl
 obtain⟨H2,s1,s2,s3,s4⟩:=fG (q0 (by decide)) (by decide) (o:=1) (by simp) (v:=fX) p5
 have hs:gQ p { a with nx:=fX }=(gQ p a).set 4 (ak fX):=rfl
 have sC:(gQ p { a with nx:=fX }).Pairwise Dj:=by rw[hs];exact Rx h.dj (k:=4) rfl h.RX p4
 have sep:∀ {j:Nat} {l:List Nat},0≠j->(gQ p { a with nx:=fX })[j]? = some l->∀ x∈l,x∉[p]:=fun ng hl=>(CR sC ng (i:=0) rfl hl).symm
 have hw:=Ob (a:=a) (N:=H.next) hs (k:=4) rfl p4
 have hi:∀ j∈DfK.dB { a with nx:=fX },j∉own p { a with nx:=fX }/\j<H2.next:=fun j hj=>⟨fun q=>(hw j q).elim (h.dB j hj).1 fun z=>by have:=(h.dB j hj).2;omega,by have:=(h.dB j hj).2;have:=p3.1;have:=s3.1;omega⟩
 obtain⟨bs,c,t1,t2⟩:=q1 (by decide)
 have hO:Out (own p a) H H2:=(p3.mono fun j hj=>fL (k:=4) rfl hj).trans (s3.mono fun j hj=>fL (k:=0) rfl hj)
 refine⟨fX,H1,H2,p1,s1,⟨s2,?_,⟨bs,c,t1,t2.out s3 (sep (j:=1) (by decide) rfl _ (.head _))⟩,h.rP,(q5 (by decide)).out s3 (sep (j:=5) (by decide) rfl),fun i r x hr hx=>(qv i r x hr hx).out s3 fun j hj q=>(hi j (FY (a:={ a with nx:=fX }) hr j hj)).1 (fL (k:=0) rfl q),h.len,(qk (by decide) (by decide) (by decide)).out s3 fun j hj => ?_,sC,fun j hj=>(hw j hj).elim (h.lo j) fun q => ?_,hi⟩,⟨hO,hw,fun j hj => .inl hj⟩,p5⟩
 ·rw[show strs (f.nms++[s])=strs f.nms++[.str s] by rw[EJ];rfl]
  exact p2.out s3 (sep (j:=4) (by decide) rfl)
 ·rcases aaY.1 hj with rfl | hj
  ·exact sep (j:=2) (by decide) rfl _ (.head _)
  ·rcases aaY.1 hj with rfl | hj
   ·exact sep (j:=3) (by decide) rfl _ (.head _)
   ·exact sep (j:=6) (by decide) rfl _ hj
 ·have:=h.lo p (fL (k:=0) rfl (.head _));have:=h.c.1;omega
theorem Kl {l:List ((aq × aq) × Nat)}{s:aq}(h:∀ x∈l,x.1.1≠s):∀ e∈mw l,∃ q,e.key = .str q/\q≠s:=by
 intro e he
 obtain⟨x,hx,rfl⟩:=adD.1 he
 exact⟨_,rfl,h x hx⟩
def ju (l:List (aq × aq))(s:aq):Option aq:=(l.find? (fun x=>x.1==s)).map (·.2)
theorem Ju {l:List (aq × aq)}{k:aq}(h:ju l k=none):∀ x∈l,x.1≠k:=by
 unfold ju at h
 rw[Option.map_eq_none_iff,List.find?_eq_none] at h
 intro x hx q
 exact h x hx (by rw[q];exact beq_self_eq_true _)
theorem Z0 {l:List (aq × aq)}{k t:aq}(h:ju l k=some t):∃ a b,l=a++(k,t)::b/\∀ x∈a,x.1≠k:=by
 unfold ju at h
 rw[aaa] at h
 obtain⟨x,h1,rfl⟩:=h
 rw[List.find?_eq_some_iff_append] at h1
 obtain⟨h2,a,b,rfl,h3⟩:=h1
 have:x.1=k:=by simpa using h2
 subst this
 exact⟨a,b,rfl,fun y hy q=>by have:=h3 y hy;rw[q] at this;simp at this⟩
theorem amJ {a b:List (aq × aq)}{x:aq × aq}{bs:List Nat}(h:bs.length=(a++x::b).length):∃ b1 c b2,(a++x::b).zip bs=a.zip b1++(x,c)::b.zip b2:=by
 have h1:a.length<bs.length:=by rw[h,aa0,aaN];omega
 refine⟨bs.take a.length,bs[a.length],bs.drop (a.length+1),?_⟩
 conv=>lhs;rw[show bs=bs.take a.length++bs[a.length]::bs.drop (a.length+1) by rw[List.getElem_cons_drop,ah8]]
 rw[List.zip_append (by rw[ael];omega)]
 rfl
theorem IF {l:List (aq × aq)}{bs:List Nat}{k:aq}(h:∀ x∈l,x.1≠k):∀ y∈l.zip bs,y.1.1≠k:=fun y hy=>h y.1 (List.of_mem_zip hy).1
theorem YF {H:Hp}{tm:Nat}{l:List (aq × aq)}(hm:∃ bs c,bs.length=l.length/\Mp H tm (mw (l.zip bs)) c)(gU:(l.map (·.1)).Nodup)(k:aq)(ok:Bool) :
  uz .str (.str []) ok (.map tm) (.str k) H=some (bif ok then .tuple [.str ((ju l k).getD []),.bool (ju l k).isSome] else .str ((ju l k).getD [])):=by
 obtain⟨bs,c,h1,h2⟩:=hm
 cases hg:ju l k with
 | none=>
  rw[YO h2 (Kl (IF (bs:=bs) (Ju hg)))]
  cases ok<;>rfl
 | some t=>
  obtain⟨a,b,rfl,h3⟩:=Z0 hg
  obtain⟨b1,c1,b2,h4⟩:=amJ h1
  rw[h4] at h2
  have hb:∀ x∈b,x.1≠k:=by
   intro x hx q
   rw[ad8,adK,aff,aio] at gU
   exact gU.2.1.1 (adD.2 ⟨x,hx,q⟩)
  have mh:mw (a.zip b1++((k,t),c1)::b.zip b2)=mw (a.zip b1)++⟨.str k,.str t,c1⟩::mw (b.zip b2):=by simp[mw]
  rw[mh] at h2
  rw[Xm (k:=k) h2 rfl (Kl (IF (bs:=b1) h3)) (Kl (IF (bs:=b2) hb))]
  cases ok<;>rfl
theorem FL.ajI {H:Hp}{p:Nat}{a:FA}{f:Fm}(h:FL H p a f){s:aq}(hs:ju f.txs s=none)(t:aq) :
  ∃ H',th .str (.map a.tm) (.str s) (.str t) H=some H'/\FL H' p a { f with txs:=f.txs++[(s,t)] }/\FSt H H' p a a:=by
 obtain⟨bs,c,t1,t2⟩:=h.t
 obtain⟨H',u1,u2,u3⟩:=aam t2 (Kl (IF (bs:=bs) (Ju hs))) (.str t)
 obtain⟨q0,q4,q1,q5,qk,qv⟩:=h.part u3 (i:=1) rfl
 refine⟨H',u1,⟨q0 (by decide),q4 (by decide),⟨bs++[c],c+1,by simp[t1],?_⟩,?_,q5 (by decide),qv,h.len,qk (by decide) (by decide) (by decide),h.dj,h.lo,h.NL u3.1⟩,u3.mono fun j hj=>fL (k:=1) rfl hj,fun j hj => .inl hj,fun j hj => .inl hj⟩
 ·rw[List.zip_append t1.symm]
  simpa[mw] using u2
 ·rw[ad8,aff]
  refine⟨h.rP,by simp,fun x hx y hy q => ?_⟩
  simp at hy
  obtain⟨z,hz,rfl⟩:=adD.1 hx
  exact Ju hs z hz (q.trans hy)
theorem RU {ras:List RA}{xs:List (Rn × aq)}{i:Nat}{r:RA}{x:Rn × aq}(h1:ras[i]? = some r)(h2:xs[i]? = some x):(List.zipWith dI ras xs)[i]? = some (dI r x):=by rw[aeh,h1,h2]
theorem aiJ {H:Hp}{r:RA}{x:Rn × aq}(h:RV H r.dx r.xs r.tx r.sx x.1):(dI r x).all ba=true:=by
 simp[dI,h.d.row.one,h.t.one,h.s.one,kA,Du]
theorem FL.Vi {H:Hp}{p:Nat}{a:FA}{f:Fm}(h:FL H p a f){i b o:Nat}{x:Rn × aq}(hx:f.az[i]? = some x)(nB:∀ kd,ia 5 a.rx (.int kd i)=some (.ptr b o)){r':RA}{R':Rn}(hR:RV H r'.dx r'.xs r'.tx r'.sx R')(hn:∀ j∈r'.fp,j∉own p a) :
  ∃ H',st 4 (.ptr b o) (.agg (rv r'.dx R'.st r'.tx r'.sx)) H=some H'/\FL H' p { a with ras:=a.ras.set i r' } { f with az:=f.az.set i (R',x.2) }/\Out (ak a.rx) H H'/\(∀ j∈DfK.dB { a with ras:=a.ras.set i r' },j∈DfK.dB a\/j∈r'.fp):=by
 have bu:=(aas.1 hx).1
 have hr:a.ras[i]? = some (a.ras[i]'(by rw[h.len];exact bu)):=aau _
 generalize a.ras[i]'(by rw[h.len];exact bu)=r at hr
 have Qq:∀ v∈rv r'.dx R'.st r'.tx r'.sx,ba v=true:=by
  intro v hv
  simp only[aaY,List.mem_nil_iff,or_false] at hv
  rcases hv with rfl | rfl | rfl | rfl
  ·exact hR.d.row.one
  ·rfl
  ·exact hR.t.one
  ·exact hR.s.one
 obtain⟨H',s1,s2,s3,s4⟩:=h.r.Qi (k:=0) (vs:=rv r'.dx R'.st r'.tx r'.sx) (RU hr hx) nB Qq (by simp) (by decide)
 rw[aem] at s1
 obtain⟨q0,q4,q1,q5,qk,qv⟩:=h.part s3 (i:=5) rfl
 have fh:iK (dI r x) 0 (rv r'.dx R'.st r'.tx r'.sx)=dI r' (R',x.2):=rfl
 rw[fh] at s2
 have Hd:(List.zipWith dI a.ras f.az).set i (dI r' (R',x.2))=List.zipWith dI (a.ras.set i r') (f.az.set i (R',x.2)):=by
  apply aij
  intro m
  rw[aeh,agu,agu,agu,aeh]
  by_cases hm:i=m
  ·subst hm
   rw[if_pos rfl,if_pos rfl,if_pos rfl,if_pos (by rw[agy];have:=h.len;omega),if_pos (by rw[h.len];exact bu),if_pos bu]
  ·rw[if_neg hm,if_neg hm,if_neg hm]
 rw[Hd] at s2
 have Bm:∀ j∈DfK.dB { a with ras:=a.ras.set i r' },j∈DfK.dB a\/j∈r'.fp:=by
  intro j hj
  obtain⟨m,hm,iQ⟩:=ahu.1 hj
  rcases agY hm with q | q
  ·exact .inl (ahu.2 ⟨m,q,iQ⟩)
  ·rw[q] at iQ;exact .inr iQ
 refine⟨H',?_,⟨q0 (by decide),q4 (by decide),q1 (by decide),h.rP,s2,?_,by rw[adM,adM];exact h.len,qk (by decide) (by decide) (by decide),h.dj,h.lo,fun j hj => ?_⟩,s3,Bm⟩
 ·unfold st
  have:Nat.beq 4 (rv r'.dx R'.st r'.tx r'.sx).length=true:=rfl
  simp only[Bl,this,cond_true]
  exact s1
 ·intro m r2 x2 h1 h2
  simp only at h1 h2
  rw[agu] at h1 h2
  by_cases hm:i=m
  ·subst hm
   rw[if_pos rfl,if_pos (by rw[h.len];exact bu)] at h1
   rw[if_pos rfl,if_pos bu] at h2
   cases h1;cases h2
   exact hR.out s3 fun j hj q=>hn j hj (fL (k:=5) rfl q)
  ·rw[if_neg hm] at h1 h2
   exact qv m r2 x2 h1 h2
 ·have kP:=s3.1
  rcases Bm j hj with q | q
  ·exact⟨(h.dB j q).1,by have:=(h.dB j q).2;omega⟩
  ·exact⟨hn j q,by have:=hR.lt j q;omega⟩
theorem FL.TU {H:Hp}{p:Nat}{a:FA}{f:Fm}(h:FL H p a f){r':RA}{x:Rn × aq}(hR:RV H r'.dx r'.xs r'.tx r'.sx x.1)(hn:∀ j∈r'.fp,j∉own p a)(hlen:f.az.length<=1000) :
  ∃ eI H1 H2,(∀ i,i=H.next->gw 77 5 [.ah,(.int .i64 0),.ah,.ah,(.str [])] false a.rx (.slice i 0 1 1 true 5) (al H (dI r' x) 77 0)=some (eI,H1))/\st 1 (.ptr p 3) eI H1=some H2/\FL H2 p { a with rx:=eI,ras:=a.ras++[r'] } { f with az:=f.az++[x] }/\Out (own p a) H H2/\(∀ j∈own p { a with rx:=eI,ras:=a.ras++[r'] },j∈own p a\/H.next<=j)/\(∀ j∈DfK.dB { a with rx:=eI,ras:=a.ras++[r'] },j∈DfK.dB a\/j∈r'.fp)/\ba eI=true:=by
 obtain⟨eI,H1,p1,p2,p3,p4,p5⟩:=h.r.push (fJ:=77) (z:=[.ah,(.int .i64 0),.ah,.ah,(.str [])]) (vs:=dI r' x) (aiJ hR) rfl (by decide) (by rw[agy];have:=h.len;omega)
 obtain⟨q0,q4,q1,q5,qk,qv⟩:=h.part p3 (i:=5) rfl
 obtain⟨H2,s1,s2,s3,s4⟩:=fG (q0 (by decide)) (by decide) (o:=3) (by simp) (v:=eI) p5
 have hs:gQ p { a with rx:=eI,ras:=a.ras++[r'] }=(gQ p a).set 5 (ak eI):=rfl
 have sC:(gQ p { a with rx:=eI,ras:=a.ras++[r'] }).Pairwise Dj:=by rw[hs];exact Rx h.dj (k:=5) rfl h.RX p4
 have sep:∀ {j:Nat} {l:List Nat},0≠j->(gQ p { a with rx:=eI,ras:=a.ras++[r'] })[j]? = some l->∀ x∈l,x∉[p]:=fun ng hl=>(CR sC ng (i:=0) rfl hl).symm
 have hw:=Ob (a:=a) (N:=H.next) hs (k:=5) rfl p4
 have Bm:∀ j∈DfK.dB { a with rx:=eI,ras:=a.ras++[r'] },j∈DfK.dB a\/j∈r'.fp:=by
  intro j hj
  obtain⟨m,hm,iQ⟩:=ahu.1 hj
  rcases abV.1 hm with q | q
  ·exact .inl (ahu.2 ⟨m,q,iQ⟩)
  ·rw[No] at q;rw[q] at iQ;exact .inr iQ
 have ff:=hR.lt
 have hi:∀ j∈DfK.dB { a with rx:=eI,ras:=a.ras++[r'] },j∉own p { a with rx:=eI,ras:=a.ras++[r'] }/\j<H2.next:=fun j hj=>by
  have kP:=p3.1;have aqJ:=s3.1
  rcases Bm j hj with q | q
  ·exact⟨fun z=>(hw j z).elim (h.dB j q).1 fun y=>by have:=(h.dB j q).2;omega,by have:=(h.dB j q).2;omega⟩
  ·exact⟨fun z=>(hw j z).elim (hn j q) fun y=>by have:=ff j q;omega,by have:=ff j q;omega⟩
 obtain⟨bs,c,t1,t2⟩:=q1 (by decide)
 have hO:Out (own p a) H H2:=(p3.mono fun j hj=>fL (k:=5) rfl hj).trans (s3.mono fun j hj=>fL (k:=0) rfl hj)
 have Hd:List.zipWith dI a.ras f.az++[dI r' x]=List.zipWith dI (a.ras++[r']) (f.az++[x]):=by rw[List.zipWith_append h.len];rfl
 rw[Hd] at p2
 refine⟨eI,H1,H2,p1,s1,⟨s2,(q4 (by decide)).out s3 (sep (j:=4) (by decide) rfl),⟨bs,c,t1,t2.out s3 (sep (j:=1) (by decide) rfl _ (.head _))⟩,h.rP,p2.out s3 (sep (j:=5) (by decide) rfl),fun i r y hr hy => ?_,by simp[h.len],(qk (by decide) (by decide) (by decide)).out s3 fun j hj => ?_,sC,fun j hj=>(hw j hj).elim (h.lo j) fun q => ?_,hi⟩,hO,hw,Bm,p5⟩
 ·have gX:=hi
  have key:RV H1 r.dx r.xs r.tx r.sx y.1:=by
   simp only at hr hy
   by_cases bu:i<a.ras.length
   ·rw[abD bu] at hr
    rw[abD (by rw[<-h.len];exact bu)] at hy
    exact qv i r y hr hy
   ·rw[ab7 (by omega)] at hr
    rw[ab7 (by rw[<-h.len];omega),<-h.len] at hy
    have h0:i-a.ras.length=0:=by
     have:=(aas.1 hr).1
     simp at this;omega
    rw[h0] at hr hy
    cases hr;cases hy
    exact hR.out p3 fun j hj q=>hn j hj (fL (k:=5) rfl q)
  exact key.out s3 fun j hj q=>(hi j (FY (a:={ a with rx:=eI,ras:=a.ras++[r'] }) hr j hj)).1 (fL (k:=0) rfl q)
 ·rcases aaY.1 hj with rfl | hj
  ·exact sep (j:=2) (by decide) rfl _ (.head _)
  ·rcases aaY.1 hj with rfl | hj
   ·exact sep (j:=3) (by decide) rfl _ (.head _)
   ·exact sep (j:=6) (by decide) rfl _ hj
 ·have:=h.lo p (fL (k:=0) rfl (.head _));have:=h.c.1;omega
theorem FL.gE {H:Hp}{p:Nat}{a:FA}{f:Fm}(h:FL H p a f)(hn:f.ks.length<128){k:Ky}(hk:iT f.ks k=none)(id:Int) :
  ∃ tN H',cK (.func (.func 33) [] []) [.ptr a.kp 0,.agg (cn k),.int .i64 id] H=some (.tuple [.int .i64 id,.bool true],H')/\FL H' p { a with kl:=tN } { f with ks:=f.ks++[(k,id)] }/\FSt H H' p a { a with kl:=tN }:=by
 obtain⟨tN,H',k1,k2,k3,k4⟩:=alq h.k hn hk id
 have hS:∀ j∈zZ a.kp a.km a.kl,j∈[a.kp]\/j∈[a.km]\/j∈ak a.kl:=fun j hj=>by
  rcases aaY.1 hj with rfl | hj
  ·exact .inl (.head _)
  ·rcases aaY.1 hj with rfl | hj
   ·exact .inr (.inl (.head _))
   ·exact .inr (.inr hj)
 have sep:∀ {j:Nat} {l:List Nat},j≠2->j≠3->j≠6->(gQ p a)[j]? = some l->∀ x∈l,x∉zZ a.kp a.km a.kl:=fun h2 h3 h6 hl x hx q=>by
  rcases hS x q with z | z | z
  ·exact CR h.dj h2 hl (j:=2) rfl x hx z
  ·exact CR h.dj h3 hl (j:=3) rfl x hx z
  ·exact CR h.dj h6 hl (j:=6) rfl x hx z
 have W0:∀ j∈zZ a.kp a.km a.kl,j∈own p a:=fun j hj=>by
  rcases hS j hj with z | z | z
  ·exact fL (k:=2) rfl z
  ·exact fL (k:=3) rfl z
  ·exact fL (k:=6) rfl z
 have hs:gQ p { a with kl:=tN }=(gQ p a).set 6 (ak tN):=rfl
 have sC:(gQ p { a with kl:=tN }).Pairwise Dj:=by rw[hs];exact Rx h.dj (k:=6) rfl h.RX k4
 have hw:=Ob (a:=a) (N:=H.next) hs (k:=6) rfl k4
 have hi:∀ j∈DfK.dB { a with kl:=tN },j∉own p { a with kl:=tN }/\j<H'.next:=fun j hj=>⟨fun q=>(hw j q).elim (h.dB j hj).1 fun z=>by have:=(h.dB j hj).2;omega,by have:=(h.dB j hj).2;have:=k3.1;omega⟩
 obtain⟨bs,c,t1,t2⟩:=h.t
 refine⟨tN,H',k1,⟨h.c.out k3 (sep (j:=0) (by decide) (by decide) (by decide) rfl _ (.head _)),h.n.out k3 (sep (j:=4) (by decide) (by decide) (by decide) rfl),⟨bs,c,t1,t2.out k3 (sep (j:=1) (by decide) (by decide) (by decide) rfl _ (.head _))⟩,h.rP,h.r.out k3 (sep (j:=5) (by decide) (by decide) (by decide) rfl),fun i r x hr hx=>(h.v i r x hr hx).out k3 fun j hj q=>(h.dB j (FY hr j hj)).1 (W0 j q),h.len,k2,sC,fun j hj=>(hw j hj).elim (h.lo j) fun q => ?_,hi⟩,k3.mono W0,hw,fun j hj => .inl hj⟩
 have:=h.lo p (fL (k:=0) rfl (.head _));have:=h.c.1;omega
def abY (n:Nat):Bool:=Nat.ble (dec n).length 4&&(dec n).all (fun b=>Nat.ble 48 b&&Nat.ble b 57)&&(match Lib.atoiAll ((dec n).map UInt8.ofNat) with | .ok v=>v==(n:Int) | _=>false)
theorem ao5:∀ n:Fin 1001,abY n.val=true:=by decide +kernel
theorem zA {n:Int}(h0:0<=n)(h1:n<=1000):pO (dec n)=some n.toNat/\(dec n).length<=4/\∀ b∈dec n,48<=b/\b<=57:=by
 obtain⟨m,rfl⟩:∃ m:Nat,n=m:=⟨n.toNat,by omega⟩
 have h:=ao5 ⟨m,by omega⟩
 unfold abY at h
 simp only[aaG,aez,adY] at h
 obtain⟨⟨l,d⟩,a⟩:=h
 refine⟨?_,l,fun b hb=>d b hb⟩
 unfold pO
 rw[if_pos l]
 have e:vT (dec (m:Int))=(dec (m:Int)).map UInt8.ofNat:=rfl
 rw[e]
 revert a
 cases Lib.atoiAll ((dec (m:Int)).map UInt8.ofNat) with
 | ok v=>
  intro a
  obtain rfl:v=(m:Int):=by simpa using a
  simp
 | _=>intro a;cases a
theorem agV {s:aq}{n:Nat}(h:pO s=some n):dec (n:Int)=s:=by
 unfold pO at h
 split at h
 ·split at h
  ·split at h
   ·rename_i v _ hv
    cases h
    rw[show ((v.toNat:Nat):Int)=v by omega]
    exact hv.1
   ·cases h
  ·cases h
 ·cases h
theorem TV {p:Nat->Bool}:∀ {l:aq},l.dropWhile p=[]->∀ b∈l,p b=true
 | [],_,b,hb=>by cases hb
 | a::l,h,b,hb=>by
  rw[List.dropWhile_cons] at h
  split at h
  ·rename_i ha
   rcases aaY.1 hb with rfl | hb
   ·exact ha
   ·exact TV h b hb
  ·cases h
theorem apC {s c:aq}(h:yR s c=[]):∀ b∈s,b∈c:=by
 rw[Uk] at h
 replace h:=TV h
 intro b hb
 have rT:b∈s.reverse:=List.mem_reverse.2 hb
 rw[<-List.takeWhile_append_dropWhile (p:=(c.contains ·)) (l:=s.reverse),abV] at rT
 rcases rT with q | q
 ·have:=adY.1 (List.all_takeWhile (p:=(c.contains ·)) (l:=s.reverse)) b q
  simpa using this
 ·have:=h b (List.mem_reverse.2 q)
  simpa using this
theorem Qb {s:aq}(h:uL s=true):s≠[]/\s.length<=16/\∀ b∈s,b∈p9:=by
 unfold uL at h
 simp only[aaG,aj3,beq_eq_false_iff_ne,decide_eq_true_eq,beq_iff_eq] at h
 exact⟨h.1,by omega,apC h.2.2⟩
theorem Wh:∀ b∈p9,b≠32/\b≠44/\b≠59/\b≠61/\b<256:=by decide
theorem ahJ:∀ b:Nat,48<=b->b<=57->b∈p9:=by
 intro b h1 h2
 have:∀ k:Fin 10,48+k.val∈p9:=by decide
 have:=this ⟨b-48,by omega⟩
 simpa[show 48+(b-48)=b by omega] using this
def jd (ts:List Tk)(a:Int):aq:=(names ts).getD a.toNat []
def ie (ts:List Tk):Bool->List Int->aq
 | _,[]=>[]
 | f,a::r=>((if f then [32,97,102,116,101,114,61] else [44])++jd ts a)++ie ts false r
def iO (key:aq)(n p:Int):aq:=if n=p then [] else key++dec n
def eO (ts:List Tk)(t:Tk):aq:=
 ((t.name++ie ts true t.after)++((iO [32,114,101,116,114,121,61] t.retry 0++iO [32,119,97,105,116,61] t.wait 10)++iO [32,98,97,115,101,61] t.base 1))++(if t.on=[] then [] else [32,111,110,61]++t.on)
noncomputable def o8 (ts:List Tk):aq:=if jc ts=0 then jk 59 (ts.map (eO ts)) else []
def zu (k v:aq):aq:=k++61::v
def jA (c:Prop) [Decidable c] (k v:aq):List aq:=if c then [] else [zu k v]
def yQ (ts:List Tk)(t:Tk):List aq:=t.name::(jA (t.after=[]) vo (jk 44 (t.after.map (jd ts)))++(jA (t.retry=0) xB (dec t.retry)++(jA (t.wait=10) wC (dec t.wait)++(jA (t.base=1) uX (dec t.base)++jA (t.on=[]) rB t.on))))
theorem Jz (c:Nat):∀ (l:List aq) (a:aq),jk c (a::l)=a++l.flatMap (fun s=>c::s)
 | [],a=>by simp[jk]
 | b::l,a=>by
  show a++c::jk c (b::l)=_
  rw[Jz c l b];simp
theorem Zu (c:Nat):∀ (l:List aq),l≠[]->(jk c l).length+1=cO l+l.length
 | [],h=>absurd rfl h
 | [a],_=>by simp[jk,cO]
 | a::b::l,_=>by
  have:=Zu c (b::l) (by simp)
  show (a++c::jk c (b::l)).length+1=_
  simp[cO] at this ⊢
  omega
theorem Mc {c b:Nat}:∀ {l:List aq},b∈jk c l->b=c\/∃ s∈l,b∈s
 | [],h=>by cases h
 | [a],h => .inr ⟨a,.head _,h⟩
 | a::d::l,h=>by
  have h:b∈a++c::jk c (d::l):=h
  rw[abV,aaY] at h
  rcases h with h | h | h
  ·exact .inr ⟨a,.head _,h⟩
  ·exact .inl h
  ·exact (Mc h).imp id fun⟨s,hs,hb⟩=>⟨s,.tail _ hs,hb⟩
theorem Qa (ts:List Tk):∀ l,ie ts false l=(l.map (jd ts)).flatMap (fun s=>44::s)
 | []=>rfl
 | a::r=>by simp[ie,Qa ts r]
theorem UK (ts:List Tk)(a:Int)(r:List Int):ie ts true (a::r)=32::(vo++61::jk 44 ((a::r).map (jd ts))):=by
 rw[adK,Jz,<-Qa]
 simp[ie]
theorem abl (ts:List Tk)(t:Tk):eO ts t=jk 32 (yQ ts t):=by
 have h1:ie ts true t.after=(jA (t.after=[]) vo (jk 44 (t.after.map (jd ts)))).flatMap (fun s=>32::s):=by
  unfold jA zu
  cases h:t.after with
  | nil=>rfl
  | cons a r=>rw[UK];simp
 have h2:∀ (k v:aq) (n p:Int),v=dec n->iO (32::(k++[61])) n p=(jA (n=p) k v).flatMap (fun s=>32::s):=by
  intro k v n p hv
  subst hv
  unfold iO jA zu
  split<;>simp
 have h3:(if t.on=[] then [] else [32,111,110,61]++t.on)=(jA (t.on=[]) rB t.on).flatMap (fun s=>32::s):=by
  unfold jA zu
  split<;>simp
 have a:=h2 xB _ t.retry 0 rfl
 have b:=h2 wC _ t.wait 10 rfl
 have c:=h2 uX _ t.base 1 rfl
 unfold eO yQ
 rw[Jz,List.flatMap_append,List.flatMap_append,List.flatMap_append,List.flatMap_append,<-h1,<-h3,<-a,<-b,<-c]
 simp only[ae9,List.cons_append,aiT]
theorem ahG {c:Nat}{a:aq}(r:aq)(h:c∉a):cut c (a++c::r)=(a,r,true):=by
 unfold cut
 rw[abI r 0 h,ad6]
 simp only
 rw[List.take_left',List.drop_append]
 ·simp
 ·rfl
theorem adb:∀ j i:Fin 5,i.val<=j.val->∃ k,kg[j.val]? = some k/\61∉k/\(kg.drop i.val).findIdx? (fun a=>k==a)=some (j.val-i.val):=by
 intro j i h
 have:∀ j i:Fin 5,i.val<=j.val->61∉kg[j.val]! /\ (kg.drop i.val).findIdx? (fun a=>kg[j.val]! == a)=some (j.val-i.val):=by decide
 refine⟨kg[j.val]!,?_,this j i h⟩
 have h5:∀ j:Fin 5,kg[j.val]? = some kg[j.val]! := by decide
 exact h5 j
theorem aoh {nms r:List aq}{t:Tk}{i j:Nat}{k v:aq}(hk:kg[j]? = some k)(hi:i<=j):lQ nms (zu k v::r) t (kg.drop i)=match iU t k v nms with | none=>none | some t'=>lQ nms r t' (kg.drop (j+1)):=by
 have hj:j<5:=(aas.1 hk).1
 obtain⟨k',h1,h2,h3⟩:=adb ⟨j,hj⟩ ⟨i,by omega⟩ hi
 rw[hk] at h1
 cases h1
 have hc:=ahG v h2
 rw[lQ]
 unfold zu
 rw[hc]
 simp only
 simp only at h3
 rw[h3]
 simp only
 rw[if_neg (by simp),List.drop_drop]
 rw[show i+(j-i+1)=j+1 by omega]
 try (cases iU t k v nms<;>rfl)
theorem Fy {nms r:List aq}{t t':Tk}{i j:Nat}{k v:aq}{c:Prop} [Decidable c] (hk:kg[j]? = some k) (hi:i<=j) (h1:c->t'=t) (h2:¬ c->iU t k v nms=some t') :
  ∃ i',i'<=j+1/\lQ nms (jA c k v++r) t (kg.drop i)=lQ nms r t' (kg.drop i'):=by
 by_cases hc:c
 ·refine⟨i,by omega,?_⟩
  rw[h1 hc];unfold jA;rw[if_pos hc];rfl
 ·refine⟨j+1,aaH _,?_⟩
  unfold jA;rw[if_neg hc]
  show lQ nms (zu k v::r) t _=_
  rw[aoh hk hi,h2 hc]
theorem WQ:∀ {l:List aq} {i:Nat} {s:aq},l.Nodup->l[i]? = some s->l.findIdx? (fun a=>s==a)=some i
 | [],i,s,_,h=>by simp at h
 | a::l,0,s,hn,h=>by
  simp only[adR,adG] at h
  subst h
  simp[aia]
 | a::l,i+1,s,hn,h=>by
  simp only[adL] at h
  rw[aio] at hn
  have aO:(s==a)=false:=by
   rw[beq_eq_false_iff_ne];intro e;subst e
   exact hn.1 (aaF h)
  rw[aia,aO,WQ hn.2 h];rfl
theorem Er {ts:List Tk}{a:Int}(h0:0<=a)(h1:a<=(ts.length:Int)-1):(names ts)[a.toNat]? = some (jd ts a)/\jd ts a∈names ts:=by
 have hl:a.toNat<(names ts).length:=by unfold names;rw[adV];omega
 have:(names ts)[a.toNat]? = some (jd ts a):=by
  unfold jd
  rw[agQ,aau hl];rfl
 exact⟨this,aaF this⟩
theorem UY {ts:List Tk}(hn:(names ts).Nodup):∀ {l:List Int},(∀ a∈l,0<=a/\a<=(ts.length:Int)-1)->rK (names ts) (l.map (jd ts))=some l
 | [],_=>rfl
 | a::l,h=>by
  obtain⟨a0,a1⟩:=h a (.head _)
  show rK (names ts) (jd ts a::l.map (jd ts))=_
  rw[rK,WQ hn (Er a0 a1).1]
  simp only
  rw[UY hn fun b hb=>h b (.tail _ hb)]
  show some ((a.toNat:Int)::l)=_
  rw[show ((a.toNat:Nat):Int)=a by omega]
structure Fit (ts:List Tk):Prop where
 nd:(names ts).Nodup
 nm:∀ s∈names ts,s≠[]/\s.length<=16/\∀ b∈s,b∈p9
 jn:∀ t∈ts,(∀ a∈t.after,0<=a/\a<=(ts.length:Int)-1)/\t.after.length<=16
 num:∀ t∈ts,0<=t.retry/\t.retry<=8/\1<=t.wait/\t.wait<=1000/\1<=t.base/\t.base<=1000
 on:∀ t∈ts,t.on=[]\/(t.on.length<=16/\∀ b∈t.on,b∈p9)
theorem Fit.afN {ts:List Tk}(h:Fit ts){s:aq}(hs:s∈names ts):44∉s:=fun q=>(Wh 44 ((h.nm s hs).2.2 44 q)).2.1 rfl
theorem af6 {ts:List Tk}(hF:Fit ts){t:Tk}(ht:t∈ts):uv (names ts) (yQ ts t)=some t:=by
 obtain⟨n1,n2,n3,n4,n5,n6⟩:=hF.num t ht
 obtain⟨a1,a2⟩:=hF.jn t ht
 have hm:∀ s∈t.after.map (jd ts),s∈names ts:=fun s hs=>by
  obtain⟨a,ha,rfl⟩:=adD.1 hs
  exact (Er (a1 a ha).1 (a1 a ha).2).2
 unfold uv yQ
 show lQ (names ts) _ ⟨t.name,[],0,10,1,[]⟩ (kg.drop 0)=_
 obtain⟨i1,l1,e1⟩:=Fy (nms:=names ts) (r:=jA (t.retry=0) xB (dec t.retry)++(jA (t.wait=10) wC (dec t.wait)++(jA (t.base=1) uX (dec t.base)++jA (t.on=[]) rB t.on))) (t:=⟨t.name,[],0,10,1,[]⟩) (t':=⟨t.name,t.after,0,10,1,[]⟩) (i:=0) (j:=0) (k:=vo) (v:=jk 44 (t.after.map (jd ts))) (c:=t.after=[]) rfl (aaH _) (fun h=>by rw[h]) fun h=>by
  unfold iU
  rw[if_pos rfl,KX (by simpa using h) fun s hs=>hF.afN (hm s hs),UY hF.nd a1];rfl
 obtain⟨i2,l2,e2⟩:=Fy (nms:=names ts) (r:=jA (t.wait=10) wC (dec t.wait)++(jA (t.base=1) uX (dec t.base)++jA (t.on=[]) rB t.on)) (t:=⟨t.name,t.after,0,10,1,[]⟩) (t':=⟨t.name,t.after,t.retry,10,1,[]⟩) (i:=i1) (j:=1) (k:=xB) (v:=dec t.retry) (c:=t.retry=0) rfl l1 (fun h=>by rw[h]) fun h=>by
  unfold iU
  rw[if_neg (by decide),if_pos rfl,(zA n1 (by omega)).1]
  have e:((t.retry.toNat:Nat):Int)=t.retry:=by omega
  simp only[aek,e]
 obtain⟨i3,l3,e3⟩:=Fy (nms:=names ts) (r:=jA (t.base=1) uX (dec t.base)++jA (t.on=[]) rB t.on) (t:=⟨t.name,t.after,t.retry,10,1,[]⟩) (t':=⟨t.name,t.after,t.retry,t.wait,1,[]⟩) (i:=i2) (j:=2) (k:=wC) (v:=dec t.wait) (c:=t.wait=10) rfl l2 (fun h=>by rw[h]) fun h=>by
  unfold iU
  rw[if_neg (by decide),if_neg (by decide),if_pos rfl,(zA (by omega) n4).1]
  have e:((t.wait.toNat:Nat):Int)=t.wait:=by omega
  simp only[aek,e]
 obtain⟨i4,l4,e4⟩:=Fy (nms:=names ts) (r:=jA (t.on=[]) rB t.on) (t:=⟨t.name,t.after,t.retry,t.wait,1,[]⟩) (t':=⟨t.name,t.after,t.retry,t.wait,t.base,[]⟩) (i:=i3) (j:=3) (k:=uX) (v:=dec t.base) (c:=t.base=1) rfl l3 (fun h=>by rw[h]) fun h=>by
  unfold iU
  rw[if_neg (by decide),if_neg (by decide),if_neg (by decide),if_pos rfl,(zA (by omega) n6).1]
  have e:((t.base.toNat:Nat):Int)=t.base:=by omega
  simp only[aek,e]
 obtain⟨i5,l5,e5⟩:=Fy (nms:=names ts) (r:=[]) (t:=⟨t.name,t.after,t.retry,t.wait,t.base,[]⟩) (t':=t) (i:=i4) (j:=4) (k:=rB) (v:=t.on) (c:=t.on=[]) rfl l4 (fun h=>by rw[<-h]) fun h=>by
  unfold iU
  rw[if_neg (by decide),if_neg (by decide),if_neg (by decide),if_neg (by decide),if_pos rfl,if_neg h]
 rw[ahD] at e5
 rw[List.tail_cons,e1,e2,e3,e4,e5,lQ]
theorem S6 {ts:List Tk}(hF:Fit ts){t:Tk}(ht:t∈ts):∀ s∈yQ ts t,∀ b∈s,b∈p9\/b=44\/b=61:=by
 obtain⟨n1,n2,n3,n4,n5,n6⟩:=hF.num t ht
 obtain⟨a1,a2⟩:=hF.jn t ht
 have aU:∀ (c:Prop) [Decidable c] (k v:aq),(∀ b∈k,b∈p9)->(¬ c->∀ b∈v,b∈p9\/b=44)->∀ s∈jA c k v,∀ b∈s,b∈p9\/b=44\/b=61:=by
  intro c _ k v hk hv s hs b hb
  unfold jA at hs
  split at hs
  ·cases hs
  ·rename_i hc
   rw[No] at hs
   subst hs
   unfold zu at hb
   rw[abV,aaY] at hb
   rcases hb with hb | hb | hb
   ·exact .inl (hk b hb)
   ·exact .inr (.inr hb)
   ·exact (hv hc b hb).imp id .inl
 have Ox:∀ n:Int,0<=n->n<=1000->∀ b∈dec n,b∈p9\/b=44:=fun n h0 h1 b hb=>by
  obtain⟨x,y⟩:=(zA h0 h1).2.2 b hb
  exact .inl (ahJ b x y)
 intro s hs
 unfold yQ at hs
 simp only[aaY,abV] at hs
 rcases hs with rfl | hs | hs | hs | hs | hs
 ·intro b hb
  exact .inl ((hF.nm _ (adD.2 ⟨t,ht,rfl⟩)).2.2 b hb)
 ·refine aU _ _ _ (by decide) (fun _ b hb => ?_) s hs
  rcases Mc hb with rfl | ⟨u,hu,hb⟩
  ·exact .inr rfl
  ·obtain⟨a,ha,rfl⟩:=adD.1 hu
   exact .inl ((hF.nm _ (Er (a1 a ha).1 (a1 a ha).2).2).2.2 b hb)
 ·exact aU _ _ _ (by decide) (fun _=>Ox _ n1 (by omega)) s hs
 ·exact aU _ _ _ (by decide) (fun _=>Ox _ (by omega) n4) s hs
 ·exact aU _ _ _ (by decide) (fun _=>Ox _ (by omega) n6) s hs
 ·refine aU _ _ _ (by decide) (fun hc b hb => ?_) s hs
  rcases hF.on t ht with q | q
  ·exact absurd q hc
  ·exact .inl (q.2 b hb)
theorem okB {b:Nat}(h:b∈p9\/b=44\/b=61):b≠32/\b≠59/\b<256:=by
 rcases h with h | rfl | rfl
 ·have:=Wh b h;omega
 ·decide
 ·decide
theorem aac {ts:List Tk}(hF:Fit ts){t:Tk}(ht:t∈ts):∀ b∈eO ts t,b≠59/\b<256:=by
 intro b hb
 rw[abl] at hb
 rcases Mc hb with rfl | ⟨s,hs,hb⟩
 ·decide
 ·have:=okB (S6 hF ht s hs b hb);omega
theorem Yd {ts:List Tk}(hF:Fit ts){t:Tk}(ht:t∈ts):jK (eO ts t)=yQ ts t:=by
 unfold jK
 rw[abl]
 exact KX (by unfold yQ;simp) fun s hs q=>(okB (S6 hF ht s hs 32 q)).1 rfl
theorem Zk {ts:List Tk}(hF:Fit ts):∀ {us:List Tk},(∀ t∈us,t∈ts)->nq (names ts) (us.map (eO ts))=some us
 | [],_=>rfl
 | u::us,h=>by
  show nq (names ts) (eO ts u::us.map (eO ts))=_
  rw[nq,Yd hF (h u (.head _)),af6 hF (h u (.head _)),Zk hF fun t ht=>h t (.tail _ ht)];rfl
theorem ai4 {ts:List Tk}(h:(List.range ts.length).any (dup ts)=false):(names ts).Nodup:=by
 rw[aiQ] at h
 have key:∀ k,k<=ts.length->(names (ts.take k)).Nodup:=by
  intro k
  induction k with
  | zero=>intro _;rw[ah5];exact ake
  | succ k ih=>
   intro hk
   have hg:ts[k]? = some (ts[k]'(by omega)):=aau (by omega)
   have h1:=h k (aj4.2 (by omega))
   unfold dup at h1
   rw[hg] at h1
   rw[ahw,hg]
   have h2:((names (ts.take k)).any fun s=>s==(ts[k]'(by omega)).name)=false:=by
    simp only at h1
    rwa[agC] at h1
   rw[aiQ] at h2
   unfold names at ih h2 ⊢
   rw[ad8,aff]
   refine⟨ih (by omega),by simp,fun a ha b hb e => ?_⟩
   simp only[Option.toList_some,adK,List.map_nil,No] at hb
   subst hb
   exact h2 a ha (by simp[e])
 have:=key ts.length (aaH _)
 rwa[List.take_length] at this
theorem aoi {ts:List Tk}(h:jc ts=0)(dm:∀ t∈ts,t.after.length<=16):Fit ts/\1<=ts.length/\ts.length<=16:=by
 unfold jc at h
 split at h
 ·cases h
 ·rename_i h1
  split at h
  ·cases h
  ·rename_i h2
   split at h
   ·cases h
   ·rename_i h6
    split at h
    ·cases h
    ·rename_i h3
     split at h
     ·cases h
     ·rename_i h4
      have h1:=ahN.1 h1
      have ha:=IT (by simpa using h4)
      rw[agC,aiQ] at h2 h3
      have hq:∀ t∈ts,vK t=false/\tV t=false/\∀ a∈t.after,0<=a/\a<=(ts.length:Int)-1:=fun t ht=>by
       obtain⟨i,hi⟩:=adQ ht
       have bu:=(aas.1 hi).1
       have a:=h2 i (aj4.2 bu)
       have b:=h3 i (aj4.2 bu)
       unfold p1 at a
       unfold p3 at b
       rw[hi] at a b
       exact⟨by simpa using a,by simpa using b,fun a ha'=>⟨((yi ha hi).1 a ha').1,((yi ha hi).1 a ha').2.1⟩⟩
      refine⟨⟨ai4 (by simpa using h6),fun s hs => ?_,fun t ht=>⟨(hq t ht).2.2,dm t ht⟩,fun t ht => ?_,fun t ht => ?_⟩,h1⟩
      ·obtain⟨t,ht,rfl⟩:=adD.1 hs
       have:=(hq t ht).1
       unfold vK at this
       rw[ajL] at this
       exact Qb (by simpa using this.1)
      ·have:=(hq t ht).2.1
       unfold tV at this
       simp only[ajL,Bool.not_eq_false',aaG,decide_eq_true_eq] at this
       omega
      ·have:=(hq t ht).1
       unfold vK at this
       rw[ajL,Bool.and_eq_false_iff] at this
       rcases this.2 with q | q
       ·exact .inl (by simpa using q)
       ·exact .inr (Qb (by simpa using q)).2
theorem UM {ts:List Tk}:∀ {r:List aq} {l:List Int},rK (names ts) r=some l->l.map (jd ts)=r
 | [],l,h=>by cases h;rfl
 | s::r,l,h=>by
  unfold rK at h
  split at h
  ·rename_i i hi
   rw[aaa] at h
   obtain⟨l',h1,rfl⟩:=h
   rw[adK,UM h1]
   have hs:jd ts (i:Int)=s:=by
    rw[List.findIdx?_eq_some_iff_getElem] at hi
    obtain⟨h2,h3,_⟩:=hi
    have h4:(names ts)[i]=s:=by simpa using (beq_iff_eq.1 h3).symm
    unfold jd
    rw[acT,agQ,aau h2,h4];rfl
   rw[hs]
  ·cases h
theorem apH (ts:List Tk):∀ (l:List Int),l≠[]->(ie ts true l).length=7+(jk 44 (l.map (jd ts))).length/\(ie ts false l).length=1+(jk 44 (l.map (jd ts))).length
 | [],h=>absurd rfl h
 | a::r,_=>by
  constructor
  ·rw[UK];simp;omega
  ·rw[Qa,adK,Jz,List.flatMap_cons];simp;omega
theorem XL (ts:List Tk):∀ (l m:List Int) (f:Bool),(ie ts f (l++m)).length=(ie ts f l).length+(ie ts (f&&l.isEmpty) m).length
 | [],m,f=>by simp[ie]
 | a::l,m,f=>by
  have:=XL ts l m false
  simp[ie] at this ⊢
  omega
theorem acv {ts:List Tk}{t t':Tk}{k v:aq}(h:iU t k v (names ts)=some t'):(eO ts t').length<=(eO ts t).length+k.length+v.length+2/\t'.name=t.name:=by
 have told:∀ (key:aq) (n p q:Int),(iO key n p).length<=(iO key q p).length+key.length+(dec n).length:=by
  intro key n p q
  unfold iO
  split<;>split<;>simp<;>omega
 have ug:∀ {n:Nat},pO v=some n->(dec (n:Int)).length=v.length:=fun h=>by rw[agV h]
 unfold iU at h
 split at h
 ·rename_i hk
  subst hk
  rw[aaa] at h
  obtain⟨l,h1,rfl⟩:=h
  have h2:=UM h1
  have hl:l≠[]:=by
   intro e;subst e
   exact wG 44 v h2.symm
  have h3:=apH ts l hl
  rw[h2,WE] at h3
  have h4:=XL ts t.after l true
  refine⟨?_,rfl⟩
  unfold eO
  simp only[aa0] at h4 ⊢
  have h5:(ie ts (true&&t.after.isEmpty) l).length<=7+v.length:=by
   cases (true&&t.after.isEmpty)
   ·rw[h3.2];omega
   ·rw[h3.1];omega
  show _<=_+5+_+2
  omega
 ·split at h
  ·rename_i _ hk
   subst hk
   rw[aaa] at h
   obtain⟨n,h1,rfl⟩:=h
   refine⟨?_,rfl⟩
   have a:=told [32,114,101,116,114,121,61] (n:Int) 0 t.retry
   have b:=ug h1
   unfold eO
   simp only[aa0,aaN,ads] at a ⊢
   omega
  ·split at h
   ·rename_i _ _ hk
    subst hk
    rw[aaa] at h
    obtain⟨n,h1,rfl⟩:=h
    refine⟨?_,rfl⟩
    have a:=told [32,119,97,105,116,61] (n:Int) 10 t.wait
    have b:=ug h1
    unfold eO
    simp only[aa0,aaN,ads] at a ⊢
    omega
   ·split at h
    ·rename_i _ _ _ hk
     subst hk
     rw[aaa] at h
     obtain⟨n,h1,rfl⟩:=h
     refine⟨?_,rfl⟩
     have a:=told [32,98,97,115,101,61] (n:Int) 1 t.base
     have b:=ug h1
     unfold eO
     simp only[aa0,aaN,ads] at a ⊢
     omega
    ·split at h
     ·rename_i _ _ _ _ hk
      subst hk
      split at h
      ·cases h
      ·rename_i hv
       cases h
       refine⟨?_,rfl⟩
       unfold eO
       simp only[if_neg hv,aa0,aaN,ads]
       omega
     ·rw[aaa] at h
      obtain⟨n,h1,rfl⟩:=h
      exact⟨by omega,rfl⟩
theorem alb {c:Nat}{s:aq}(h:(cut c s).1.length≠s.length):s.length=(cut c s).1.length+1+(cut c s).2.1.length:=by
 unfold cut at h ⊢
 cases hi:jD c s 0 with
 | none=>rw[hi] at h;exact absurd rfl h
 | some i=>
  obtain⟨a,r,rfl,h2,h3⟩:=HV hi
  rw[ad6] at h2
  subst h2
  simp
  omega
theorem abM {ts:List Tk}:∀ {r:List aq} {t t':Tk} {ks:List aq},lQ (names ts) r t ks=some t'->(eO ts t').length<=(eO ts t).length+cO r+r.length/\t'.name=t.name
 | [],t,t',ks,h=>by cases h;exact⟨by simp,rfl⟩
 | s::r,t,t',ks,h=>by
  unfold lQ at h
  split at h
  ·cases h
  ·split at h
   ·cases h
   ·rename_i aO
    split at h
    ·cases h
    ·rename_i t1 h1
     obtain⟨a1,a2⟩:=acv h1
     obtain⟨b1,b2⟩:=abM h
     have:=alb aO
     have hs:cO (s::r)=s.length+cO r:=by simp[cO]
     refine⟨?_,b2.trans a2⟩
     rw[hs];simp only[aaN];omega
theorem aeL {ts:List Tk}{p:aq}{t:Tk}(h:uv (names ts) (jK p)=some t):(eO ts t).length<=p.length:=by
 unfold uv at h
 obtain⟨h1,h2⟩:=abM h
 have h3:cO (jK p)+(jK p).length=p.length+1:=C6 32 p
 have aO:jK p≠[]:=wG 32 p
 cases hw:jK p with
 | nil=>exact absurd hw aO
 | cons a b=>
  rw[hw] at h1 h3
  have e:eO ts ⟨(a::b).headD [],[],0,10,1,[]⟩=a:=by simp[eO,ie,iO]
  rw[e] at h1
  have hs:cO (a::b)=a.length+cO b:=by simp[cO]
  rw[hs] at h3
  simp only[List.tail_cons,aaN] at h1 h3
  omega
theorem Yu {nms:List aq}:∀ {r:List aq} {t t':Tk} {ks:List aq},lQ nms r t ks=some t'->t'.name=t.name
 | [],t,t',ks,h=>by cases h;rfl
 | s::r,t,t',ks,h=>by
  unfold lQ at h
  split at h
  ·cases h
  ·split at h
   ·cases h
   ·split at h
    ·cases h
    ·rename_i t1 h1
     rw[Yu h]
     unfold iU at h1
     split at h1
     ·rw[aaa] at h1;obtain⟨m,_,rfl⟩:=h1;rfl
     ·split at h1
      ·rw[aaa] at h1;obtain⟨m,_,rfl⟩:=h1;rfl
      ·split at h1
       ·rw[aaa] at h1;obtain⟨m,_,rfl⟩:=h1;rfl
       ·split at h1
        ·rw[aaa] at h1;obtain⟨m,_,rfl⟩:=h1;rfl
        ·split at h1
         ·split at h1
          ·cases h1
          ·cases h1;rfl
         ·rw[aaa] at h1;obtain⟨m,_,rfl⟩:=h1;rfl
theorem U0 {nms:List aq}:∀ {r:List aq} {ts:List Tk},nq nms r=some ts->names ts=r.map oD
 | [],ts,h=>by cases h;rfl
 | s::r,ts,h=>by
  unfold nq at h
  split at h
  ·cases h
  ·rename_i t ht
   rw[aaa] at h
   obtain⟨l,h1,rfl⟩:=h
   have h2:=U0 h1
   unfold uv at ht
   have h3:=Yu ht
   unfold names at h2 ⊢
   rw[adK,adK,h2,h3]
theorem UE {ts:List Tk}:∀ {r:List aq} {us:List Tk},nq (names ts) r=some us->cO (us.map (eO ts))<=cO r/\us.length=r.length
 | [],us,h=>by cases h;exact⟨aaH _,rfl⟩
 | s::r,us,h=>by
  unfold nq at h
  split at h
  ·cases h
  ·rename_i t ht
   rw[aaa] at h
   obtain⟨l,h1,rfl⟩:=h
   obtain⟨a,b⟩:=UE h1
   have c:=aeL ht
   simp only[cO,adK,ajY,aaN] at a b c ⊢
   omega
theorem WZ {ts:List Tk}(hn:ts.length<=16)(ha:uD ts):∀ t∈ts,t.after.length<=16:=fun t ht=>by
 obtain⟨i,hi⟩:=adQ ht
 obtain⟨x1,x2⟩:=yi ha hi
 have:=Kp (n:=ts.length) (fun a h=>⟨(x1 a h).1,(x1 a h).2.1⟩) x2
 omega
theorem We {text:aq}(h:(aN text).2=0):jc (aN text).1=0/\Fit (aN text).1/\1<=(aN text).1.length/\(aN text).1.length<=16/\(o8 (aN text).1).length<=text.length/\text.length<=1024/\aN (o8 (aN text).1)=((aN text).1,0):=by
 obtain⟨g1,g2,g3,g4,g5,g6⟩:=LU h
 have dm:=WZ g3 g4
 obtain⟨hF,f1,f2⟩:=aoi g1 dm
 have hb:¬ 1024<text.length:=fun hb=>by unfold aN at h;rw[if_pos hb] at h;cases h
 have qJ:nq ((cx 59 text).map oD) (cx 59 text)=some (aN text).1:=by
  unfold aN at h ⊢
  rw[if_neg hb] at h ⊢
  cases hq:nq ((cx 59 text).map oD) (cx 59 text) with
  | none=>rw[hq] at h;cases h
  | some ts=>
   rw[hq] at h
   simp only at h ⊢
   by_cases h0:jc ts=0
   ·rw[if_pos h0]
   ·rw[if_neg h0] at h;exact absurd h h0
 generalize (aN text).1=ts at *
 have Mi:=U0 qJ
 rw[<-Mi] at qJ
 obtain⟨s1,s2⟩:=UE qJ
 have mh:=C6 59 text
 have aO:ts.map (eO ts)≠[]:=by
  intro e
  have:(ts.map (eO ts)).length=0:=by rw[e];rfl
  rw[adV] at this;omega
 have pW:=Zu 59 _ aO
 rw[adV] at pW
 have mJ:o8 ts=jk 59 (ts.map (eO ts)):=by unfold o8;rw[if_pos g1]
 have hlen:(o8 ts).length<=text.length:=by rw[mJ];omega
 refine⟨g1,hF,f1,f2,hlen,by omega,?_⟩
 have akz:cx 59 (o8 ts)=ts.map (eO ts):=by
  rw[mJ]
  refine KX aO fun p hp q => ?_
  obtain⟨t,ht,rfl⟩:=adD.1 hp
  exact (aac hF ht 59 q).1 rfl
 have al8:(ts.map (eO ts)).map oD=names ts:=by
  rw[akI]
  unfold names
  refine List.map_congr_left fun t ht => ?_
  show oD (eO ts t)=t.name
  unfold oD
  rw[Yd hF ht];rfl
 unfold aN
 rw[if_neg (by omega),akz,al8,Zk hF fun t ht=>ht]
 simp only
 rw[if_pos g1]
theorem Vo (k:IntKind)(a:Int):same (.int k a) (.int k a)=true:=by cases k<;>simp[same,n0]
theorem P8 {key:aq}{n p:Int}(hk:key.length<=100)(h0:0<=n)(h1:n<=1000){H:Hp}(hg:Gl H):∃ H',cK (.func (.func 92) [] []) [.str key,.int .i64 n,.int .i64 p] H=some (.str (iO key n p),H')/\Out [] H H':=by
 by_cases he:n=p
 ·have d:(n==p)=true:=beq_iff_eq.2 he
  refine⟨H,Uq ?_,Out.refl _ _⟩
  unfold Mu iO
  simp only[d,if_pos he,aj,ai,Int.reduceBEq,Int.reduceBNe,Int.reduceLT,Int.reduceLE,Int.reduceGT,Int.reduceGE,Int.reduceNeg]
 ·have d:(n==p)=false:=beq_eq_false_iff_ne.2 he
  obtain⟨H',i1,i2⟩:=HZ (n:=n) (by omega) (by omega) hg
  have hl:=(zA h0 h1).2.1
  have hs:=tG (a:=key) (b:=dec n) (by omega)
  refine⟨H',Uq ?_,i2⟩
  unfold Mu iO
  simp only[d,if_neg he,i1,hs,aj,ai,Int.reduceBEq,Int.reduceBNe,Int.reduceLT,Int.reduceLE,Int.reduceGT,Int.reduceGE,Int.reduceNeg]
theorem CU {key:aq}{n p:Int}(h0:0<=n)(h1:n<=1000):(iO key n p).length<=key.length+4:=by
 unfold iO
 split
 ·simp
 ·have:=(zA h0 h1).2.1
  rw[aa0];omega
theorem Wc {ts:List Tk}(hF:Fit ts){a:Int}(h0:0<=a)(h1:a<=(ts.length:Int)-1):(jd ts a).length<=16:=(hF.nm _ (Er h0 h1).2).2.1
theorem O6 {ts:List Tk}{dx:AV}{xs:List AV}{D:Nat}{l:List Int}{lx bU cF cJ cG dV:AV}{H:Hp}(hF:Fit ts)(hl:l.length<=16)(ha:∀ a∈l,0<=a/\a<=(ts.length:Int)-1)(eY:Rw H 1 lx (ints l))(hD:cellAt H D 0=some dx)(hR:RD H dx xs ts)(aD:K.Fn 1)(aF:K.Fn 5)(gu:K.Fn 7) :
  ∀ (r:List Int) (k:Nat) (s:aq),k<=l.length->l.drop k=r->s.length<=100+100*k->
  FZ JN GO cK aD aF gu (.ptr D 0) dV bU (.str s) cF cJ cG lx (.int .i64 (l.length:Nat)) (.int .i64 (k:Nat)) H=gu (.ptr D 0) dV bU (.str (s++ie ts (k==0) r)) cF cJ cG H
 | [],k,s,hk,h,hs=>by
  obtain rfl:=drop_nil hk h
  rw[Qs]
  simp only[Lm,fZ,ie,ahD,aj,ai,Int.reduceBEq,Int.reduceBNe,Int.reduceLT,Int.reduceLE,Int.reduceGT,Int.reduceGE,Int.reduceNeg]
 | a::r,k,s,hk,h,hs=>by
  obtain⟨h1,h2,h3⟩:=gy h
  obtain⟨q,q1,q2⟩:=eY.mb (Di h2) .i64
  have es:=gq h1 (by omega)
  obtain⟨a0,a1⟩:=ha a (aaF h2)
  have ic:=Wc hF a0 a1
  obtain⟨m,rfl⟩:∃ m:Nat,a=m:=⟨a.toNat,by omega⟩
  have hm:ts[m]? = some (ts[m]'(by omega)):=aau (by omega)
  obtain⟨x,b,o,g0,g1,g2,g3,g4,g5,g6⟩:=hR.at hm
  have Mi:(ts[m]'(by omega)).name=jd ts (m:Int):=by
   have:=(Er a0 a1).1
   unfold names at this
   rw[acT,adX,hm] at this
   simpa using this
  rw[Mi] at g6
  cases k with
  | zero=>
   have s1:=tG (a:=s) (b:=[32,97,102,116,101,114,61]) (by simp;omega)
   have s2:=tG (a:=s++[32,97,102,116,101,114,61]) (b:=jd ts (m:Int)) (by simp;omega)
   have ih:=O6 (dV:=dV) (bU:=bU) (cF:=cF) (cJ:=cJ) (cG:=cG) hF hl ha eY hD hR aD aF gu r 1 (s++[32,97,102,116,101,114,61]++jd ts (m:Int)) (by omega) h3 (by simp;omega)
   have e:s++ie ts ((0:Nat)==0) ((m:Int)::r)=s++[32,97,102,116,101,114,61]++jd ts (m:Int)++ie ts ((1:Nat)==0) r:=by simp[ie]
   have d0:(((0:Nat):Int)==0)=true:=rfl
   rw[e,Qs]
   simp(disch:=first|exact zqq|fail)only[Lm,bH h1,q1,q2,d0,s1,hD,g3,g6,s2,es,ih,ar,au,Nat.reduceAdd,aj,ai,Int.reduceBEq,Int.reduceBNe,Int.reduceLT,Int.reduceLE,Int.reduceGT,Int.reduceGE,Int.reduceNeg]
  | succ k=>
   have s1:=tG (a:=s) (b:=[44]) (by simp;omega)
   have s2:=tG (a:=s++[44]) (b:=jd ts (m:Int)) (by simp;omega)
   have ih:=O6 (dV:=dV) (bU:=bU) (cF:=cF) (cJ:=cJ) (cG:=cG) hF hl ha eY hD hR aD aF gu r (k+1+1) (s++[44]++jd ts (m:Int)) (by omega) h3 (by simp;omega)
   have e:s++ie ts ((k+1)==0) ((m:Int)::r)=s++[44]++jd ts (m:Int)++ie ts ((k+1+1)==0) r:=by simp[ie]
   have d0:(((k+1:Nat):Int)==0)=false:=beq_false_of_ne (by omega)
   rw[e,Qs]
   simp(disch:=first|exact zqq|fail)only[Lm,bH h1,q1,q2,d0,s1,hD,g3,g6,s2,es,ih,ar,au,Nat.reduceAdd,aj,ai,Int.reduceBEq,Int.reduceBNe,Int.reduceLT,Int.reduceLE,Int.reduceGT,Int.reduceGE,Int.reduceNeg]
theorem V9 {ts:List Tk}(hF:Fit ts):∀ {l:List Int} (f:Bool),(∀ a∈l,0<=a/\a<=(ts.length:Int)-1)->(ie ts f l).length<=23*l.length
 | [],f,_=>by simp[ie]
 | a::r,f,h=>by
  obtain⟨h0,h1⟩:=h a (.head _)
  have:=Wc hF h0 h1
  have ih:=V9 hF (l:=r) false fun b hb=>h b (.tail _ hb)
  cases f<;>simp[ie]<;>omega
theorem Q8 {ts:List Tk}(hF:Fit ts){t:Tk}(ht:t∈ts):(t.name++ie ts true t.after).length<=400/\(eO ts t).length<=600:=by
 obtain⟨n1,n2,n3,n4,n5,n6⟩:=hF.num t ht
 obtain⟨a1,a2⟩:=hF.jn t ht
 have b1:=(hF.nm _ (adD.2 ⟨t,ht,rfl⟩)).2.1
 have b2:=V9 hF true a1
 have c1:=CU (key:=[32,114,101,116,114,121,61]) (p:=0) n1 (by omega)
 have c2:=CU (key:=[32,119,97,105,116,61]) (p:=10) (show 0<=t.wait by omega) n4
 have c3:=CU (key:=[32,98,97,115,101,61]) (p:=1) (show 0<=t.base by omega) n6
 have c4:(if t.on=[] then [] else [32,111,110,61]++t.on).length<=20:=by
  split
  ·simp
  ·rcases hF.on t ht with q | q
   ·contradiction
   ·simp;omega
 simp only[aaN,ads] at c1 c2 c3
 refine⟨by rw[aa0];omega,?_⟩
 unfold eO
 simp only[aa0] at c4 ⊢
 omega
theorem Zc {ts:List Tk}{dx:AV}{xs:List AV}{D:Nat}(hF:Fit ts)(hn:ts.length<=16)(FN:11<=D) :
  ∀ (r:List Tk) (i:Nat) (H:Hp) (lx:AV),i<=ts.length->ts.drop i=r->Gl H->cellAt H D 0=some dx->D<H.next->RD H dx xs ts->Ow H 9 1 lx (strs ((ts.take i).map (eO ts)))->(∀ j∈ak lx,j≠D/\j∉lD dx xs/\11<=j)->
  ∃ sR H',(∀ aD:K.Fn 1,Hz JN GO cK aD (.ptr D 0) lx dx (.int .i64 (ts.length:Nat)) (.int .i64 (i:Nat)) H=aD sR H')/\Rw H' 1 sR (strs (ts.map (eO ts)))/\Out (ak lx) H H'
 | [],i,H,lx,hi,h,hg,hD,vN,hR,hO,hd=>by
  obtain rfl:=drop_nil hi h
  refine⟨lx,H,fun aD => ?_,by rw[List.take_length] at hO;exact hO.rw,Out.refl _ _⟩
  rw[OC]
  simp only[ES,fZ,aj,ai,Int.reduceBEq,Int.reduceBNe,Int.reduceLT,Int.reduceLE,Int.reduceGT,Int.reduceGE,Int.reduceNeg]
 | t::r,i,H,lx,hi,h,hg,hD,vN,hR,hO,hd=>by
  obtain⟨h1,h2,h3⟩:=gy h
  have ht:=aaF h2
  obtain⟨x,b,o,q0,q1,q2,q3,q4,q5,q6⟩:=hR.at h2
  have es:=gq h1 (by omega)
  obtain⟨n1,n2,n3,n4,n5,n6⟩:=hF.num t ht
  obtain⟨a1,a2⟩:=hF.jn t ht
  obtain⟨e0,e1,e2,e3,e4,e5⟩:=uh t x
  have o1:=aJ H (aK t x) 99 0
  have cT:=bo H (aK t x) 99 0
  have hD1:cellAt (al H (aK t x) 99 0) D 0=some dx:=by rw[tw vN];exact hD
  have oh:=hR.out0 o1
  have hl:=q2.mZ
  rw[lW] at hl
  obtain⟨l1,l2⟩:=Q8 hF ht
  have aqB:t.name.length<=16:=(hF.nm _ (adD.2 ⟨t,ht,rfl⟩)).2.1
  have s1:=fun aD aF gu=>O6 (dV:=lx) (bU := .ptr H.next 0) (cF:=dx) (cJ := .int .i64 (ts.length:Nat)) (cG := .int .i64 (i:Nat)) hF a2 a1 (q2.out0 o1) hD1 oh aD aF gu t.after 0 t.name (ac4 _) ada (by omega)
  rw[show (((0:Nat):Int))=0 from rfl] at s1
  have s1':((0:Nat)==0)=true:=rfl
  rw[s1'] at s1
  have aC:=yA t x q1 H
  obtain⟨H2,t1,o2⟩:=P8 (key:=[32,114,101,116,114,121,61]) (p:=0) (by decide) n1 (by omega) (hg.out0 o1)
  obtain⟨H3,t2,o3⟩:=P8 (key:=[32,119,97,105,116,61]) (p:=10) (by decide) (show 0<=t.wait by omega) n4 (hg.out0 (o1.trans o2))
  obtain⟨H4,t3,o4⟩:=P8 (key:=[32,98,97,115,101,61]) (p:=1) (by decide) (show 0<=t.base by omega) n6 (hg.out0 ((o1.trans o2).trans o3))
  have c2:=cT.out o2 (by simp)
  have c3:=c2.out o3 (by simp)
  have c4:=c3.out o4 (by simp)
  have k1:cellAt (al H (aK t x) 99 0) H.next 3=some (.int .i64 t.wait):=cT.cellAt e3
  have k2:cellAt (al H (aK t x) 99 0) H.next 4=some (.int .i64 t.base):=cT.cellAt e4
  have k3:cellAt H2 H.next 3=some (.int .i64 t.wait):=c2.cellAt e3
  have k4:cellAt H2 H.next 4=some (.int .i64 t.base):=c2.cellAt e4
  have k5:cellAt H3 H.next 4=some (.int .i64 t.base):=c3.cellAt e4
  have k6:cellAt H4 H.next 5=some (.str t.on):=c4.cellAt e5
  have b1:=CU (key:=[32,114,101,116,114,121,61]) (p:=0) n1 (by omega)
  have b2:=CU (key:=[32,119,97,105,116,61]) (p:=10) (show 0<=t.wait by omega) n4
  have b3:=CU (key:=[32,98,97,115,101,61]) (p:=1) (show 0<=t.base by omega) n6
  simp only[aaN,ads] at b1 b2 b3
  have u1:=tG (a:=iO [32,114,101,116,114,121,61] t.retry 0) (b:=iO [32,119,97,105,116,61] t.wait 10) (by omega)
  have u2:=tG (a:=iO [32,114,101,116,114,121,61] t.retry 0++iO [32,119,97,105,116,61] t.wait 10) (b:=iO [32,98,97,115,101,61] t.base 1) (by rw[aa0];omega)
  have u3:=tG (a:=t.name++ie ts true t.after) (b:=iO [32,114,101,116,114,121,61] t.retry 0++iO [32,119,97,105,116,61] t.wait 10++iO [32,98,97,115,101,61] t.base 1) (by simp only[aa0] at l1 ⊢;omega)
  have mL:Out [] H H4:=((o1.trans o2).trans o3).trans o4
  have ard:=mL.nx
  have pV:(ts.take (i+1)).map (eO ts)=(ts.take i).map (eO ts)++[eO ts t]:=by rw[ahw,h2];simp
  obtain⟨TL,H5,p1,p2,p3,p4,p5⟩:=uf (fJ:=9) (z:=[(.str [])]) (vs:=[.str (eO ts t)]) (hO.out mL (by simp)) rfl rfl (by decide) (by simp[strs];omega)
  have pH:strs ((ts.take i).map (eO ts))++[.str (eO ts t)]=strs ((ts.take (i+1)).map (eO ts)):=by rw[pV];simp[strs]
  rw[pH] at p2
  have o5:Out (ak lx) H H5:=(mL.mono fun j hj=>by cases hj).trans p3
  have hn5:=p3.nx
  have ff:=hR.lt
  have zg:∀ j∈ak TL,j≠D/\j∉lD dx xs/\11<=j:=fun j hj=>(p4 j hj).elim (hd j) fun z=>⟨by omega,fun y=>by have:=ff j y;omega,by omega⟩
  obtain⟨sR,H',i1,i2,i3⟩:=Zc hF hn FN r (i+1) H5 TL h1 h3 (hg.out o5 fun j hj=>(hd j hj).2.2) (by rw[o5.cellAt vN fun z=>(hd D z).1 rfl];exact hD) (by omega) (hR.out o5 fun j hj z=>(hd j z).2.1 hj) p2 zg
  have iM:=p1 _ rfl
  refine⟨sR,H',fun aD => ?_,i2,o5.then i3 fun j hj=>(p4 j hj).imp id fun z=>by omega⟩
  have TZ:eO ts t=((t.name++ie ts true t.after)++((iO [32,114,101,116,114,121,61] t.retry 0++iO [32,119,97,105,116,61] t.wait 10)++iO [32,98,97,115,101,61] t.base 1))++(if t.on=[] then [] else [32,111,110,61]++t.on):=rfl
  generalize iO [32,114,101,116,114,121,61] t.retry 0=T1 at *
  generalize iO [32,119,97,105,116,61] t.wait 10=T2 at *
  generalize iO [32,98,97,115,101,61] t.base 1=T3 at *
  generalize t.name++ie ts true t.after=s0 at *
  generalize eO ts t=sT at *
  by_cases sY:t.on=[]
  ·have d:(t.on==([]:aq))=true:=by rw[sY];rfl
   have oz:s0++(T1++T2++T3)=sT:=by
    rw[TZ,if_pos sY,ahD]
   rw[oz] at u3
   rw[OC]
   simp(disch:=first|exact zqq|fail)only[ES,bH h1,q3,q5,aC,e0,e1,e2,hl,s1,t1,t2,t3,k1,k2,k3,k4,k5,k6,u1,u2,u3,lK (Vo _ _),d,iM,es,i1,ar,au,Nat.reduceAdd,aj,ai,Int.reduceBEq,Int.reduceBNe,Int.reduceLT,Int.reduceLE,Int.reduceGT,Int.reduceGE,Int.reduceNeg]
  ·have d:(t.on==([]:aq))=false:=by simp[sY]
   have jg:t.on.length<=16:=(hF.on t ht).elim (fun q=>absurd q sY) fun q=>q.1
   have u4:=tG (a:=[32,111,110,61]) (b:=t.on) (by simp;omega)
   have u5:=tG (a:=s0++(T1++T2++T3)) (b:=[32,111,110,61]++t.on) (by simp only[aa0,aaN,ads] at l1 ⊢;omega)
   have oz:s0++(T1++T2++T3)++([32,111,110,61]++t.on)=sT:=by
    rw[TZ,if_neg sY]
   rw[oz] at u5
   rw[OC]
   simp(disch:=first|exact zqq|fail)only[ES,bH h1,q3,q5,aC,e0,e1,e2,hl,s1,t1,t2,t3,k1,k2,k3,k4,k5,k6,u1,u2,u3,u4,u5,lK (Vo _ _),d,iM,es,i1,ar,au,Nat.reduceAdd,aj,ai,Int.reduceBEq,Int.reduceBNe,Int.reduceLT,Int.reduceLE,Int.reduceGT,Int.reduceGE,Int.reduceNeg]
theorem ae0 {ts:List Tk}{dx:AV}{xs:List AV}{H:Hp}(hg:Gl H)(hF:Fit ts)(h1:1<=ts.length)(hn:ts.length<=16)(Yf:jc ts=0)(hR:RD H dx xs ts) :
  ∃ H',cK (.func (.func 55) [] []) [dv dx] H=some (.str (o8 ts),H')/\Out [] H H':=by
 have gp:=hR.row.one
 have fO:=hR.bq
 have o1:=aJ H [dx] 72 0
 have KM:=hg.nx
 have hc:av (al H [dx] 72 0) H.next 0 1=some [dx]:=El rfl (by simp)
 obtain⟨H2,g1,o2⟩:=Oc (ts:=ts) (by omega) (fun t ht=>by have:=(hF.jn t ht).2;omega) (hR.out0 o1)
 rw[Yf] at g1
 have gK:=o2.nx
 rw[bI] at gK
 have XX:cellAt H2 H.next 0=some dx:=by rw[o2.cellAt (by rw[bI];omega) (by simp),vc rfl];rfl
 have gN:=(hR.out0 o1).out0 o2
 have aW:bx 72 (.agg [dx]) H=some (H.next,al H [dx] 72 0):=iW (by simp)
 obtain⟨lx,H3,l1,l2,l3⟩:=Zc (D:=H.next) hF hn (by omega) ts 0 H2 .ah (ac4 _) ada (hg.out0 (o1.trans o2)) XX (by omega) gN .nil (fun j hj=>by cases hj)
 rw[show (((0:Nat):Int))=0 from rfl] at l1
 have l3':Out [] H2 H3:=l3
 have rj:∀ us:List Tk,(∀ t∈us,t∈ts)->cO (us.map (eO ts))<=600*us.length:=by
  intro us
  induction us with
  | nil=>intro _;simp[cO]
  | cons u us ih=>
   intro h
   have a:=ih fun t ht=>h t (.tail _ ht)
   have b:=(Q8 hF (h u (.head _))).2
   simp only[cO,adK,ajY,aaN] at a ⊢
   omega
 have hs:=rj ts fun t ht=>ht
 obtain⟨H4,j1,j2⟩:=TG (sep:=[59]) rfl l2 (by rw[adV];omega) (fun s hs=>by
  obtain⟨t,ht,rfl⟩:=adD.1 hs
  have:=(Q8 hF ht).2;omega) (by omega) (fun s hs b hb=>by
  rcases aaY.1 hs with rfl | hs
  ·rw[No] at hb;subst hb;decide
  ·obtain⟨t,ht,rfl⟩:=adD.1 hs
   exact (aac hF ht b hb).2)
 rw[TX] at j1
 have mJ:o8 ts=jk 59 (ts.map (eO ts)):=by unfold o8;rw[if_pos Yf]
 rw[<-mJ] at j1
 refine⟨H4,ahR ?_,((o1.trans o2).trans l3').trans j2⟩
 have d:((0:Int) != 0)=false:=rfl
 unfold Pd
 simp(disch:=first|exact zqq|fail)only[aW,hc,g1,d,XX,fO,l1,j1,ar,au,Nat.reduceAdd,aj,ai,Int.reduceBEq,Int.reduceBNe,Int.reduceLT,Int.reduceLE,Int.reduceGT,Int.reduceGE,Int.reduceNeg]
end Go.Proofs.YtodfajmihkagnaaGreatDoor.DfK
