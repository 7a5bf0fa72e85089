/- Laws that the proof uses. -/
import Derived.Test.YtodfajmihkagnaaGreatDoorDfM
set_option linter.unusedVariables false
set_option linter.unusedSimpArgs false
set_option maxRecDepth 10000
set_option maxHeartbeats 1000000
namespace Go.Proofs.YtodfajmihkagnaaGreatDoor.DfK
open Go Am Am.K kb mc jR nU
theorem Cx (c:Nat):∀ s:aq,cN (cq c s)+(cq c s).length=s.length+1
 | []=>rfl
 | b::s=>by
  have ih:=Cx c s
  unfold cq
  by_cases h:b=c
  ·rw[if_pos h];simp only[cN,acW,aiv,acG,aaL] at *;omega
  ·rw[if_neg h]
   cases hs:cq c s with
   | nil=>exact absurd hs (wT c s)
   | cons x y=>rw[hs] at ih;simp only[cN,acW,aiv,aaL] at *;omega
abbrev jJ (s:aq):List aq:=cq 32 s
abbrev nV (s:aq):aq:=(jJ s).headD []
structure PS (H:Hp)(rx nx:AV)(rws:List AV)(ps:List aq):Prop where
 r:Ow H 46 1 rx rws
 n:Ow H 9 1 nx (strs (ps.map nV))
 len:rws.length=ps.length
 w:∀ (i:Nat) (wx:AV) (s:aq),rws[i]? = some wx->ps[i]? = some s->Rw H 1 wx (strs (jJ s))
 dw:∀ wx∈rws,∀ j∈ak wx,j∉ak rx/\j∉ak nx
 dn:∀ j∈ak rx,j∉ak nx
theorem Zv {R:AV}{px:AV}{ps:List aq}{B:Nat}(mz:ps.length<=5000)(kR:∀ s∈ps,s.length<=5000):∀ (r:List aq) (i:Nat) (H:Hp) (rx nx:AV) (rws:List AV),i<=ps.length->ps.drop i=r->Rw H 1 px (strs ps)->PS H rx nx rws (ps.take i)->(∀ j∈ak px,j∉ak rx/\j∉ak nx)->B<=H.next->(∀ j,j∈ak rx\/j∈ak nx->B<=j)->(∀ wx∈rws,∀ j∈ak wx,B<=j)->
  ∃ eA fY Jm H' S,(∀ jg:K.Fn 3,EB JN GO cK jg R rx nx px (.int .i64 (ps.length:Nat)) (.int .i64 (i:Nat)) H=jg R eA fY H')/\PS H' eA fY Jm ps/\Out S H H'/\(∀ j∈S,B<=j)/\(∀ j,j∈ak eA\/j∈ak fY->B<=j)/\(∀ wx∈Jm,∀ j∈ak wx,B<=j)
 | [],i,H,rx,nx,rws,hi,h,LG,hP,hd,hB,hr,hw=>by
  obtain rfl:=drop_nil hi h
  rw[ae3 (aaC _)] at hP
  refine⟨rx,nx,rws,H,[],fun jg => ?_,hP,Out.refl _ _,(fun j hj=>by cases hj),hr,hw⟩
  rw[abv]
  simp only[KU,fU,ai,aj,simprocAttr]
 | s::r,i,H,rx,nx,rws,hi,h,LG,hP,hd,hB,hr,hw=>by
  obtain⟨h1,h2,h3⟩:=gG h
  obtain⟨q,q1,q2⟩:=LG.lK (yE h2) .i64
  have es:=gf h1 (by omega)
  have oK:=kR s (aao h2)
  have ql:ps.take (i+1)=ps.take i++[s]:=by rw[agZ,h2];rfl
  have br:(ps.take i).length=i:=by rw[aes];omega
  obtain⟨wx,H1,s1,s2,s3,s4⟩:=N9 (c:=32) (by decide) (s:=s) (by omega) H
  have jF:=s3.nx
  have zZ:=s2.lt
  have ff:=hP.r.rw.lt
  have hU:=hP.n.rw.lt
  obtain⟨LD,H2,p1,p2,p3,p4,p5⟩:=uE (fH:=46) (z:=[.ah]) (vs:=[wx]) (hP.r.out s3 (by simp)) (by simp[s2.one]) rfl (by decide) (by rw[hP.len,br];simp;omega)
  have gL:=p3.nx
  have GF:Rw H2 1 wx (strs (jJ s)):=s2.out p3 fun j hj z=>by have:=s4 j hj;have:=ff j z;omega
  have hN2:Ow H2 9 1 nx (strs ((ps.take i).map nV)):=(hP.n.out s3 (by simp)).out p3 fun j hj z=>hP.dn j z hj
  obtain⟨w0,w1,U6⟩:∃ a b,jJ s=a::b:=by
   cases hs:jJ s with
   | nil=>exact absurd hs (wT 32 s)
   | cons a b=>exact⟨a,b,rfl⟩
  obtain⟨y,y1,y2⟩:=GF.lK (i:=0) (v := .str w0) (by rw[U6];rfl) .i64
  rw[show (((0:Nat):Int))=0 from rfl] at y1
  obtain⟨M3,H3,n1,n2,n3,n4,n5⟩:=uE (fH:=9) (z:=[.str []]) (vs:=[.str w0]) hN2 rfl rfl (by decide) (by rw[iZ,ads,br];simp;omega)
  have xu:=n3.nx
  have hh:nV s=w0:=by show (jJ s).headD []=w0;rw[U6];rfl
  have aeX:strs ((ps.take i).map nV)++[.str w0]=strs ((ps.take (i+1)).map nV):=by rw[ql,adI,HW,acW,List.map_nil,hh];rfl
  rw[aeX] at n2
  have iQ:=p1 _ rfl
  have n1':=n1 _ rfl
  have Dz:∀ j∈ak LD,j∈ak rx\/H1.next<=j:=p4
  have Bl:∀ j∈ak M3,j∈ak nx\/H2.next<=j:=n4
  have aiM:∀ j∈ak LD,j<H2.next:=p2.rw.lt
  have ahq:∀ wy∈rws,∀ j∈ak wy,j<H.next:=fun wy lO j hj=>by
   obtain⟨k,hk⟩:=adi lO
   have jS:=(aah.1 hk).1
   rw[hP.len] at jS
   exact (hP.w k wy _ hk (aai jS)).lt j hj
  have o2:Out (ak rx) H H2:=(s3.mono fun j hj=>by cases hj).trans p3
  have o3:Out (ak rx++ak nx) H H3:=(o2.mono fun j hj=>abG _ hj).trans (n3.mono fun j hj=>abr _ hj)
  have El:PS H3 LD M3 (rws++[wx]) (ps.take (i+1)):=by
   refine⟨p2.out n3 fun j hj z => ?_,n2,by rw[aaX,hP.len,ql,aaX];rfl,fun k wy t hk ht => ?_,fun wy lO j hj => ?_,fun j hj z => ?_⟩
   ·rcases Dz j hj with y | y
    ·exact hP.dn j y z
    ·have:=hU j z;omega
   ·rw[ql] at ht
    by_cases hki:k<i
    ·rw[abO (by rw[hP.len,br];exact hki)] at hk
     rw[abO (by rw[br];exact hki)] at ht
     have hm:=aao hk
     exact (hP.w k wy t hk ht).out o3 fun j hj z=>(abL.1 z).elim (hP.dw wy hm j hj).1 (hP.dw wy hm j hj).2
    ·have fN:=(aah.1 ht).1
     rw[aaX,br] at fN
     obtain rfl:k=i:=by simp at fN;omega
     rw[abT (by rw[hP.len,br];exact aaC _),hP.len,br,ahb] at hk
     rw[abT (by rw[br];exact aaC _),br,ahb] at ht
     cases hk;cases ht
     exact GF.out n3 fun j hj z=>by have:=s4 j hj;have:=hU j z;omega
   ·rcases abL.1 lO with lO | lO
    ·have hjo:=ahq wy lO j hj
     exact⟨fun z=>(Dz j z).elim (hP.dw wy lO j hj).1 fun y=>by omega,fun z=>(Bl j z).elim (hP.dw wy lO j hj).2 fun y=>by omega⟩
    ·rw[No] at lO
     subst lO
     have:=s4 j hj
     have:=zZ j hj
     exact⟨fun z=>(Dz j z).elim (fun y=>by have:=ff j y;omega) fun y=>by omega,fun z=>(Bl j z).elim (fun y=>by have:=hU j y;omega) fun y=>by omega⟩
   ·rcases Bl j z with y | y
    ·rcases Dz j hj with x | x
     ·exact hP.dn j x y
     ·have:=hU j y;omega
    ·have:=aiM j hj;omega
  have aat:=LG.lt
  obtain⟨eA,fY,Jm,H',S,i1,i2,i3,i4,i5,i6⟩:=Zv (R:=R) (B:=B) mz kR r (i+1) H3 LD M3 (rws++[wx]) h1 h3 (LG.out o3 fun j hj z=>(abL.1 z).elim (hd j hj).1 (hd j hj).2) El (fun j hj=>⟨fun z=>(Dz j z).elim (hd j hj).1 fun y=>by have:=aat j hj;omega,fun z=>(Bl j z).elim (hd j hj).2 fun y=>by have:=aat j hj;omega⟩) (by omega) (fun j hj=>by
   rcases hj with hj | hj
   ·exact (Dz j hj).elim (fun z=>hr j (.inl z)) fun z=>by omega
   ·exact (Bl j hj).elim (fun z=>hr j (.inr z)) fun z=>by omega) (fun wy lO j hj=>by
   rcases abL.1 lO with lO | lO
   ·exact hw wy lO j hj
   ·rw[No] at lO;subst lO;have:=s4 j hj;omega)
  refine⟨eA,fY,Jm,H',(ak rx++ak nx)++S,fun jg => ?_,i2,(o3.mono fun j hj=>abG _ hj).trans (i3.mono fun j hj=>abr _ hj),fun j hj => ?_,i5,i6⟩
  ·have aqp:=s2.one
   rw[abv]
   simp(disch:=first|exact zqz|fail)only[KU,bI h1,q1,q2,s1,iQ,y1,y2,n1',es,i1,av,au,ai,aj,simprocAttr]
  ·rcases abL.1 hj with hj | hj
   ·exact hr j (abL.1 hj)
   ·exact i4 j hj
noncomputable def nC (names:List aq):List aq->Option (List Tk)
 | []=>some []
 | s::r=>match uB names (jJ s) with
  | none=>none
  | some t=>(nC names r).map fun l=>t::l
noncomputable def aK (text:aq):List Tk × Int:=
 if 1024<text.length then ([],14) else match nC ((cq 59 text).map nV) (cq 59 text) with
  | none=>([],2)
  | some ts=>if iY ts=0 then (ts,0) else ([],iY ts)
theorem Yd {names:List aq}:∀ {r:List aq} {t t':Tk} {ks:List aq},lQ names r t ks=some t'->t'.after.length<=t.after.length+cN r+r.length
 | [],t,t',ks,h=>by cases h;simp[cN]
 | s::r,t,t',ks,h=>by
  unfold lQ at h
  split at h
  ·cases h
  ·split at h
   ·cases h
   ·split at h
    ·cases h
    ·rename_i t1 h1
     have h2:=ab8 h1
     have h3:=Yd h
     have:=(Xw 61 s).2
     have hs:cN (s::r)=s.length+cN r:=by simp[cN]
     rw[hs];simp only[aaL];omega
theorem YG {names:List aq}{s:aq}{t:Tk}(h:uB names (jJ s)=some t):t.after.length<=s.length+1:=by
 unfold uB at h
 have h1:=Yd h
 have h2:cN (jJ s)+(jJ s).length=s.length+1:=Cx 32 s
 have h3:cN (jJ s).tail+(jJ s).tail.length<=cN (jJ s)+(jJ s).length:=by
  cases jJ s with
  | nil=>simp
  | cons a b=>simp[cN];omega
 simp only[acG] at h1
 omega
theorem Y8 {names:List aq}:∀ {r:List aq} {ts:List Tk},nC names r=some ts->ts.length=r.length/\∀ B,(∀ s∈r,s.length<=B)->∀ t∈ts,t.after.length<=B+1
 | [],ts,h=>by cases h;exact⟨rfl,fun B _ t ht=>by cases ht⟩
 | s::r,ts,h=>by
  unfold nC at h
  split at h
  ·cases h
  ·rename_i t ht
   rw[aaa] at h
   obtain⟨l,h1,rfl⟩:=h
   obtain⟨i1,i2⟩:=Y8 h1
   refine⟨by simp[i1],fun B hB u hu => ?_⟩
   rcases aaD.1 hu with rfl | hu
   ·have:=YG ht
    have:=hB s (.head _)
    omega
   ·exact i2 B (fun s hs=>hB s (.tail _ hs)) u hu
theorem RD.nil (H:Hp):RD H .ah [] []:=⟨rfl,RL.nil H 6,fun i x t h=>by simp at h⟩
theorem YB {nx rx:AV}{rws:List AV}{ps:List aq}{R D:Nat}(mz:ps.length<=2000)(kR:∀ s∈ps,s.length<=1100)(hRD:R≠D):∀ (r:List aq) (i:Nat) (H:Hp) (dx:AV) (xs:List AV) (ts:List Tk),i<=ps.length->ps.drop i=r->Gl H->11<=D->(∀ j∈ak dx,11<=j)->PS H rx nx rws ps->Cs H R [.ah] 72 0->Cs H D [dx] 72 0->OL H 99 6 dx (List.zipWith aL ts xs)->RD H dx xs ts->ts.length=i->(∀ x∈xs,∀ j∈ak x,j∉ak dx/\j≠D)->D∉ak dx->(∀ j,j∈ak rx\/j∈ak nx\/(∃ wx∈rws,j∈ak wx)\/j=R->j∉ak dx/\j≠D)->
  ∃ H' S,Out S H H'/\(∀ j∈S,j=D\/j=R\/j∈ak dx\/H.next<=j)/\((∃ aw bh l,nC (ps.map nV) r=some l/\(∀ kW:K.Fn 2,B9 JN GO cK kW (.ptr R 0) nx (.ptr D 0) rx (.int .i64 (ps.length:Nat)) (.int .i64 (i:Nat)) H=kW (.ptr R 0) (.ptr D 0) H')/\Cs H' D [aw] 72 0/\Cs H' R [.ah] 72 0/\RD H' aw bh (ts++l)/\∀ j∈kX aw bh,j∈kX dx xs\/H.next<=j)\/
   (nC (ps.map nV) r=none/\∀ kW:K.Fn 2,B9 JN GO cK kW (.ptr R 0) nx (.ptr D 0) rx (.int .i64 (ps.length:Nat)) (.int .i64 (i:Nat)) H=some (.tuple [.agg [.ah],.int .i64 2],H')))
 | [],i,H,dx,xs,ts,hi,h,hg,Hc,N4,hP,hR,hD,hO,hT,Bm,Ht,Nk,hd=>by
  obtain rfl:=drop_nil hi h
  refine⟨H,[],Out.refl _ _,(fun j hj=>by cases hj),.inl ⟨dx,xs,[],rfl,fun kW => ?_,hD,hR,by simpa using hT,fun j hj => .inl hj⟩⟩
  rw[JY]
  simp only[Cn,fU,ai,aj,simprocAttr]
 | s::r,i,H,dx,xs,ts,hi,h,hg,Hc,N4,hP,hR,hD,hO,hT,Bm,Ht,Nk,hd=>by
  obtain⟨h1,h2,h3⟩:=gG h
  have es:=gf h1 (by omega)
  have oK:=kR s (aao h2)
  have AX:rws[i]? = some (rws[i]'(by rw[hP.len];exact h1)):=aai _
  generalize xo:rws[i]'(by rw[hP.len];exact h1)=wx at AX
  have hwm:=aao AX
  have hw:=hP.w i wx s AX h2
  obtain⟨q,q1,q2⟩:=hP.r.rw.lK AX .i64
  have ru:=Cx 32 s
  have zZ:(jJ s).length<=5000:=by have:(jJ s).length=(cq 32 s).length:=rfl;omega
  have Cz:∀ a∈jJ s,a.length<=80000:=fun a ha=>by have:=(Hy ha).2.2;omega
  obtain⟨H1,t1,t2⟩:=ahC (names:=ps.map nV) hg (by rw[ads];omega) (wT 32 s) zZ Cz (by show cN (cq 32 s)+(cq 32 s).length<=_;omega) hP.n.rw hw
  have jF:=t1.nx
  have I8:=hg.nx
  unfold nC
  rcases t2 with⟨t,x,u1,u2,u3,u4⟩ | ⟨u1,v,u2,u3,u4⟩
  ·rw[u1]
   simp only
   have kH:=u3.one
   have aql:=YG u1
   have uw:st 6 (.ptr H1.next 0) (.agg (aL t x)) (al H1 [(.str []),.ah,(.int .i64 0),(.int .i64 0),(.int .i64 0),(.str [])] 99 0)=some (al H1 (aL t x) 99 0):=yS t x kH H1
   have o2:=aI H1 (aL t x) 99 0
   have dQ:Out [] H (al H1 (aL t x) 99 0):=t1.trans o2
   have aqB:=hD.1
   have zW:cellAt (al H1 (aL t x) 99 0) D 0=some dx:=(hD.out dQ (by simp)).cellAt rfl
   obtain⟨F9,H2,p1,p2,p3,p4,p5⟩:=(hO.out dQ (by simp)).push (fH:=99) (z:=[(.str []),.ah,(.int .i64 0),(.int .i64 0),(.int .i64 0),(.str [])]) (vs:=aL t x) (by simp[aL,C7,kK,kH]) rfl (by decide) (by rw[agd,hT.len,Nat.min_self];omega)
   have gL:=p3.nx
   rw[bK] at gL
   have hDD:=(hD.out dQ (by simp)).out p3 Nk
   obtain⟨H3,w1,w2,w3,w4⟩:=fG hDD (by decide) (o:=0) (by simp) (v:=F9) p5
   have F8:List.zipWith aL ts xs++[aL t x]=List.zipWith aL (ts++[t]) (xs++[x]):=by
    rw[List.zipWith_append (by rw[hT.len])];rfl
   rw[F8] at p2
   have xL:∀ j∈ak F9,j∈ak dx\/H1.next+1<=j:=fun j hj=>(p4 j hj).imp id fun z=>by rw[bK] at z;exact z
   have fO:=hO.1.rw.lt
   have SQ:D∉ak F9:=fun z=>(xL D z).elim Nk fun y=>by omega
   have o3:Out (D::ak dx) H H3:=((dQ.mono fun j hj=>by cases hj).trans (p3.mono fun j hj => .tail _ hj)).trans (w3.mono fun j hj=>by rw[No] at hj;subst hj;exact .head _)
   have xu:=o3.nx
   have aiX:=u3.lt
   have Gd:=p2.out w3 fun j hj=>by rw[No];intro e;subst e;exact SQ hj
   have ahK:∀ y∈xs,∀ j∈ak y,j<H.next:=fun y hy j hj=>hT.lt j (abr _ (agY.2 ⟨y,hy,hj⟩))
   have uI:RD H3 F9 (xs++[x]) (ts++[t]):=by
    refine⟨by simp[hT.len],Gd.rl,fun k y t' hy pT => ?_⟩
    by_cases hk:k<xs.length
    ·rw[abO hk] at hy
     rw[abO (by rw[<-hT.len];exact hk)] at pT
     have XC:=aao hy
     exact (hT.jn k y t' hy pT).out o3 fun j hj=>by rw[aaD,not_or];exact⟨(Ht y XC j hj).2,(Ht y XC j hj).1⟩
    ·have fN:=(aah.1 hy).1
     rw[aaX] at fN
     obtain rfl:k=xs.length:=by simp at fN;omega
     rw[abT (aaC _),ahb] at hy
     rw[abT (by rw[hT.len];exact aaC _),hT.len,ahb] at pT
     cases hy;cases pT
     refine ((u3.out0 o2).out p3 fun j hj z => ?_).out w3 fun j hj => ?_
     ·have:=u4 j hj;have:=fO j z;omega
     ·rw[No];have:=u4 j hj;omega
   have hPo:∀ {A B:Hp} {S:List Nat},PS A rx nx rws ps->Out S A B->(∀ j,j∈ak rx\/j∈ak nx\/(∃ wx∈rws,j∈ak wx)->j∉S)->PS B rx nx rws ps:=fun hp ho hs=>
    ⟨hp.r.out ho fun j hj=>hs j (.inl hj),hp.n.out ho fun j hj=>hs j (.inr (.inl hj)),hp.len,fun k wy s' hk rD=>(hp.w k wy s' hk rD).out ho fun j hj=>hs j (.inr (.inr ⟨wy,aao hk,hj⟩)),hp.dw,hp.dn⟩
   have vc:∀ j,j∈ak rx\/j∈ak nx\/(∃ wx∈rws,j∈ak wx)\/j=R->j∉D::ak dx:=fun j hj=>by rw[aaD,not_or];exact⟨(hd j hj).2,(hd j hj).1⟩
   have Hr:∀ j,j∈ak rx\/j∈ak nx\/(∃ wx∈rws,j∈ak wx)\/j=R->j<H.next:=fun j hj=>by
    rcases hj with hj | hj | ⟨wy,lO,hj⟩ | rfl
    ·exact hP.r.rw.lt j hj
    ·exact hP.n.rw.lt j hj
    ·obtain⟨k,hk⟩:=adi lO
     have jS:=(aah.1 hk).1
     rw[hP.len] at jS
     exact (hP.w k wy _ hk (aai jS)).lt j hj
    ·exact hR.1
   obtain⟨H',S,i1,i2,i3⟩:=YB mz kR hRD r (i+1) H3 F9 (xs++[x]) (ts++[t]) h1 h3 (hg.out o3 fun j hj=>by
    rcases aaD.1 hj with rfl | hj
    ·exact Hc
    ·exact N4 j hj) Hc (fun j hj=>(xL j hj).elim (N4 j) fun z=>by omega) (hPo hP o3 fun j hj=>vc j (hj.imp id fun z=>z.imp id .inl)) (hR.out o3 (vc R (.inr (.inr (.inr rfl))))) w2 Gd uI (by simp[Bm]) (fun y hy j hj=>by
     rcases abL.1 hy with hy | hy
     ·have:=ahK y hy j hj
      exact⟨fun z=>(xL j z).elim (Ht y hy j hj).1 fun w=>by omega,(Ht y hy j hj).2⟩
     ·rw[No] at hy
      subst hy
      have:=u4 j hj
      have:=aiX j hj
      exact⟨fun z=>(xL j z).elim (fun w=>by have:=fO j w;omega) fun w=>by omega,by omega⟩) SQ (fun j hj=>⟨fun z=>(xL j z).elim (hd j hj).1 fun w=>by have:=Hr j hj;omega,(hd j hj).2⟩)
   refine⟨H',(D::ak dx)++S,(o3.mono fun j hj=>abG _ hj).trans (i1.mono fun j hj=>abr _ hj),fun j hj => ?_,?_⟩
   ·rcases abL.1 hj with hj | hj
    ·rcases aaD.1 hj with rfl | hj
     ·exact .inl rfl
     ·exact .inr (.inr (.inl hj))
    ·rcases i2 j hj with z | z | z | z
     ·exact .inl z
     ·exact .inr (.inl z)
     ·exact .inr (.inr ((xL j z).imp id fun y=>by omega))
     ·exact .inr (.inr (.inr (by omega)))
   ·have ZM:aE (al H1 (aL t x) 99 0) (aL t x) 99 0=some (H1.next+1,al (al H1 (aL t x) 99 0) (aL t x) 99 0):=gk (by rw[wX];omega)
    have B4:fl [(.str []),.ah,(.int .i64 0),(.int .i64 0),(.int .i64 0),(.str [])] [(0,6,.agg (aL t x))]=some (aL t x):=rfl
    have VP:=S6 t x
    have Vd:=wX t x
    have iQ:=p1 _ rfl
    rw[bK] at iQ
    rcases i3 with⟨aw,bh,l,k1,k2,k3,k4,k5,k6⟩ | ⟨k1,k2⟩
    ·refine .inl ⟨aw,bh,t::l,by rw[k1];rfl,fun kW => ?_,k3,k4,by simpa[aeR] using k5,fun j hj=>(k6 j hj).elim (fun z => ?_) fun z => .inr (by omega)⟩
     ·rw[JY]
      simp(disch:=first|exact zqz|fail)only[Cn,bI h1,q1,q2,u2,uw,zW,Vd,VP,B4,ZM,iQ,w1,es,k2,av,au,ai,aj,simprocAttr]
     ·rcases abL.1 z with z | z
      ·exact (xL j z).imp (fun y=>abG _ y) fun y=>by omega
      ·rw[List.flatMap_append,abL] at z
       rcases z with z | z
       ·exact .inl (abr _ z)
       ·have:j∈ak x:=by simpa using z
        exact .inr (u4 j this)
    ·refine .inr ⟨by rw[k1];rfl,fun kW => ?_⟩
     rw[JY]
     simp(disch:=first|exact zqz|fail)only[Cn,bI h1,q1,q2,u2,uw,zW,Vd,VP,B4,ZM,iQ,w1,es,k2,av,au,ai,aj,simprocAttr]
  ·rw[u1]
   have uw:st 6 (.ptr H1.next 0) (.agg v) (al H1 [(.str []),.ah,(.int .i64 0),(.int .i64 0),(.int .i64 0),(.str [])] 99 0)=some (al H1 v 99 0):=iI u4 u3.symm rfl (by decide) u3.symm
   have o2:=aI H1 v 99 0
   have gI:=hR.out (t1.trans o2) (by simp)
   obtain⟨H3,w1,w2,w3,w4⟩:=fx (n:=1) (vs:=[AV.ah]) gI rfl rfl rfl
   have pY:ar H3 R 0 1=some [.ah]:=w2.ar 1 0 (by simp)
   refine⟨H3,[R],((t1.trans o2).mono fun j hj=>by cases hj).trans w3,fun j hj=>by rw[No] at hj;exact .inr (.inl hj),.inr ⟨rfl,fun kW => ?_⟩⟩
   rw[JY]
   simp(disch:=first|exact zqz|fail)only[Cn,bI h1,q1,q2,u2,uw,w1,pY,av,au,ai,aj,simprocAttr]
theorem akl {text:aq}{H:Hp}(hg:Gl H)(hl:text.length<=4294967296):∃ dx xs H',cK (.func (.func 53) [] []) [.str text] H=some (.tuple [dv dx,.int .i64 (aK text).2],H')/\RD H' dx xs (aK text).1/\Out [] H H'/\∀ j∈kX dx xs,H.next<=j:=by
 have I8:=hg.nx
 have o1:=aI H [.ah] 72 0
 have c1:=bg H [.ah] 72 0
 unfold aK
 by_cases Bp:1024<text.length
 ·rw[if_pos Bp]
  have d:decide ((1024:Int)<(text.length:Int))=true:=decide_eq_true (by omega)
  refine⟨.ah,[],al H [.ah] 72 0,EK ?_,RD.nil _,o1,fun j hj=>by cases hj⟩
  have aC:st 1 (.ptr H.next 0) (.agg [.ah]) (al H [.ah] 72 0)=some (al H [.ah] 72 0):=iI rfl rfl rfl (by decide) rfl
  unfold AB
  simp(disch:=first|exact zqz|fail)only[d,aC,av,au,ai,aj,simprocAttr]
 rw[if_neg Bp]
 have d:decide ((1024:Int)<(text.length:Int))=false:=decide_eq_false (by omega)
 obtain⟨px,H1,s1,s2,s3,s4⟩:=N9 (c:=59) (by decide) (s:=text) (by omega) (al H [.ah] 72 0)
 have jF:=s3.nx
 rw[bK] at jF
 have ru:=Cx 59 text
 have mz:=s2.mQ
 rw[iZ] at mz
 have kR:∀ s∈cq 59 text,s.length<=1100:=fun s hs=>by have:=(Hy hs).2.2;omega
 have c2:=c1.out s3 (by simp)
 obtain⟨rx,nx,rws,H2,S2,i1,i2,i3,i4,i5,i6⟩:=Zv (R := .ptr H.next 0) (B:=H1.next) (ps:=cq 59 text) (by omega) (fun s hs=>by have:=kR s hs;omega) (cq 59 text) 0 H1 .ah .ah [] (acD _) acI s2 ⟨.nil,.nil,by rw[aht];rfl,fun i wx s h=>by simp at h,(fun wx h=>by cases h),fun j h=>by cases h⟩ (fun j hj=>⟨by simp[ak],by simp[ak]⟩) (aaC _) (fun j hj=>by rcases hj with hj | hj<;>cases hj) (fun wx h=>by cases h)
 rw[show (((0:Nat):Int))=0 from rfl] at i1
 have gL:=i3.nx
 have nE:Out [] H H2:=(o1.trans s3).then i3 fun j hj=>by have:=i4 j hj;exact .inr (by omega)
 have c3:=c2.out i3 fun z=>by have:=i4 _ z;omega
 have o3:=aI H2 [.ah] 72 0
 have cD:=bg H2 [.ah] 72 0
 have El:PS (al H2 [.ah] 72 0) rx nx rws (cq 59 text):=⟨i2.r.out o3 (by simp),i2.n.out o3 (by simp),i2.len,fun k wx s h1 h2=>(i2.w k wx s h1 h2).out0 o3,i2.dw,i2.dn⟩
 have Hr:∀ j,j∈ak rx\/j∈ak nx\/(∃ wx∈rws,j∈ak wx)->j<H2.next:=fun j hj=>by
  rcases hj with hj | hj | ⟨wy,lO,hj⟩
  ·exact i2.r.rw.lt j hj
  ·exact i2.n.rw.lt j hj
  ·obtain⟨k,hk⟩:=adi lO
   have jS:=(aah.1 hk).1
   rw[i2.len] at jS
   exact (i2.w k wy _ hk (aai jS)).lt j hj
 obtain⟨H3,S3,k1,k2,k3⟩:=YB (R:=H.next) (D:=H2.next) (by omega) kR (by omega) (cq 59 text) 0 (al H2 [.ah] 72 0) .ah [] [] (acD _) acI (hg.out0 (nE.trans o3)) (by omega) (fun j hj=>by cases hj) El (c3.out o3 (by simp)) cD (OL.nil _ _ _) (RD.nil _) rfl (fun x hx=>by cases hx) (by simp[ak]) (fun j hj=>⟨by simp[ak],by
  rcases hj with hj | hj | hj | rfl
  ·have:=Hr j (.inl hj);omega
  ·have:=Hr j (.inr (.inl hj));omega
  ·have:=Hr j (.inr (.inr hj));omega
  ·omega⟩)
 rw[show (((0:Nat):Int))=0 from rfl] at k3
 have hS3:∀ j∈S3,H.next<=j:=fun j hj=>by
  rcases k2 j hj with z | z | z | z
  ·omega
  ·omega
  ·cases z
  ·rw[bK] at z;omega
 have wi:Out [] H H3:=(nE.trans o3).then k1 fun j hj => .inr (hS3 j hj)
 have ff:=i2.r.rw.mQ
 rw[i2.len] at ff
 have eS:bq rx=some (.int .i64 ((cq 59 text).length:Nat)):=ff
 have xu:=k1.nx
 rw[bK] at xu
 rcases k3 with⟨dx,xs,ts,m1,m2,m3,m4,m5,m6⟩ | ⟨m1,m2⟩
 ·rw[ahO] at m5
  rw[m1]
  simp only
  obtain⟨tl1,tl2⟩:=Y8 m1
  have vf:∀ j∈kX dx xs,H2.next+1<=j:=fun j hj=>(m6 j hj).elim (fun z=>by cases z) fun z=>by rw[bK] at z;exact z
  obtain⟨H4,g1,g2⟩:=Nn (ts:=ts) (by rw[tl1];omega) (fun t ht=>by have:=tl2 1100 kR t ht;omega) m5
  have hn4:=g2.nx
  have zW:ar H3 H2.next 0 1=some [dx]:=m3.ar 1 0 (by simp)
  have hD4:ar H4 H2.next 0 1=some [dx]:=(m3.out g2 (by simp)).ar 1 0 (by simp)
  have cR:=m4.out g2 (by simp)
  have xL:=m5.row.one
  by_cases h0:iY ts=0
  ·rw[if_pos h0]
   have d0:((iY ts) != 0)=false:=by rw[h0];rfl
   obtain⟨H5,w1,w2,w3,w4⟩:=fx (n:=1) (vs:=[dx]) cR rfl rfl (by simp[xL])
   have yb:ar H5 H.next 0 1=some [dx]:=w2.ar 1 0 (by simp)
   refine⟨dx,xs,H5,EK ?_,(m5.out0 g2).out w3 fun j hj=>by rw[No];have:=vf j hj;omega,(wi.trans g2).then w3 fun j hj=>by rw[No] at hj;exact .inr (by omega),fun j hj=>by have:=vf j hj;omega⟩
   unfold AB
   simp(disch:=first|exact zqz|fail)only[d,s1,mz,i1,eS,m2,zW,hD4,g1,d0,w1,yb,av,au,ai,aj,simprocAttr]
  ·rw[if_neg h0]
   have d0:((iY ts) != 0)=true:=by simp[h0]
   obtain⟨H5,w1,w2,w3,w4⟩:=fx (n:=1) (vs:=[AV.ah]) cR rfl rfl rfl
   have yb:ar H5 H.next 0 1=some [.ah]:=w2.ar 1 0 (by simp)
   refine⟨.ah,[],H5,EK ?_,RD.nil _,(wi.trans g2).then w3 fun j hj=>by rw[No] at hj;exact .inr (by omega),fun j hj=>by cases hj⟩
   unfold AB
   simp(disch:=first|exact zqz|fail)only[d,s1,mz,i1,eS,m2,zW,hD4,g1,d0,w1,yb,av,au,ai,aj,simprocAttr]
 ·rw[m1]
  simp only
  refine⟨.ah,[],H3,EK ?_,RD.nil _,wi,fun j hj=>by cases hj⟩
  unfold AB
  simp(disch:=first|exact zqz|fail)only[d,s1,mz,i1,eS,m2,av,au,ai,aj,simprocAttr]
theorem L9 {text:aq}(h:(aK text).2=0):iY (aK text).1=0/\1<=(aK text).1.length/\(aK text).1.length<=16/\uY (aK text).1/\yX (aK text).1.length (jc 0 (aK text).1)/\(∀ t∈(aK text).1,vM t=false/\sO t=false):=by
 have key:∀ ts:List Tk,iY ts=0->1<=ts.length/\ts.length<=16/\uY ts/\yX ts.length (jc 0 ts)/\∀ t∈ts,vM t=false/\sO t=false:=by
  intro ts h
  unfold iY at h
  split at h
  ·cases h
  ·rename_i h1
   split at h
   ·cases h
   ·rename_i h2
    split at h
    ·cases h
    ·split at h
     ·cases h
     ·rename_i h3
      split at h
      ·cases h
      ·rename_i h4
       split at h
       ·rename_i h5
        have h1:=ahk.1 h1
        refine⟨h1.1,h1.2,Km (by simpa using h4),h5,fun t ht => ?_⟩
        obtain⟨i,hi⟩:=adi ht
        have br:=(aah.1 hi).1
        rw[agk,ahM] at h2 h3
        have a:=h2 i (aiA.2 br)
        have b:=h3 i (aiA.2 br)
        unfold p1 at a
        unfold p3 at b
        rw[hi] at a b
        exact⟨by simpa using a,by simpa using b⟩
       ·cases h
 have hg:iY (aK text).1=0:=by
  unfold aK at h ⊢
  by_cases hb:1024<text.length
  ·rw[if_pos hb] at h;cases h
  ·rw[if_neg hb] at h ⊢
   cases qL:nC ((cq 59 text).map nV) (cq 59 text) with
   | none=>rw[qL] at h;cases h
   | some ts=>
    rw[qL] at h
    simp only at h ⊢
    by_cases h0:iY ts=0
    ·rw[if_pos h0];exact h0
    ·rw[if_neg h0] at h;exact absurd h h0
 exact⟨hg,key _ hg⟩
end Go.Proofs.YtodfajmihkagnaaGreatDoor.DfK
namespace Go.Proofs.YtodfajmihkagnaaGreatDoor.Am.K
open Go
theorem U9:∀ (vs c r:List AV) (k:Nat),k+vs.length<=c.length->iO (c++r) k vs=iO c k vs++r
 | [],c,r,k,h=>rfl
 | v::vs,c,r,k,h=>by
  simp only[aaL] at h
  show iO ((c++r).set k v) (k+1) vs=iO (c.set k v) (k+1) vs++r
  rw[List.set_append_left _ _ (by omega)]
  exact U9 vs _ _ _ (by rw[ac4];omega)
theorem aay:∀ (vs a r:List AV) (k:Nat),iO (a++r) (a.length+k) vs=a++iO r k vs
 | [],a,r,k=>rfl
 | v::vs,a,r,k=>by
  show iO ((a++r).set (a.length+k) v) (a.length+k+1) vs=a++iO (r.set k v) (k+1) vs
  rw[aiu _ _ (by omega),aep,ahI]
  exact aay vs _ _ _
theorem XB {es:Nat}{vs:List AV}{k:Nat}(hk:k+vs.length<=es):∀ {L:List (List AV)} {i:Nat} {c:List AV},(∀ c∈L,c.length=es)->L[i]? = some c->(L.set i (iO c k vs)).flatten=iO L.flatten (i*es+k) vs
 | [],i,c,_,h=>by simp at h
 | a::L,0,c,hl,h=>by
  simp only[adg,acV] at h
  subst h
  have:=hl a (.head _)
  rw[ahi,adG]
  show iO a k vs++L.flatten=iO (a++L.flatten) k vs
  rw[U9 _ _ _ _ (by omega)]
 | a::L,i+1,c,hl,h=>by
  simp only[ac1] at h
  have ha:=hl a (.head _)
  show a++(L.set i (iO c k vs)).flatten=iO (a++L.flatten) ((i+1)*es+k) vs
  rw[XB hk (fun d hd=>hl d (.tail _ hd)) h,af9,ait,show i*es+es+k=a.length+(i*es+k) by omega,aay]
theorem OL.PI {H:Hp}{el es:Nat}{x:AV}{L:List (List AV)}(h:OL H el es x L){i k b o:Nat}{c vs:List AV}(hi:L[i]? = some c)(np:∀ kd,ia es x (.int kd i)=some (.ptr b o))(hv:∀ v∈vs,aY v=true)(hk:k+vs.length<=es)(du:0<es) :
  ∃ H',setCells H b (o+k) vs=some H'/\OL H' el es x (L.set i (iO c k vs))/\Out (ak x) H H'/\H'.next=H.next:=by
 obtain⟨ho,hl⟩:=h
 have br:=(aah.1 hi).1
 have lu:=xh hl
 have hfs:=XB hk hl hi
 have hc:=hl c (aao hi)
 have Ei:i*es+es<=L.flatten.length:=by
  rw[lu]
  have:=aeK es (show i+1<=L.length by omega)
  rw[af9,ait] at this
  exact this
 have Mi:∀ d∈L.set i (iO c k vs),d.length=es:=fun d hd=>by
  rcases agu hd with hd | rfl
  ·exact hl d hd
  ·rw[Gv];exact hc
 generalize hF:L.flatten=F at *
 cases ho with
 | nil=>simp at Ei;omega
 | emp=>simp at Ei;omega
 | @mk i0 off n cap ex _ ct lo wN fl iR hg hf gX jd iq hn ic hs h1 he=>
  have gN:i<n:=by
   rw[lu] at hn
   exact Nat.eq_of_mul_eq_mul_right du hn▸br
  have e:=np .i64
  rw[yO gN] at e
  injection e with e
  injection e with eb eo
  subst eb
  subst eo
  have hcn:n*es<=cap*es:=aeK _ iq
  obtain⟨H',c',q1,q2,q3,q4,q5⟩:=KD vs H i0 (off+i*es+k) ct lo wN el fl hg hf (by omega) (by omega) (fun m hm=>by
   have:=hs (i*es+k+m) (by omega)
   rw[show off+i*es+k+m=off+(i*es+k+m) by omega]
   exact this) hv
  refine⟨H',q1,⟨?_,Mi⟩,⟨by omega,fun j hj FF=>q4 j fun e=>FF (by subst e;rw[mi he];exact .head _)⟩,q2⟩
  rw[hfs]
  refine .mk (by omega) q3 hf gX jd iq (by rw[Gv];exact hn) (fun m w hm => ?_) (fun m hm => ?_) (fun w hw => ?_) he
  ·rw[q5]
   rw[AN _ _ _ _ (by omega)] at hm
   split at hm
   ·rw[if_pos (by omega),show off+m-(off+i*es+k)=m-(i*es+k) by omega];exact hm
   ·rw[if_neg (by omega)];exact ic m w hm
  ·rw[q5]
   split
   ·rename_i hb
    rw[aai (by omega)];rfl
   ·exact hs m hm
  ·obtain⟨m,hm⟩:=adi hw
   rw[AN _ _ _ _ (by omega)] at hm
   split at hm
   ·exact hv w (aao hm)
   ·exact h1 w (aao hm)
theorem OL.fG {H:Hp}{el es:Nat}{x:AV}{L:List (List AV)}(h:OL H el es x L){i k b o:Nat}{c:List AV}{v:AV}(hi:L[i]? = some c)(np:∀ kd,ia es x (.int kd i)=some (.ptr b o))(hv:aY v=true)(hk:k<es) :
  ∃ H',st 1 (.ptr b (o+k)) v H=some H'/\OL H' el es x (L.set i (c.set k v))/\Out (ak x) H H'/\H'.next=H.next:=by
 obtain⟨H',h1,h2⟩:=h.PI (k:=k) (vs:=[v]) hi np (fun u hu=>by rw[No] at hu;subst hu;exact hv) (by simp only[aaL,acG];omega) (by omega)
 refine⟨H',?_,h2⟩
 unfold st
 simp only[Lf hv]
 exact h1
theorem OL.stN {H:Hp}{el es:Nat}{x:AV}{L:List (List AV)}(h:OL H el es x L){i b o:Nat}{vs:List AV}(hi:i<L.length)(np:∀ kd,ia es x (.int kd i)=some (.ptr b o))(hv:vs.all aY=true)(hn:vs.length=es)(du:0<es) :
  ∃ H',st es (.ptr b o) (.agg vs) H=some H'/\OL H' el es x (L.set i vs)/\Out (ak x) H H'/\H'.next=H.next:=by
 have iR:L[i]? = some L[i]:=aai hi
 obtain⟨H',h1,h2⟩:=h.PI (k:=0) (vs:=vs) iR np (adA.1 hv) (by omega) du
 rw[U3 vs _ (by rw[hn,h.2 _ (aao iR)])] at h2
 refine⟨H',?_,h2⟩
 unfold st
 have:Nat.beq es vs.length=true:=by rw[hn];exact agQ _
 simp only[Ar,this,cond_true]
 exact h1
end Go.Proofs.YtodfajmihkagnaaGreatDoor.Am.K
namespace Go.Proofs.YtodfajmihkagnaaGreatDoor.DfK
open Go Am Am.K kb mc jR nU
structure RT where
 ph:Int
 tr:Int
 kN:Int
 xJ:aq
 deriving DecidableEq
def eC (t:RT):List AV:=[.int .i64 t.ph,.int .i64 t.tr,.int .i64 t.kN,.str t.xJ]
def gq (l:List RT):List (List AV):=l.map eC
structure Rn where
 ts:List Tk
 st:Int
 rs:List RT
 sg:List aq
abbrev rv (dx:AV)(st:Int)(tx sx:AV):List AV:=[dx,.int .i64 st,tx,sx]
structure RV (H:Hp)(dx:AV)(xs:List AV)(tx sx:AV)(R:Rn):Prop where
 d:RD H dx xs R.ts
 t:RL H 4 tx (gq R.rs)
 s:Rw H 1 sx (strs R.sg)
def me (dx:AV)(xs:List AV)(tx sx:AV):List Nat:=kX dx xs++(ak tx++ak sx)
theorem RV.out {H H':Hp}{dx tx sx:AV}{xs:List AV}{R:Rn}{S:List Nat}(h:RV H dx xs tx sx R)(k:Out S H H')(hs:∀ j∈me dx xs tx sx,j∉S):RV H' dx xs tx sx R:=
 ⟨h.d.out k fun j hj=>hs j (abG _ hj),h.t.out k fun j hj=>hs j (abr _ (abG _ hj)),h.s.out k fun j hj=>hs j (abr _ (abr _ hj))⟩
theorem RV.out0 {H H':Hp}{dx tx sx:AV}{xs:List AV}{R:Rn}(h:RV H dx xs tx sx R)(k:Out [] H H'):RV H' dx xs tx sx R:=h.out k fun _ _ q=>by cases q
theorem RV.lt {H:Hp}{dx tx sx:AV}{xs:List AV}{R:Rn}(h:RV H dx xs tx sx R):∀ j∈me dx xs tx sx,j<H.next:=fun j hj=>by
 rcases abL.1 hj with hj | hj
 ·exact h.d.lt j hj
 ·rcases abL.1 hj with hj | hj
  ·exact h.t.1.lt j hj
  ·exact h.s.lt j hj
theorem yP (l:List RT):(gq l).length=l.length:=by simp[gq]
theorem qK {l:List RT}{i:Nat}{t:RT}(h:l[i]? = some t):(gq l)[i]? = some (eC t):=by simp[gq,h]
theorem RV.TS {H:Hp}{dx tx sx:AV}{xs:List AV}{R:Rn}(h:RV H dx xs tx sx R):bq tx=some (.int .i64 (R.rs.length:Nat)):=by
 have:=h.t.len (by decide)
 rw[yP] at this;exact this
theorem Js (t:RT):(eC t).length=4:=rfl
theorem ym (t:RT):(eC t)[0]? = some (.int .i64 t.ph)/\(eC t)[1]? = some (.int .i64 t.tr)/\(eC t)[2]? = some (.int .i64 t.kN)/\(eC t)[3]? = some (.str t.xJ):=⟨rfl,rfl,rfl,rfl⟩
theorem Xh (t:RT)(H:Hp):st 4 (.ptr H.next 0) (.agg (eC t)) (al H [(.int .i64 0),(.int .i64 0),(.int .i64 0),(.str [])] 132 0)=some (al H (eC t) 132 0):=
 iI rfl rfl rfl (by decide) rfl
def oM (R:Rn)(task:Int):Int:=if task<0\/(R.rs.length:Int)<=task then 1 else if R.st=0 then 0 else 9
theorem YL {H:Hp}{dx tx sx:AV}{xs:List AV}{R:Rn}(h:RV H dx xs tx sx R)(task:Int) :
  cK (.func (.func 108) [] []) [.agg (rv dx R.st tx sx),.int .i64 task] H=some (.int .i64 (oM R task),al H (rv dx R.st tx sx) 75 0):=by
 refine af4 ?_
 have hl:=h.TS
 have c:=bg H (rv dx R.st tx sx) 75 0
 have aW:bx 75 (.agg (rv dx R.st tx sx)) H=some (H.next,al H (rv dx R.st tx sx) 75 0):=ji (by simp)
 have k1:cellAt (al H (rv dx R.st tx sx) 75 0) H.next 1=some (.int .i64 R.st):=c.cellAt rfl
 have k2:cellAt (al H (rv dx R.st tx sx) 75 0) H.next 2=some tx:=c.cellAt rfl
 generalize al H (rv dx R.st tx sx) 75 0=H1 at *
 unfold abA oM
 by_cases h1:task<0
 ·have d1:decide (task<0)=true:=decide_eq_true h1
  rw[if_pos (.inl h1)]
  simp(disch:=first|exact zqz|fail)only[aW,d1,av,au,ai,aj,simprocAttr]
 ·have d1:decide (task<0)=false:=decide_eq_false h1
  by_cases h2:(R.rs.length:Int)<=task
  ·have d2:decide ((R.rs.length:Int)<=task)=true:=decide_eq_true h2
   rw[if_pos (.inr h2)]
   simp(disch:=first|exact zqz|fail)only[aW,d1,d2,k1,k2,hl,av,au,ai,aj,simprocAttr]
  ·have d2:decide ((R.rs.length:Int)<=task)=false:=decide_eq_false h2
   rw[if_neg (fun q=>q.elim h1 h2)]
   by_cases h3:R.st=0
   ·have d3:(R.st != 0)=false:=by simp[h3]
    rw[if_pos h3]
    simp(disch:=first|exact zqz|fail)only[aW,d1,d2,d3,k1,k2,hl,av,au,ai,aj,simprocAttr]
   ·have d3:(R.st != 0)=true:=by simp[h3]
    rw[if_neg h3]
    simp(disch:=first|exact zqz|fail)only[aW,d1,d2,d3,k1,k2,hl,av,au,ai,aj,simprocAttr]
theorem GR {R:Rn}{task:Int}(h:oM R task=0):∃ (i:Nat) (t:RT),task=i/\R.rs[i]? = some t/\R.st=0:=by
 unfold oM at h
 split at h
 ·cases h
 ·rename_i h1
  rw[not_or] at h1
  split at h
  ·rename_i h2
   exact⟨task.toNat,R.rs[task.toNat]'(by omega),by omega,aai _,h2⟩
  ·cases h
def nb (R:Rn)(task bu:Int):Int:=if oM R task=0 then (match R.rs[task.toNat]? with | some t=>if t.ph=2/\t.tr=bu then 0 else 8 | none=>0) else oM R task
theorem TV {H:Hp}{dx tx sx:AV}{xs:List AV}{R:Rn}(h:RV H dx xs tx sx R)(task bu:Int) :
  ∃ H',cK (.func (.func 109) [] []) [.agg (rv dx R.st tx sx),.int .i64 task,.int .i64 bu] H=some (.int .i64 (nb R task bu),H')/\Out [] H H':=by
 have c:=bg H (rv dx R.st tx sx) 75 0
 have o1:=aI H (rv dx R.st tx sx) 75 0
 have aW:bx 75 (.agg (rv dx R.st tx sx)) H=some (H.next,al H (rv dx R.st tx sx) 75 0):=ji (by simp)
 have k0:ar (al H (rv dx R.st tx sx) 75 0) H.next 0 4=some (rv dx R.st tx sx):=c.ar 4 0 (by simp)
 have hm:=YL (h.out0 o1) task
 have o2:=aI (al H (rv dx R.st tx sx) 75 0) (rv dx R.st tx sx) 75 0
 have c2:=c.out o2 (by simp)
 have dQ:=o1.trans o2
 generalize al H (rv dx R.st tx sx) 75 0=H1 at *
 generalize al H1 (rv dx R.st tx sx) 75 0=H2 at *
 have k2:cellAt H2 H.next 2=some tx:=c2.cellAt rfl
 by_cases h0:oM R task=0
 ·obtain⟨i,t,rfl,ht,aC⟩:=GR h0
  have d0:(oM R (i:Int) != 0)=false:=by simp[h0]
  obtain⟨b,o,q1,q2,q3,q4,q5⟩:=(h.t.out0 dQ).at (by decide) (qK ht)
  have yk:=Xh t H2
  obtain⟨e0,e1,e2,e3⟩:=ym t
  have o3:=aI H2 (eC t) 132 0
  refine⟨al H2 (eC t) 132 0,S9 ?_,dQ.trans o3⟩
  unfold Kk nb
  rw[if_pos h0,acr,ht]
  simp only
  by_cases p1:t.ph=2
  ·have d1:(t.ph != 2)=false:=by simp[p1]
   by_cases p2:t.tr=bu
   ·have d2:(t.tr != bu)=false:=by simp[p2]
    rw[if_pos ⟨p1,p2⟩]
    simp(disch:=first|exact zqz|fail)only[aW,k0,hm,d0,k2,q1,q4,yk,e0,e1,d1,d2,av,au,ai,aj,simprocAttr]
   ·have d2:(t.tr != bu)=true:=by simp[p2]
    rw[if_neg (fun q=>p2 q.2)]
    simp(disch:=first|exact zqz|fail)only[aW,k0,hm,d0,k2,q1,q4,yk,e0,e1,d1,d2,av,au,ai,aj,simprocAttr]
  ·have d1:(t.ph != 2)=true:=by simp[p1]
   rw[if_neg (fun q=>p1 q.1)]
   simp(disch:=first|exact zqz|fail)only[aW,k0,hm,d0,k2,q1,q4,yk,e0,e1,d1,av,au,ai,aj,simprocAttr]
 ·have d0:(oM R task != 0)=true:=by simp[h0]
  refine⟨H2,S9 ?_,dQ⟩
  unfold Kk nb
  rw[if_neg h0]
  simp(disch:=first|exact zqz|fail)only[aW,k0,hm,d0,av,au,ai,aj,simprocAttr]
theorem K3 {R:Rn}{task bu:Int}(h:nb R task bu=0):∃ (i:Nat) (t:RT),task=i/\R.rs[i]? = some t/\R.st=0/\t.ph=2/\t.tr=bu:=by
 unfold nb at h
 split at h
 ·rename_i h1
  obtain⟨i,t,rfl,ht,aC⟩:=GR h1
  rw[acr,ht] at h
  simp only at h
  split at h
  ·rename_i h2;exact⟨i,t,rfl,ht,aC,h2.1,h2.2⟩
  ·cases h
 ·rename_i h1;exact absurd h h1
theorem afN {H:Hp}{es:Nat}{x:AV}{l:List AV}(h:Rw H es x l):oz x x=true:=by
 cases h<;>simp[oz]
theorem B5 {H:Hp}{es:Nat}{x:AV}{l:List AV}(h:Rw H es x l):same x x=true:=by
 cases h<;>simp[same,oz]
theorem akV (k:IntKind)(a:Int):same (.int k a) (.int k a)=true:=by cases k<;>simp[same,oz]
theorem afE {t:Tk}{x:AV}(hx:aY x=true):∀ v∈aL t x,aY v=true:=by
 intro v hv
 simp only[aL,aaD,List.not_mem_nil,or_false] at hv
 rcases hv with rfl | rfl | rfl | rfl | rfl | rfl<;>first | rfl | exact hx
theorem RD.ones {H:Hp}{dx:AV}{xs:List AV}{ts:List Tk}(h:RD H dx xs ts):∀ v∈(List.zipWith aL ts xs).flatten,aY v=true:=by
 intro v hv
 obtain⟨c,hc,hv⟩:=agW.1 hv
 obtain⟨i,hi⟩:=adi hc
 rw[adT] at hi
 cases ht:ts[i]? with
 | none=>rw[ht] at hi;simp at hi
 | some t=>
  cases hx:xs[i]? with
  | none=>rw[ht,hx] at hi;simp at hi
  | some x=>
   rw[ht,hx] at hi
   simp only[acV] at hi
   subst hi
   exact afE (h.jn i x t hx ht).one v hv
theorem ajO (l:List RT):∀ v∈(gq l).flatten,aY v=true:=by
 intro v hv
 obtain⟨c,hc,hv⟩:=agW.1 hv
 obtain⟨t,_,rfl⟩:=acS.1 hc
 simp only[eC,aaD,List.not_mem_nil,or_false] at hv
 rcases hv with rfl | rfl | rfl | rfl<;>rfl
theorem Rv {ts:List Tk}{xs:List AV}:∀ c∈List.zipWith aL ts xs,c.length=6:=by
 intro c hc
 obtain⟨i,hi⟩:=adi hc
 rw[adT] at hi
 cases ht:ts[i]? with
 | none=>rw[ht] at hi;simp at hi
 | some t=>
  cases hx:xs[i]? with
  | none=>rw[ht,hx] at hi;simp at hi
  | some x=>
   rw[ht,hx] at hi
   simp only[acV] at hi
   subst hi;rfl
theorem Ja (l:List RT):∀ c∈gq l,c.length=4:=fun c hc=>by
 obtain⟨t,_,rfl⟩:=acS.1 hc;rfl
theorem aii {ts:List Tk}{xs:List AV}{i:Nat}{t:Tk}{x y:AV}(ht:ts[i]? = some t)(hx:xs[i]? = some x):(List.zipWith aL ts xs).set i ((aL t x).set 1 y)=List.zipWith aL ts (xs.set i y):=by
 apply ahF
 intro k
 rw[af6,adT,adT,af6]
 have br:=(aah.1 ht).1
 have eg:=(aah.1 hx).1
 by_cases e:i=k
 ·subst e
  rw[if_pos rfl,if_pos rfl,if_pos eg,if_pos (by rw[agd];omega),ht];rfl
 ·rw[if_neg e,if_neg e]
theorem Vu {ts:List Tk}{dx bZ:AV}{P B:Nat}(hn:ts.length<=1000)(dm:∀ t∈ts,t.after.length<=1000):∀ (r:List Tk) (i:Nat) (H:Hp) (xk:List AV),i<=ts.length->ts.drop i=r->RD H dx xk ts->OL H 99 6 dx (List.zipWith aL ts xk)->cellAt H P 0=some dx->P<H.next->B<=H.next->P∉ak dx->(∀ x∈xk,∀ j∈ak x,j∉ak dx)->(∀ (m:Nat) (x:AV),m<i->xk[m]? = some x->∀ j∈ak x,B<=j)->
  ∃ IF H',(∀ jP:K.Fn 2,HT JN GO cK jP (.ptr P 0) bZ dx (.int .i64 (ts.length:Nat)) (.int .i64 (i:Nat)) H=jP (.ptr P 0) bZ H')/\RD H' dx IF ts/\(∀ x∈IF,∀ j∈ak x,B<=j/\j∉ak dx)/\Out (ak dx) H H'
 | [],i,H,xk,hi,h,hR,hO,hP,Rh,hB,x0,hd,hb=>by
  obtain rfl:=drop_nil hi h
  refine⟨xk,H,fun jP => ?_,hR,fun x hx j hj=>⟨?_,hd x hx j hj⟩,Out.refl _ _⟩
  ·rw[Ws]
   simp only[J3,fU,ai,aj,simprocAttr]
  ·obtain⟨m,hm⟩:=adi hx
   have:=(aah.1 hm).1
   rw[hR.len] at this
   exact hb m x this hm j hj
 | t::r,i,H,xk,hi,h,hR,hO,hP,Rh,hB,x0,hd,hb=>by
  obtain⟨h1,h2,h3⟩:=gG h
  have ht:=aao h2
  obtain⟨x,b,o,q0,q1,q2,q3,q4,q5,q6⟩:=hR.at h2
  have es:=gf h1 (by omega)
  have o1:=aI H (aL t x) 99 0
  have aC:=yS t x q1 H
  obtain⟨e0,e1,e2,e3,e4,e5⟩:=uC t x
  obtain⟨y,H2,y1,y2,y3,y4,y5⟩:=aiT (q2.out0 o1) (fun v hv=>by obtain⟨z,_,rfl⟩:=acS.1 hv;rfl) (by rw[lG];have:=dm t ht;omega)
  have o2:=o1.trans y3
  have gL:=o2.nx
  have fO:=hR.row.1.lt
  have Ct:=hO.out o2 (by simp)
  have hzi:(List.zipWith aL ts xk)[i]? = some (aL t x):=by rw[adT,h2,q0]
  obtain⟨H3,w1,w2,w3,w4⟩:=Ct.fG (k:=1) hzi q3 y2.jG (by decide)
  rw[aii h2 q0] at w2
  have hP1:cellAt (al H (aL t x) 99 0) P 0=some dx:=by rw[tQ Rh];exact hP
  have V4:cellAt H2 P 0=some dx:=by rw[o2.cellAt Rh (by simp)];exact hP
  have El:cellAt H3 P 0=some dx:=by rw[w3.cellAt (by omega) x0];exact V4
  have arj:=(aah.1 q0).1
  have SR:∀ j∈ak y,j∉ak dx:=fun j hj z=>by have:=y4 j hj;rw[bK] at this;have:=fO j z;omega
  have hyb:∀ j∈ak y,B<=j:=fun j hj=>by have:=y4 j hj;rw[bK] at this;omega
  have pY:RD H3 dx (xk.set i y) ts:=by
   refine⟨by rw[ac4];exact hR.len,w2.rl,fun m z u hz hu => ?_⟩
   rw[af6] at hz
   split at hz
   ·rename_i e
    subst e
    cases hz
    rw[h2] at hu;cases hu
    exact y2.rw.out w3 SR
   ·exact ((hR.jn m z u hz hu).out0 o2).out w3 (hd z (aao hz))
  obtain⟨IF,H',i1,i2,i3,i4⟩:=Vu (bZ:=bZ) (P:=P) (B:=B) hn dm r (i+1) H3 (xk.set i y) h1 h3 pY w2 El (by omega) (by omega) x0 (fun z hz=>by
   rcases agu hz with hz | rfl
   ·exact hd z hz
   ·exact SR) (fun m z hm hz=>by
   rw[af6] at hz
   split at hz
   ·cases hz
    exact hyb
   ·exact hb m z (by omega) hz)
  refine⟨IF,H',fun jP => ?_,i2,i3,((o2.mono fun j hj=>by cases hj).trans w3).trans i4⟩
  rw[Ws]
  simp(disch:=first|exact zqz|fail)only[J3,bI h1,q3,q5,aC,hP1,e1,y1,w1,V4,lT (B5 hR.row.1),es,i1,av,au,ai,aj,simprocAttr]
structure RO (H:Hp)(dx:AV)(xs:List AV)(tx sx:AV)(R:Rn):Prop where
 v:RV H dx xs tx sx R
 t:OL H 132 4 tx (gq R.rs)
 s:Ow H 9 1 sx (strs R.sg)
 dt:∀ j∈ak tx,j∉kX dx xs/\j∉ak sx
 ds:∀ j∈ak sx,j∉kX dx xs
structure Sm (R:Rn):Prop where
 n:R.ts.length<=1000
 a:∀ t∈R.ts,t.after.length<=1000
 r:R.rs.length<=1000
 s:R.sg.length<=1000
theorem yV {H:Hp}{dx tx sx:AV}{xs:List AV}{R:Rn}(h:RV H dx xs tx sx R)(hs:Sm R) :
  ∃ aw bh ay aB H',cK (.func (.func 97) [] []) [.agg (rv dx R.st tx sx)] H=some (.agg (rv aw R.st ay aB),H')/\RO H' aw bh ay aB R/\Out [] H H'/\∀ j∈me aw bh ay aB,H.next<=j:=by
 have aW:bx 75 (.agg (rv dx R.st tx sx)) H=some (H.next,al H (rv dx R.st tx sx) 75 0):=ji (by simp)
 have o1:=aI H (rv dx R.st tx sx) 75 0
 have c1:=bg H (rv dx R.st tx sx) 75 0
 have n1:(al H (rv dx R.st tx sx) 75 0).next=H.next+1:=rfl
 generalize al H (rv dx R.st tx sx) 75 0=H1 at *
 have dL:aE H1 [.ah,(.int .i64 0),.ah,.ah] 75 0=some (H.next+1,al H1 [.ah,(.int .i64 0),.ah,.ah] 75 0):=by rw[<-n1];exact gk (by simp)
 have o2:=aI H1 [.ah,(.int .i64 0),.ah,.ah] 75 0
 have c2:=bg H1 [.ah,(.int .i64 0),.ah,.ah] 75 0
 have n2:(al H1 [.ah,(.int .i64 0),.ah,.ah] 75 0).next=H.next+2:=by rw[bK,n1]
 rw[n1] at c2
 generalize dc:al H1 [.ah,(.int .i64 0),.ah,.ah] 75 0=H2 at *
 have dQ:=o1.trans o2
 have js:=c1.out o2 (by simp)
 have vS:=h.out0 dQ
 have k1:cellAt H2 H.next 0=some dx:=js.cellAt rfl
 have gI:=vS.d
 have lu:(List.zipWith aL R.ts xs).flatten.length<=6000:=by
  rw[xh Rv,agd]
  have:=hs.n
  have:min R.ts.length xs.length<=1000:=af2 (Nat.min_le_left _ _) hs.n
  omega
 obtain⟨aw,H3,a1,a2,a3,a4,a5⟩:=aje gI.row.1 gI.ones (by omega)
 have oa:=js.out a3 (by simp)
 have gy:aY aw=true:=a2.jG
 obtain⟨H4,b1,b2,b3,b4⟩:=fG oa (by decide) (o:=0) (by simp) (v:=aw) gy
 have CM:(rv dx R.st tx sx).set 0 aw=rv aw R.st tx sx:=rfl
 rw[CM] at b2
 have n3:=a3.nx
 have x0:H.next∉ak aw:=fun z=>by have:=a4 _ z;omega
 have hP4:cellAt H4 H.next 0=some aw:=b2.cellAt rfl
 have pY:=gI.out0 a3
 have aq3:=gI.lt
 have akb:=h.d.lt
 have kE:RD H4 aw xs R.ts:=⟨pY.len,(show OL H3 99 6 aw (List.zipWith aL R.ts xs) from⟨a2,Rv⟩).rl.out b3 (fun j hj=>by rw[No];intro e;subst e;exact x0 hj),fun m z u hz hu=>(pY.jn m z u hz hu).out b3 fun j hj=>by
  rw[No]
  have:=(h.d.jn m z u hz hu).lt j hj
  omega⟩
 have hO4:OL H4 99 6 aw (List.zipWith aL R.ts xs):=(show OL H3 99 6 aw (List.zipWith aL R.ts xs) from⟨a2,Rv⟩).out b3 (fun j hj=>by rw[No];intro e;subst e;exact x0 hj)
 have fO:=kE.bq
 obtain⟨bh,H5,l1,l2,l3,l4⟩:=Vu (bZ := .ptr (H.next+1) 0) (P:=H.next) (B:=H.next+2) hs.n hs.a R.ts 0 H4 xs (acD _) acI kE hO4 hP4 b2.1 (by omega) x0 (fun x hx j hj z=>by
  obtain⟨m,hm⟩:=adi hx
  have xA:=(aah.1 hm).1
  rw[h.d.len] at xA
  have:=(h.d.jn m x _ hm (aai xA)).lt j hj
  have:=a4 j z
  omega) (fun m x hm=>by omega)
 rw[show (((0:Nat):Int))=0 from rfl] at l1
 have Wm:=b2.out l4 x0
 have n5:=l4.nx
 have arb:∀ {S:List Nat} {A B:Hp},Out S A B->True:=fun _=>trivial
 have Zw:Out (H.next::ak aw) H2 H5:=((a3.mono (S':=H.next::ak aw) fun j hj=>by cases hj).trans (b3.mono fun j hj=>by rw[No] at hj;subst hj;exact .head _)).trans (l4.mono fun j hj => .tail _ hj)
 have Vc:∀ j,j<H.next->j∉H.next::ak aw:=fun j hj z=>by
  rcases aaD.1 z with e | z
  ·omega
  ·have:=a4 j z;omega
 have QH:RL H5 4 tx (gq R.rs):=vS.t.out Zw fun j hj=>Vc j (h.t.1.lt j hj)
 have hs5:Rw H5 1 sx (strs R.sg):=vS.s.out Zw fun j hj=>Vc j (h.s.lt j hj)
 have k2:cellAt H5 H.next 2=some tx:=Wm.cellAt rfl
 obtain⟨ay,H6,t1,t2,t3,t4,t5⟩:=ajc QH.1 (ajO R.rs) (by rw[xh (Ja _),yP];have:=hs.r;omega)
 have cP6:=Wm.out t3 (by simp)
 obtain⟨H7,u1,u2,u3,u4⟩:=fG cP6 (by decide) (o:=2) (by simp) (v:=ay) t2.jG
 have qd:(rv aw R.st tx sx).set 2 ay=rv aw R.st ay sx:=rfl
 rw[qd] at u2
 have n6:=t3.nx
 have k3:cellAt H7 H.next 3=some sx:=u2.cellAt rfl
 have Gp:∀ j,H.next+2<=j\/j<H.next->j∉[H.next]:=fun j hj=>by rw[No];omega
 have hs7:Rw H7 1 sx (strs R.sg):=(hs5.out0 t3).out u3 fun j hj=>Gp j (.inr (h.s.lt j hj))
 obtain⟨aB,H8,v1,v2,v3,v4,v5⟩:=VJ hs7 (fun v hv=>by obtain⟨z,_,rfl⟩:=acS.1 hv;rfl) (by rw[iZ];have:=hs.s;omega)
 have cP8:=u2.out v3 (by simp)
 obtain⟨H9,w1,w2,w3,w4⟩:=fG cP8 (by decide) (o:=3) (by simp) (v:=aB) v2.jG
 have DO:(rv aw R.st ay sx).set 3 aB=rv aw R.st ay aB:=rfl
 rw[DO] at w2
 have n8:=v3.nx
 have k4:ar H9 H.next 0 4=some (rv aw R.st ay aB):=w2.ar 4 0 (by simp)
 have hQd:H.next+1∉ak aw:=fun z=>by have:=a4 _ z;omega
 have hQ:∀ S:List Nat,S=[H.next]->H.next+1∉S:=fun S e=>by rw[e,No];omega
 have cQ9:=(((((((c2.out a3 (by simp)).out b3 (hQ _ rfl)).out l4 hQd).out t3 (by simp)).out u3 (hQ _ rfl)).out v3 (by simp)).out w3 (hQ _ rfl))
 obtain⟨uJ,z1,z2,z3,z4⟩:=fx (n:=4) (vs:=rv aw R.st ay aB) cQ9 rfl rfl (by simp[gy,t2.jG,v2.jG,kK])
 have k5:ar uJ (H.next+1) 0 4=some (rv aw R.st ay aB):=z2.ar 4 0 (by simp)
 have z6:OL H6 132 4 ay (gq R.rs):=⟨t2,Ja _⟩
 have n7:=u3.nx
 have n9:=w3.nx
 have oB:∀ j,H.next+2<=j->j∉[H.next]/\j∉[H.next+1]:=fun j hj=>by rw[No,No];omega
 have eX:∀ j∈kX aw bh,H.next+2<=j/\j<H5.next:=fun j hj=>⟨by
  rcases abL.1 hj with hj | hj
  ·have:=a4 j hj;omega
  ·obtain⟨x,hx,hj⟩:=agY.1 hj
   exact (l3 x hx j hj).1,l2.lt j hj⟩
 have pT:∀ j∈ak ay,H5.next<=j/\j<H6.next:=fun j hj=>⟨t4 j hj,t2.rw.lt j hj⟩
 have rD:∀ j∈ak aB,H7.next<=j:=v4
 have n45:H.next+2<=H5.next:=by omega
 have Tb:OL uJ 132 4 ay (gq R.rs):=(((z6.out u3 fun j hj=>(oB j (by have:=pT j hj;omega)).1).out v3 (by simp)).out w3 fun j hj=>(oB j (by have:=pT j hj;omega)).1).out z3 fun j hj=>(oB j (by have:=pT j hj;omega)).2
 have ZP:Ow uJ 9 1 aB (strs R.sg):=(v2.out w3 fun j hj=>(oB j (by have:=rD j hj;omega)).1).out z3 fun j hj=>(oB j (by have:=rD j hj;omega)).2
 have anK:RD uJ aw bh R.ts:=((((l2.out0 t3).out u3 fun j hj=>(oB j (eX j hj).1).1).out0 v3).out w3 fun j hj=>(oB j (eX j hj).1).1).out z3 fun j hj=>(oB j (eX j hj).1).2
 have key:∀ {S:List Nat} {A B:Hp},Out [] H A->Out S A B->(∀ j∈S,H.next<=j)->Out [] H B:=fun h k hS=>h.then k fun j hj => .inr (hS j hj)
 have one:∀ (m:Nat),H.next<=m->∀ j∈[m],H.next<=j:=fun m hm j hj=>by rw[No] at hj;omega
 have out:Out [] H uJ:=key (key (key (key (key (key (key (key dQ a3 (fun j hj=>by cases hj)) b3 (one _ (aaC _))) l4 fun j hj=>by have:=a4 j hj;omega) t3 (fun j hj=>by cases hj)) u3 (one _ (aaC _))) v3 (fun j hj=>by cases hj)) w3 (one _ (aaC _))) z3 (one _ (afh _))
 refine⟨aw,bh,ay,aB,uJ,ack ?_,⟨⟨anK,Tb.rl,ZP.rw⟩,Tb,ZP,fun j hj=>⟨fun z => ?_,fun z => ?_⟩,fun j hj z => ?_⟩,out,fun j hj => ?_⟩
 ·unfold LZ
  simp(disch:=first|exact zqz|fail)only[aW,dL,n1,dc,k1,a1,b1,hP4,fO,l1,k2,t1,u1,k3,v1,w1,k4,z1,k5,av,au,ai,aj,simprocAttr]
 ·have:=pT j hj;have:=eX j z;omega
 ·have:=pT j hj;have:=rD j z;omega
 ·have:=rD j hj;have:=eX j z;omega
 ·rcases abL.1 hj with hj | hj
  ·have:=eX j hj;omega
  ·rcases abL.1 hj with hj | hj
   ·have:=pT j hj;omega
   ·have:=rD j hj;omega
def xw (rs:List RT)(a:Int):Int:=((rs[a.toNat]?).map (·.ph)).getD 0
def cg (rs:List RT)(t:Tk):Bool:=t.after.any (fun a=>xw rs a != 3)
def yd (rs:List RT)(sg:List aq)(t:Tk)(r:RT):Bool:=(r.ph==0)&&(!(cg rs t)&&((t.on==[])||sg.any (fun a=>t.on==a)))
def jN (rs:List RT)(sg:List aq)(t:Tk)(r:RT):RT:=if yd rs sg t r then { r with ph:=1 } else r
def hZ (R:Rn):Rn:={ R with rs:=List.zipWith (jN R.rs R.sg) R.ts R.rs,st:=if R.rs.all (fun r=>r.ph==3) then 1 else R.st }
theorem PZ (rs:List RT)(sg:List aq)(t:Tk)(r:RT):((jN rs sg t r).ph==3)=(r.ph==3):=by
 unfold jN
 split
 ·rename_i h
  unfold yd at h
  rw[aau,beq_iff_eq] at h
  rw[h.1];rfl
 ·rfl
theorem Nl {α:Type}{p q:α->Bool}:∀ {l:List α},(∀ a∈l,p a=q a)->l.any p=l.any q
 | [],_=>rfl
 | a::l,h=>by rw[List.any_cons,List.any_cons,h a (.head _),Nl fun b hb=>h b (.tail _ hb)]
theorem apW {H:Hp}{p G:Nat}{tx:AV}{rk:List RT}(hG:cellAt H G 0=some (.ptr p 0))(hC:cellAt H p 2=some tx)(hT:RL H 4 tx (gq rk)){a:Int}(h0:0<=a)(h1:a<rk.length) :
  cK (.func (.func 144) [] [.ptr G 0]) [.int .i64 a] H=some (.bool (xw rk a != 3),H):=by
 obtain⟨m,rfl⟩:∃ m:Nat,a=m:=⟨a.toNat,by omega⟩
 have hm:rk[m]? = some (rk[m]'(by omega)):=aai _
 obtain⟨b,o,q1,q2,q3,q4,q5⟩:=hT.at (by decide) (qK hm)
 have e0:=q5 0 _ (ym _).1
 rw[aej] at e0
 have hp:xw rk (m:Int)=(rk[m]'(by omega)).ph:=by unfold xw;rw[acr,hm];rfl
 refine ac3 ?_
 unfold aak
 rw[hp]
 simp(disch:=first|exact zqz|fail)only[hG,hC,q1,e0,av,au,ai,aj,simprocAttr]
theorem JR (l:List RT)(i:Nat)(t:RT):(gq l).set i (eC t)=gq (l.set i t):=by simp[gq,List.map_set]
theorem Ti {ts:List Tk}{dx tx sx:AV}{xs:List AV}{st:Int}{p G:Nat}{sg:List aq}{eB:List RT}(hn:ts.length<=1000)(dm:∀ t∈ts,t.after.length<=1000)(xa:sg.length<=1000)(Bi:eB.length=ts.length)(ha:∀ t∈ts,∀ a∈t.after,0<=a/\a<(ts.length:Int))(wU:p∉ak tx)(Wx:G∉ak tx)(hd:∀ j∈ak tx,j∉kX dx xs/\j∉ak sx) :
  ∀ (r:List Tk) (i:Nat) (H:Hp) (rk:List RT) (all:Bool),i<=ts.length->ts.drop i=r->Cs H p (rv dx st tx sx) 75 0->cellAt H G 0=some (.ptr p 0)->G<H.next->RD H dx xs ts->OL H 132 4 tx (gq rk)->Rw H 1 sx (strs sg)->rk.length=ts.length->(∀ k,i<=k->rk[k]? = eB[k]?)->(∀ k,k<i->rk[k]? = (List.zipWith (jN eB sg) ts eB)[k]?)->
  ∃ H',(∀ dB:K.Fn 2,uh JN GO cK dB (.ptr G 0) (.bool all) dx (.int .i64 (ts.length:Nat)) (.int .i64 (i:Nat)) H=dB (.ptr G 0) (.bool (all&&(eB.drop i).all (fun r=>r.ph==3))) H')/\Cs H' p (rv dx st tx sx) 75 0/\cellAt H' G 0=some (.ptr p 0)/\OL H' 132 4 tx (gq (List.zipWith (jN eB sg) ts eB))/\Out (ak tx) H H'
 | [],i,H,rk,all,hi,h,hC,hG,Mt,hR,hO,hS,hl,h1,h2=>by
  obtain rfl:=drop_nil hi h
  have DG:rk=List.zipWith (jN eB sg) ts eB:=by
   apply ahF
   intro k
   by_cases hk:k<ts.length
   ·exact h2 k hk
   ·rw[af1 (by omega),af1 (by rw[agd];omega)]
  refine⟨H,fun dB => ?_,hC,hG,by rw[<-DG];exact hO,Out.refl _ _⟩
  rw[MF,List.drop_eq_nil_of_le (by omega),List.all_nil,Bool.and_true]
  simp only[yL,fU,ai,aj,simprocAttr]
 | t::r,i,H,rk,all,hi,h,hC,hG,Mt,hR,hO,hS,hl,h1,h2=>by
  obtain⟨g1,g2,g3⟩:=gG h
  have ht:=aao g2
  obtain⟨x,b,o,q0,q1,q2,q3,q4,q5,q6⟩:=hR.at g2
  have es:=gf g1 (by omega)
  have aC:=yS t x q1 H
  obtain⟨e0,e1,e2,e3,e4,e5⟩:=uC t x
  have o1:=aI H (aL t x) 99 0
  have cT:=bg H (aL t x) 99 0
  have xN:∀ H':Hp,Out [] H H'->cellAt H' G 0=some (.ptr p 0)/\cellAt H' p 2=some tx/\cellAt H' p 3=some sx:=fun H' k=>⟨by rw[k.cellAt Mt (by simp)];exact hG,(hC.out k (by simp)).cellAt rfl,(hC.out k (by simp)).cellAt rfl⟩
  obtain⟨H2,f1,f2⟩:=adF (fv := .func (.func 144) [] [.ptr G 0]) (p:=fun a=>xw rk a != 3) (q2.out0 o1) (by have:=dm t ht;omega) (fun H' k a hm=>by
   obtain⟨c1,c2,c3⟩:=xN H' (o1.trans k)
   exact⟨H',apW c1 c2 (hO.rl.out0 (o1.trans k)) (ha t ht a hm).1 (by rw[hl];exact (ha t ht a hm).2),Out.refl _ _⟩)
  have o2:=o1.trans f2
  have gL:=o2.nx
  obtain⟨c1,c2,c3⟩:=xN H2 o2
  have cT2:=cT.out f2 (by simp)
  have k5:cellAt H2 H.next 5=some (.str t.on):=cT2.cellAt e5
  have kx:cellAt (al H (aL t x) 99 0) H.next 1=some x:=cT.cellAt e1
  have br:i<eB.length:=by omega
  have AX:eB[i]? = some (eB[i]'br):=aai _
  have DG:rk[i]? = some (eB[i]'br):=by rw[h1 i (aaC _),AX]
  have yo:eB.drop i=(eB[i]'br)::eB.drop (i+1):=(List.getElem_cons_drop br).symm
  generalize eB[i]'br=u at *
  obtain⟨b',o',p1,p2,p3,p4,p5⟩:=(hO.rl.out0 o2).at (by decide) (qK DG)
  have u0:=p5 0 _ (ym u).1
  rw[aej] at u0
  have Hd:(t.after.any fun a=>xw rk a != 3)=cg eB t:=by
   unfold cg
   refine Nl fun a hm => ?_
   obtain⟨a0,a1⟩:=ha t ht a hm
   unfold xw
   by_cases hk:a.toNat<i
   ·have hz:=h2 _ hk
    rw[adT,aai (show a.toNat<ts.length by omega),aai (show a.toNat<eB.length by omega)] at hz
    rw[hz,aai (show a.toNat<eB.length by omega)]
    simp only[aee,afG]
    have:=PZ eB sg (ts[a.toNat]'(by omega)) (eB[a.toNat]'(by omega))
    simp only[bne,this]
   ·rw[h1 _ (by omega)]
  rw[Hd] at f1
  have hz:(List.zipWith (jN eB sg) ts eB)[i]? = some (jN eB sg t u):=by rw[adT,g2,AX]
  have nW:=XS (hS.out0 o2) (by omega) t.on
  rw[yo,List.all_cons]
  have fin:∀ (H3:Hp) (Cd:List RT),Out (ak tx) H2 H3->OL H3 132 4 tx (gq Cd)->Cd.length=ts.length->(∀ k,k≠i->Cd[k]? = rk[k]?)->Cd[i]? = some (jN eB sg t u)->
    (∀ H':Hp,(∀ dB:K.Fn 2,uh JN GO cK dB (.ptr G 0) (.bool (all&&(u.ph==3))) dx (.int .i64 (ts.length:Nat)) (.int .i64 ((i+1:Nat):Int)) H3=dB (.ptr G 0) (.bool ((all&&(u.ph==3))&&(eB.drop (i+1)).all (fun r=>r.ph==3))) H')->(∀ b3 o3,ia 4 tx (.int .i64 (i:Nat))=some (.ptr b3 o3)->cellAt H3 b3 o3=some (.int .i64 (jN eB sg t u).ph))->cellAt H3 G 0=some (.ptr p 0)->cellAt H3 p 2=some tx->∀ dB:K.Fn 2,uh JN GO cK dB (.ptr G 0) (.bool all) dx (.int .i64 (ts.length:Nat)) (.int .i64 (i:Nat)) H=dB (.ptr G 0) (.bool ((all&&(u.ph==3))&&(eB.drop (i+1)).all (fun r=>r.ph==3))) H')->
    ∃ H',(∀ dB:K.Fn 2,uh JN GO cK dB (.ptr G 0) (.bool all) dx (.int .i64 (ts.length:Nat)) (.int .i64 (i:Nat)) H=dB (.ptr G 0) (.bool (all&&((u.ph==3)&&(eB.drop (i+1)).all (fun r=>r.ph==3)))) H')/\Cs H' p (rv dx st tx sx) 75 0/\cellAt H' G 0=some (.ptr p 0)/\OL H' 132 4 tx (gq (List.zipWith (jN eB sg) ts eB))/\Out (ak tx) H H':=by
   intro H3 Cd k3 Gd Bh aO WD iW
   have o3:Out (ak tx) H H3:=(o2.mono fun j hj=>by cases hj).trans k3
   have Ho:cellAt H3 G 0=some (.ptr p 0):=by rw[o3.cellAt Mt Wx];exact hG
   have GW:=hC.out o3 wU
   have xu:=k3.nx
   obtain⟨H',i1,i2,i3,i4,i5⟩:=Ti hn dm xa Bi ha wU Wx hd r (i+1) H3 Cd (all&&(u.ph==3)) g1 g3 GW Ho (by omega) (hR.out o3 fun j hj z=>(hd j z).1 hj) Gd (hS.out o3 fun j hj z=>(hd j z).2 hj) Bh (fun k hk=>by rw[aO k (by omega)];exact h1 k (by omega)) (fun k hk=>by
    by_cases e:k=i
    ·subst e;rw[WD,hz]
    ·rw[aO k e];exact h2 k (by omega))
   refine⟨H',fun dB => ?_,i2,i3,i4,o3.trans i5⟩
   rw[<-Bool.and_assoc]
   refine iW H' i1 (fun b3 o3' hb => ?_) Ho (GW.cellAt rfl) dB
   obtain⟨b4,o4,r1,r2,r3,r4,r5⟩:=Gd.rl.at (by decide) (qK WD)
   have e4:=r1 .i64
   rw[hb] at e4
   cases e4
   have:=r5 0 _ (ym (jN eB sg t u)).1
   rwa[aej] at this
  have mA:=PZ eB sg t u
  have apP:jN eB sg t u=u->(∀ H':Hp,(∀ dB:K.Fn 2,uh JN GO cK dB (.ptr G 0) (.bool (all&&(u.ph==3))) dx (.int .i64 (ts.length:Nat)) (.int .i64 ((i+1:Nat):Int)) H2=dB (.ptr G 0) (.bool ((all&&(u.ph==3))&&(eB.drop (i+1)).all (fun r=>r.ph==3))) H')->∀ dB:K.Fn 2,uh JN GO cK dB (.ptr G 0) (.bool all) dx (.int .i64 (ts.length:Nat)) (.int .i64 (i:Nat)) H=dB (.ptr G 0) (.bool ((all&&(u.ph==3))&&(eB.drop (i+1)).all (fun r=>r.ph==3))) H')->
    ∃ H',(∀ dB:K.Fn 2,uh JN GO cK dB (.ptr G 0) (.bool all) dx (.int .i64 (ts.length:Nat)) (.int .i64 (i:Nat)) H=dB (.ptr G 0) (.bool (all&&((u.ph==3)&&(eB.drop (i+1)).all (fun r=>r.ph==3)))) H')/\Cs H' p (rv dx st tx sx) 75 0/\cellAt H' G 0=some (.ptr p 0)/\OL H' 132 4 tx (gq (List.zipWith (jN eB sg) ts eB))/\Out (ak tx) H H':=by
   intro e iW
   exact fin H2 rk (Out.refl _ _) (hO.out o2 (by simp)) hl (fun k hk=>rfl) (by rw[DG,e]) fun H' z _ _ _=>iW H' z
  have d3:∀ z:Bool,(u.ph==3)=z->(u.ph==3)=z:=fun z h=>h
  by_cases hr:yd eB sg t u=true
  ·have hs:jN eB sg t u={ u with ph:=1 }:=by unfold jN;rw[if_pos hr]
   obtain⟨H3,w1,w2,w3,w4⟩:=(hO.out o2 (by simp)).fG (k:=0) (v := .int .i64 1) (qK DG) p1 rfl (by decide)
   have fh:(eC u).set 0 (.int .i64 1)=eC { u with ph:=1 }:=rfl
   rw[fh,JR] at w2
   rw[aej] at w1
   have jS:=(aah.1 DG).1
   refine fin H3 (rk.set i { u with ph:=1 }) w3 w2 (by rw[ac4];exact hl) (fun k hk=>by rw[aia (fun e=>hk e.symm)]) (by rw[afy jS,hs]) fun H' z hb Ho GW dB => ?_
   have rb:=hb b' o' (p1 .i64)
   rw[hs] at rb
   have SN:cellAt H3 b' o'=some (.int .i64 1):=rb
   unfold yd at hr
   simp only[aau,agK,aix] at hr
   obtain⟨r1,r2,r3⟩:=hr
   have r0:u.ph=0:=by simpa using r1
   have r13:(u.ph==3)=false:=by rw[r0];rfl
   rw[r13,Bool.and_false] at z ⊢
   rw[MF]
   cases tO:(t.on==[]) with
   | true=>cases all<;>simp(disch:=first|exact zqz|fail)only[yL,bI g1,q3,q5,aC,kx,f1,c1,c2,c3,p1,u0,r1,r2,k5,tO,w1,Ho,GW,SN,es,z,av,au,ai,aj,simprocAttr]
   | false=>
    have r3':=r3.resolve_left (by rw[tO];simp)
    rw[r3'] at nW
    cases all<;>simp(disch:=first|exact zqz|fail)only[yL,bI g1,q3,q5,aC,kx,f1,c1,c2,c3,p1,u0,r1,r2,k5,tO,nW,w1,Ho,GW,SN,es,z,av,au,ai,aj,simprocAttr]
  ·have hs:jN eB sg t u=u:=by unfold jN;rw[if_neg hr]
   refine apP hs fun H' z dB => ?_
   rw[MF]
   unfold yd at hr
   cases r1:(u.ph==0) with
   | false=>cases all<;>simp only[aeD,aeL] at z ⊢ <;> simp(disch:=first|exact zqz|fail)only[yL,bI g1,q3,q5,aC,kx,f1,c1,c2,c3,p1,u0,r1,k5,es,z,av,au,ai,aj,simprocAttr]
   | true=>
    cases r2:cg eB t with
    | true=>
     rw[r2] at f1
     cases all<;>simp only[aeD,aeL] at z ⊢ <;> simp(disch:=first|exact zqz|fail)only[yL,bI g1,q3,q5,aC,kx,f1,c1,c2,c3,p1,u0,r1,r2,k5,es,z,av,au,ai,aj,simprocAttr]
    | false=>
     rw[r2] at f1
     rw[r1,r2] at hr
     have tO:(t.on==[])=false:=by
      cases hq:(t.on==[]) with
      | false=>rfl
      | true=>rw[hq] at hr;simp at hr
     have hno:(sg.any fun a=>t.on==a)=false:=by
      rw[tO] at hr
      cases hq:(sg.any fun a=>t.on==a) with
      | false=>rfl
      | true=>rw[hq] at hr;simp at hr
     rw[hno] at nW
     cases all<;>simp only[aeD,aeL] at z ⊢ <;> simp(disch:=first|exact zqz|fail)only[yL,bI g1,q3,q5,aC,kx,f1,c1,c2,c3,p1,u0,r1,r2,k5,tO,nW,es,z,av,au,ai,aj,simprocAttr]
theorem P7 {H:Hp}{p:Nat}{dx tx sx:AV}{xs:List AV}{R:Rn}(hC:Cs H p (rv dx R.st tx sx) 75 0)(hO:RO H dx xs tx sx R)(hp:p∉me dx xs tx sx)(hs:Sm R)(hl:R.rs.length=R.ts.length)(ha:∀ t∈R.ts,∀ a∈t.after,0<=a/\a<(R.ts.length:Int)) :
  ∃ H',cK (.func (.func 106) [] []) [.ptr p 0] H=some (.tuple [],H')/\Cs H' p (rv dx (hZ R).st tx sx) 75 0/\RO H' dx xs tx sx (hZ R)/\Out (p::ak tx) H H':=by
 have aW:bx 146 (.ptr p 0) H=some (H.next,al H [.ptr p 0] 146 0):=MD rfl
 have o1:=aI H [.ptr p 0] 146 0
 have wU:p∉ak tx:=fun z=>hp (abr _ (abG _ z))
 have QS:cellAt (al H [.ptr p 0] 146 0) H.next 0=some (.ptr p 0):=by rw[vP rfl];rfl
 have Ff:=hC.out o1 (by simp)
 have k0:cellAt (al H [.ptr p 0] 146 0) p 0=some dx:=Ff.cellAt rfl
 have oL:=hO.v.d.out0 o1
 have fO:=oL.bq
 have Bm:=hO.v.t.1.lt
 obtain⟨H2,i1,i2,i3,i4,i5⟩:=Ti (G:=H.next) hs.n hs.a hs.s hl ha wU (fun z=>by have:=Bm _ z;omega) hO.dt R.ts 0 (al H [.ptr p 0] 146 0) R.rs true (acD _) acI Ff QS (by rw[bK];omega) oL (hO.t.out o1 (by simp)) (hO.s.rw.out0 o1) hl (fun k _=>rfl) (fun k hk=>by omega)
 rw[acI,aeD,show (((0:Nat):Int))=0 from rfl] at i1
 have gI:=oL.out i5 fun j hj z=>(hO.dt j z).1 hj
 have NM:=(hO.s.out o1 (by simp)).out i5 fun j hj z=>(hO.dt j z).2 hj
 have o2:Out (ak tx) H H2:=(o1.mono fun j hj=>by cases hj).trans i5
 cases jY:R.rs.all (fun r=>r.ph==3) with
 | true=>
  rw[jY] at i1
  obtain⟨H3,w1,w2,w3,w4⟩:=fG i2 (by decide) (o:=1) (by simp) (v := .int .i64 1) rfl
  have aC:(hZ R).st=1:=by unfold hZ;rw[jY];rfl
  have fh:(rv dx R.st tx sx).set 1 (.int .i64 1)=rv dx 1 tx sx:=rfl
  rw[fh] at w2
  have uR:∀ {x:AV},(∀ j∈ak x,j∈me dx xs tx sx)->∀ j∈ak x,j∉[p]:=fun hx j hj=>by rw[No];intro e;subst e;exact hp (hx j hj)
  have vc:RD H3 dx xs R.ts:=gI.out w3 fun j hj=>by rw[No];intro e;subst e;exact hp (abG _ hj)
  have K1:=i4.out w3 (uR fun j hj=>abr _ (abG _ hj))
  have DO:=NM.out w3 (uR fun j hj=>abr _ (abr _ hj))
  refine⟨H3,YZ ?_,by rw[aC];exact w2,⟨⟨vc,K1.rl,DO.rw⟩,K1,DO,hO.dt,hO.ds⟩,(o2.mono fun j hj => .tail _ hj).trans (w3.mono fun j hj=>by rw[No] at hj;subst hj;exact .head _)⟩
  unfold JB
  simp(disch:=first|exact zqz|fail)only[aW,QS,k0,fO,i1,i3,w1,av,au,ai,aj,simprocAttr]
 | false=>
  rw[jY] at i1
  have aC:(hZ R).st=R.st:=by unfold hZ;rw[jY];rfl
  refine⟨H2,YZ ?_,by rw[aC];exact i2,⟨⟨gI,i4.rl,NM.rw⟩,i4,NM,hO.dt,hO.ds⟩,o2.mono fun j hj => .tail _ hj⟩
  unfold JB
  simp(disch:=first|exact zqz|fail)only[aW,QS,k0,fO,i1,i3,av,au,ai,aj,simprocAttr]
abbrev fA (n:Int):Int:=IntKind.wrap .i64 n
theorem RO.out {H H':Hp}{dx tx sx:AV}{xs:List AV}{R:Rn}{S:List Nat}(h:RO H dx xs tx sx R)(k:Out S H H')(hs:∀ j∈me dx xs tx sx,j∉S):RO H' dx xs tx sx R:=
 ⟨h.v.out k hs,h.t.out k fun j hj=>hs j (abr _ (abG _ hj)),h.s.out k fun j hj=>hs j (abr _ (abr _ hj)),h.dt,h.ds⟩
theorem RO.out0 {H H':Hp}{dx tx sx:AV}{xs:List AV}{R:Rn}(h:RO H dx xs tx sx R)(k:Out [] H H'):RO H' dx xs tx sx R:=h.out k fun _ _ q=>by cases q
theorem aik (t:RT):(eC t).all aY=true:=rfl
theorem RO.set {H:Hp}{dx tx sx:AV}{xs:List AV}{R:Rn}{i b o:Nat}(h:RO H dx xs tx sx R)(hi:i<R.rs.length)(np:∀ kd,ia 4 tx (.int kd i)=some (.ptr b o))(t:RT) :
  ∃ H',st 4 (.ptr b o) (.agg (eC t)) H=some H'/\RO H' dx xs tx sx { R with rs:=R.rs.set i t }/\Out (ak tx) H H'/\H'.next=H.next:=by
 obtain⟨H',h1,h2,h3,h4⟩:=h.t.stN (vs:=eC t) (by rw[yP];exact hi) np (aik t) rfl (by decide)
 rw[JR] at h2
 exact⟨H',h1,⟨⟨h.v.d.out h3 fun j hj z=>(h.dt j z).1 hj,h2.rl,h.v.s.out h3 fun j hj z=>(h.dt j z).2 hj⟩,h2,h.s.out h3 fun j hj z=>(h.dt j z).2 hj,h.dt,h.ds⟩,h3,h4⟩
theorem RD.Xt {H:Hp}{dx:AV}{xs:List AV}{ts:List Tk}(h:RD H dx xs ts){i:Nat}{t:Tk}(ht:ts[i]? = some t) :
  ∃ x b o,(∀ k,ia 6 dx (.int k i)=some (.ptr b o))/\b∈ak dx/\b<H.next/\aY x=true/\ar H b o 6=some (aL t x)/\∀ k v,(aL t x)[k]? = some v->cellAt H b (o+k)=some v:=by
 have hi:=(aah.1 ht).1
 have hx:xs[i]? = some (xs[i]'(by rw[h.len];exact hi)):=aai _
 have hw:=h.jn i _ t hx ht
 have hz:(List.zipWith aL ts xs)[i]? = some (aL t (xs[i]'(by rw[h.len];exact hi))):=by rw[adT,ht,hx]
 obtain⟨b,o,h1,h2,h3,h4,h5⟩:=h.row.at (by decide) hz
 exact⟨_,b,o,h1,h2,h3,hw.one,h4,h5⟩
abbrev zR:List AV:=[.ah,.int .i64 0,.ah,.ah]
abbrev qD:Rn:=⟨[],0,[],[]⟩
theorem RO.zero (H:Hp):RO H .ah [] .ah .ah qD:=
 ⟨⟨RD.nil H,RL.nil H 4,.nil⟩,OL.nil H _ 4,.nil,fun j hj=>(by cases hj),fun j hj=>by cases hj⟩
structure lL (R:Rn):Prop where
 sm:Sm R
 len:R.rs.length=R.ts.length
 jn:∀ t∈R.ts,∀ a∈t.after,0<=a/\a<(R.ts.length:Int)
def mP (f:AV)(args:List AV)(H:Hp)(R:Rn)(e:Int):Prop:=
 ∃ dx xs tx sx H',cK f args H=some (.tuple [.agg (rv dx R.st tx sx),.int .i64 e],H')/\RO H' dx xs tx sx R/\Out [] H H'/\∀ j∈me dx xs tx sx,H.next<=j
theorem mP.err {f:AV}{args:List AV}{H H1 H':Hp}{e:Int}{m:Nat}(h:cK f args H=some (.tuple [.agg zR,.int .i64 e],H'))(k:Out [] H H1)(k2:Out [m] H1 H')(hm:H.next<=m):mP f args H qD e:=
 ⟨.ah,[],.ah,.ah,H',h,RO.zero H',k.then k2 (fun j hj=>by rw[No] at hj;exact .inr (by omega)),fun j hj=>by cases hj⟩
theorem jX {n m:Nat}(h:n<=m):∀ j∈[m],n<=j:=fun j hj=>by rw[No] at hj;omega
theorem gi {H A B:Hp}{S:List Nat}(h:Out [] H A)(k:Out S A B)(hS:∀ j∈S,H.next<=j):Out [] H B:=h.then k fun j hj => .inr (hS j hj)
def oA (R:Rn)(task bu now:Int):Rn × Int:=
 if oM R task=0 then (match R.rs[task.toNat]?,R.ts[task.toNat]? with
  | some t,some d=>if t.ph=1 then (if bu=fA (t.tr+1) then ({ R with rs:=R.rs.set task.toNat ⟨2,bu,fA (now+d.wait),t.xJ⟩ },0) else (qD,8)) else (qD,4)
  | _,_=>(qD,4)) else (qD,oM R task)
theorem akx {H:Hp}{dx tx sx:AV}{xs:List AV}{R:Rn}(h:RV H dx xs tx sx R)(hk:lL R)(task bu now:Int) :
  mP (.func (.func 78) [] []) [.agg (rv dx R.st tx sx),.int .i64 task,.int .i64 bu,.int .i64 now] H (oA R task bu now).1 (oA R task bu now).2:=by
 have aW:bx 75 (.agg (rv dx R.st tx sx)) H=some (H.next,al H (rv dx R.st tx sx) 75 0):=ji (by simp)
 have o1:=aI H (rv dx R.st tx sx) 75 0
 have c1:=bg H (rv dx R.st tx sx) 75 0
 have n1:(al H (rv dx R.st tx sx) 75 0).next=H.next+1:=rfl
 generalize al H (rv dx R.st tx sx) 75 0=H1 at *
 have o2:=aI H1 zR 75 0
 have c2:=bg H1 zR 75 0
 have n2:(al H1 zR 75 0).next=H.next+2:=by rw[bK,n1]
 rw[n1] at c2
 generalize dc:al H1 zR 75 0=H2 at *
 have dQ:=o1.trans o2
 have js:=c1.out o2 (by simp)
 have k1:ar H2 H.next 0 4=some (rv dx R.st tx sx):=js.ar 4 0 (by simp)
 have hm:=YL (h.out0 dQ) task
 have o3:=aI H2 (rv dx R.st tx sx) 75 0
 have n3:(al H2 (rv dx R.st tx sx) 75 0).next=H.next+3:=by rw[bK,n2]
 generalize al H2 (rv dx R.st tx sx) 75 0=H3 at *
 have gS:=dQ.trans o3
 have oa:=js.out o3 (by simp)
 have qS:=c2.out o3 (by simp)
 unfold oA
 by_cases h0:oM R task=0
 ·obtain⟨i,t,rfl,ht,aC⟩:=GR h0
  have br:=(aah.1 ht).1
  have hd:R.ts[i]? = some (R.ts[i]'(by rw[<-hk.len];exact br)):=aai _
  have d0:(oM R (i:Int) != 0)=false:=by simp[h0]
  rw[if_pos h0,acr,ht,hd]
  simp only
  generalize R.ts[i]'(by rw[<-hk.len];exact br)=d at *
  have k2:cellAt H3 H.next 2=some tx:=oa.cellAt rfl
  obtain⟨b,o,q1,q2,q3,q4,q5⟩:=(h.t.out0 gS).at (by decide) (qK ht)
  have yk:=Xh t H3
  rw[n3] at yk
  obtain⟨e0,e1,e2,e3⟩:=ym t
  have o4:=aI H3 (eC t) 132 0
  have JO:=bg H3 (eC t) 132 0
  rw[n3] at JO
  have n4:(al H3 (eC t) 132 0).next=H.next+4:=by rw[bK,n3]
  generalize al H3 (eC t) 132 0=H4 at *
  have hz4:aE H3 [(.int .i64 0),(.int .i64 0),(.int .i64 0),(.str [])] 132 0=some (H.next+3,al H3 [(.int .i64 0),(.int .i64 0),(.int .i64 0),(.str [])] 132 0):=by rw[<-n3];exact gk (by simp)
  have mF:=gS.trans o4
  have Xe:=oa.out o4 (by simp)
  have Mw:=qS.out o4 (by simp)
  have t0:cellAt H4 (H.next+3) 0=some (.int .i64 t.ph):=JO.cellAt e0
  have t1:cellAt H4 (H.next+3) 1=some (.int .i64 t.tr):=JO.cellAt e1
  by_cases h1:t.ph=1
  ·have d1:(t.ph != 1)=false:=by simp[h1]
   rw[if_pos h1]
   by_cases h2:bu=fA (t.tr+1)
   ·have d2:(bu != IntKind.wrap .i64 (t.tr+1))=false:=by simp[h2]
    rw[if_pos h2]
    have k4:ar H4 H.next 0 4=some (rv dx R.st tx sx):=Xe.ar 4 0 (by simp)
    obtain⟨aw,bh,ay,aB,H5,r1,r2,r3,r4⟩:=yV (h.out0 mF) hk.sm
    have n5:=r3.nx
    obtain⟨H6,s1,s2,s3,s4⟩:=fx (n:=4) (vs:=rv aw R.st ay aB) (Xe.out r3 (by simp)) rfl rfl (by simp[r2.v.d.row.one,r2.t.rl.one,r2.s.jG,kK])
    have fr:∀ m,m<H.next+4->∀ j∈me aw bh ay aB,j∉[m]:=fun m hm j hj=>by rw[No];have:=r4 j hj;omega
    have R6:=r2.out s3 (fr _ (by omega))
    obtain⟨x,b2,JP,p1,p2,p3,p4,p5,p6⟩:=R6.v.d.Xt hd
    have kw6:cellAt H6 b2 (JP+3)=some (.int .i64 d.wait):=p6 3 _ rfl
    have kd6:cellAt H6 H.next 0=some aw:=s2.cellAt rfl
    have cT6:=(JO.out r3 (by simp)).out s3 (by rw[No];omega)
    have iz:b2≠H.next+3:=by have:=r4 b2 (abG _ (abG _ p2));omega
    obtain⟨H7,u1,u2,u3,u4⟩:=fG cT6 (by decide) (o:=0) (by rw[Js];omega) (v := .int .i64 2) rfl
    obtain⟨H8,v1,v2,v3,v4⟩:=fG u2 (by decide) (o:=1) (by rw[ac4,Js];omega) (v := .int .i64 bu) rfl
    obtain⟨H9,w1,w2,w3,w4⟩:=fG v2 (by decide) (o:=2) (by rw[ac4,ac4,Js];omega) (v := .int .i64 (fA (now+d.wait))) rfl
    have fh:(((eC t).set 0 (.int .i64 2)).set 1 (.int .i64 bu)).set 2 (.int .i64 (fA (now+d.wait)))=eC ⟨2,bu,fA (now+d.wait),t.xJ⟩:=rfl
    rw[fh] at w2
    have Ts:cellAt H7 b2 (JP+3)=some (.int .i64 d.wait):=by rw[u3.cellAt p3 (by rw[No];exact iz)];exact kw6
    have kw8:cellAt H8 b2 (JP+3)=some (.int .i64 d.wait):=by rw[v3.cellAt (by omega) (by rw[No];exact iz)];exact Ts
    have uI:H.next∉[H.next+3]:=by rw[No];omega
    have s7:=s2.out u3 uI
    have s8:=s7.out v3 uI
    have s9:=s8.out w3 uI
    have kd7:cellAt H7 H.next 0=some aw:=s7.cellAt rfl
    have kd8:cellAt H8 H.next 0=some aw:=s8.cellAt rfl
    have kt9:cellAt H9 H.next 2=some ay:=s9.cellAt rfl
    have kT9:ar H9 (H.next+3) 0 4=some (eC ⟨2,bu,fA (now+d.wait),t.xJ⟩):=w2.ar 4 0 (by rw[Js];omega)
    have R9:=((R6.out u3 (fr _ (by omega))).out v3 (fr _ (by omega))).out w3 (fr _ (by omega))
    obtain⟨b3,o3',y1,y2,y3,y4,y5⟩:=R9.v.t.at (by decide) (qK ht)
    obtain⟨uJ,z1,z2,z3,z4⟩:=R9.set br y1 ⟨2,bu,fA (now+d.wait),t.xJ⟩
    have ve:∀ m,m<H.next+4->m∉ak ay:=fun m hm z=>by have:=r4 m (abr _ (abG _ z));omega
    have s10:=s9.out z3 (ve _ (by omega))
    have ao0:ar uJ H.next 0 4=some (rv aw R.st ay aB):=s10.ar 4 0 (by simp)
    have hQ:∀ m,m≠H.next+1->H.next+1∉[m]:=fun m hm=>by rw[No];omega
    have ajU:=((((((Mw.out r3 (by simp)).out s3 (hQ _ (by omega))).out u3 (hQ _ (by omega))).out v3 (hQ _ (by omega))).out w3 (hQ _ (by omega))).out z3 (ve _ (by omega)))
    obtain⟨Cy,g1,g2,g3,g4⟩:=fx (n:=4) (vs:=rv aw R.st ay aB) ajU rfl rfl (by simp[r2.v.d.row.one,r2.t.rl.one,r2.s.jG,kK])
    have kQ:ar Cy (H.next+1) 0 4=some (rv aw R.st ay aB):=g2.ar 4 0 (by simp)
    have out:=gi (gi (gi (gi (gi (gi (mF.trans r3) s3 (jX (aaC _))) u3 (jX (by omega))) v3 (jX (by omega))) w3 (jX (by omega))) z3 (fun j hj=>by have:=r4 j (abr _ (abG _ hj));omega)) g3 (jX (by omega))
    refine⟨aw,bh,ay,aB,Cy,IE ?_,z2.out g3 (fr _ (by omega)),out,fun j hj=>by have:=r4 j hj;omega⟩
    unfold DI
    simp(disch:=first|exact zqz|fail)only[aW,n1,dc,k1,hm,d0,k2,q1,q4,n3,yk,t0,t1,d1,d2,k4,r1,s1,kd6,p1,kw6,u1,v1,w1,kd7,kd8,Ts,kw8,lT (B5 r2.v.d.row.1),lT (akV _ _),kt9,kT9,y1,z1,ao0,g1,kQ,av,au,ai,aj,simprocAttr]
   ·have d2:(bu != IntKind.wrap .i64 (t.tr+1))=true:=by simp[h2]
    rw[if_neg h2]
    obtain⟨H5,w1,w2,w3,w4⟩:=fx (n:=4) (vs:=zR) Mw rfl rfl rfl
    have k5:ar H5 (H.next+1) 0 4=some zR:=w2.ar 4 0 (by simp)
    refine mP.err (IE (?_:_=some (_,H5))) mF w3 (afh _)
    unfold DI
    simp(disch:=first|exact zqz|fail)only[aW,n1,dc,k1,hm,d0,k2,q1,q4,n3,yk,t0,t1,d1,d2,w1,k5,av,au,ai,aj,simprocAttr]
  ·have d1:(t.ph != 1)=true:=by simp[h1]
   rw[if_neg h1]
   obtain⟨H5,w1,w2,w3,w4⟩:=fx (n:=4) (vs:=zR) Mw rfl rfl rfl
   have k5:ar H5 (H.next+1) 0 4=some zR:=w2.ar 4 0 (by simp)
   refine mP.err (IE (?_:_=some (_,H5))) mF w3 (afh _)
   unfold DI
   simp(disch:=first|exact zqz|fail)only[aW,n1,dc,k1,hm,d0,k2,q1,q4,n3,yk,t0,d1,w1,k5,av,au,ai,aj,simprocAttr]
 ·have d0:(oM R task != 0)=true:=by simp[h0]
  rw[if_neg h0]
  obtain⟨H4,w1,w2,w3,w4⟩:=fx (n:=4) (vs:=zR) qS rfl rfl rfl
  have k5:ar H4 (H.next+1) 0 4=some zR:=w2.ar 4 0 (by simp)
  refine mP.err (IE (?_:_=some (_,H4))) gS w3 (afh _)
  unfold DI
  simp(disch:=first|exact zqz|fail)only[aW,n1,dc,k1,hm,d0,w1,k5,av,au,ai,aj,simprocAttr]
theorem aoH {H:Hp}{z:List AV}{el n s:Nat}(k j:IntKind)(hn:n<=1048576)(hl:n*z.length<=16777216):xp z el s (.int k n) (.int j n) H=some (.slice H.next 0 n n true s,al H (List.replicate n z).flatten el 0):=by
 unfold xp
 have hr:rep n z=(List.replicate n z).flatten:=by
  unfold rep
  rfl
 have hlen:(List.replicate n z).flatten.length=n*z.length:=by simp
 simp only
 rw[if_pos ⟨by omega,by omega,by omega⟩,acr,hr,gk (by rw[hlen];omega)]
 rfl
abbrev mT:RT:=⟨0,0,0,[]⟩
noncomputable def bL (ts:List Tk):Rn × Int:=if iY ts=0 then (hZ ⟨ts,0,List.replicate ts.length mT,[]⟩,0) else (qD,iY ts)
theorem Yt {H:Hp}{dx:AV}{xs:List AV}{ts:List Tk}(h:RD H dx xs ts)(hn:ts.length<=1000)(dm:∀ t∈ts,t.after.length<=1000) :
  mP (.func (.func 76) [] []) [dv dx] H (bL ts).1 (bL ts).2:=by
 have gy:=h.row.one
 have aW:bx 72 (.agg [dx]) H=some (H.next,al H [dx] 72 0):=ji (by simp)
 have o1:=aI H [dx] 72 0
 have c1:=bg H [dx] 72 0
 have n1:(al H [dx] 72 0).next=H.next+1:=rfl
 generalize al H [dx] 72 0=H1 at *
 have o2:=aI H1 zR 75 0
 have c2:=bg H1 zR 75 0
 have n2:(al H1 zR 75 0).next=H.next+2:=by rw[bK,n1]
 rw[n1] at c2
 generalize dc:al H1 zR 75 0=H2 at *
 have dQ:=o1.trans o2
 have js:=c1.out o2 (by simp)
 have k1:ar H2 H.next 0 1=some [dx]:=js.ar 1 0 (by simp)
 obtain⟨H3,g1,o3⟩:=Nn (ts:=ts) (by omega) (fun t ht=>by have:=dm t ht;omega) (h.out0 dQ)
 have n3:=o3.nx
 have gS:=dQ.trans o3
 have oa:=js.out o3 (by simp)
 have qS:=c2.out o3 (by simp)
 unfold bL
 by_cases h0:iY ts=0
 ·rw[if_pos h0]
  have hq:1<=ts.length/\ts.length<=16/\uY ts:=by
   have h:=h0
   unfold iY at h
   split at h
   ·cases h
   ·rename_i h1
    split at h
    ·cases h
    ·split at h
     ·cases h
     ·split at h
      ·cases h
      ·split at h
       ·cases h
       ·rename_i h4
        have h1:=ahk.1 h1
        exact⟨h1.1,h1.2,Km (by simpa using h4)⟩
  rw[h0] at g1
  have k2:ar H3 H.next 0 1=some [dx]:=oa.ar 1 0 (by simp)
  have k3:cellAt H3 H.next 0=some dx:=oa.cellAt rfl
  have pY:=h.out0 gS
  have fO:=pY.bq
  have lu:(List.replicate ts.length [(AV.int .i64 0),(.int .i64 0),(.int .i64 0),(.str [])]).flatten=(gq (List.replicate ts.length mT)).flatten:=by
   simp[gq,eC]
  have yT:=aoH (H:=H3) (z:=[(.int .i64 0),(.int .i64 0),(.int .i64 0),(.str [])]) (el:=132) (s:=4) (n:=ts.length) .i64 .i64 (by omega) (by simp;omega)
  rw[lu] at yT
  have o4:=aI H3 (gq (List.replicate ts.length mT)).flatten 132 0
  have cM:=bg H3 (gq (List.replicate ts.length mT)).flatten 132 0
  have n4:(al H3 (gq (List.replicate ts.length mT)).flatten 132 0).next=H3.next+1:=rfl
  generalize al H3 (gq (List.replicate ts.length mT)).flatten 132 0=H4 at *
  have YY:(gq (List.replicate ts.length mT)).flatten.length=ts.length*4:=by rw[xh (Ja _),yP,aeF]
  have yh:RL H4 4 (.slice H3.next 0 ts.length ts.length true 4) (gq (List.replicate ts.length mT)):=⟨.mk cM.ro (by rw[YY]) (aaC _) (by rw[aeD,<-agk,Nat.beq_eq];omega),Ja _⟩
  have hV4:RV H4 dx xs (.slice H3.next 0 ts.length ts.length true 4) .ah ⟨ts,0,List.replicate ts.length mT,[]⟩:=⟨pY.out0 o4,yh,.nil⟩
  have KZ:lL ⟨ts,0,List.replicate ts.length mT,[]⟩:=⟨⟨hn,dm,by rw[aeF];omega,by simp⟩,by simp,fun t ht a ha=>by
   obtain⟨i,hi⟩:=adi ht
   have:=(yF hq.2.2 hi).1 a ha
   exact⟨this.1,by show a<(ts.length:Int);omega⟩⟩
  obtain⟨aw,bh,ay,aB,H5,r1,r2,r3,r4⟩:=yV hV4 KZ.sm
  have n5:=r3.nx
  have r1':cK (.func (.func 97) [] []) [.agg [dx,.int .i64 0,.slice H3.next 0 ts.length ts.length true 4,.ah]] H4=some (.agg (rv aw 0 ay aB),H5):=r1
  have o5:=aI H5 (rv aw 0 ay aB) 75 0
  have cA:=bg H5 (rv aw 0 ay aB) 75 0
  have stA:st 4 (.ptr H5.next 0) (.agg (rv aw 0 ay aB)) (al H5 zR 75 0)=some (al H5 (rv aw 0 ay aB) 75 0):=iI (by simp[r2.v.d.row.one,r2.t.rl.one,r2.s.jG,kK]) rfl rfl (by decide) rfl
  have n6:(al H5 (rv aw 0 ay aB) 75 0).next=H5.next+1:=rfl
  have anv:aE H5 zR 75 0=some (H5.next,al H5 zR 75 0):=gk (by simp)
  generalize hA6:al H5 (rv aw 0 ay aB) 75 0=H6 at *
  have Zr:=r2.v.lt
  obtain⟨H7,s1,s2,s3,s4⟩:=P7 (R:=⟨ts,0,List.replicate ts.length mT,[]⟩) cA (r2.out0 o5) (fun z=>by have:=Zr _ z;omega) KZ.sm KZ.len KZ.jn
  have Uk:∀ j∈H5.next::ak ay,H4.next<=j:=fun j hj=>by
   rcases aaD.1 hj with rfl | hj
   ·exact n5
   ·exact r4 j (abr _ (abG _ hj))
  have hQ7:Cs H7 (H.next+1) zR 75 0:=(((qS.out o4 (by simp)).out r3 (by simp)).out o5 (by simp)).out s4 fun z=>by have:=Uk _ z;omega
  generalize hZ ⟨ts,0,List.replicate ts.length mT,[]⟩=R7 at *
  have kA7:ar H7 H5.next 0 4=some (rv aw R7.st ay aB):=s2.ar 4 0 (by simp)
  obtain⟨H8,w1,w2,w3,w4⟩:=fx (n:=4) (vs:=rv aw R7.st ay aB) hQ7 rfl rfl (by simp[r2.v.d.row.one,r2.t.rl.one,r2.s.jG,kK])
  have kQ:ar H8 (H.next+1) 0 4=some (rv aw R7.st ay aB):=w2.ar 4 0 (by simp)
  have k4:ar H4 H.next 0 1=some [dx]:=(oa.out o4 (by simp)).ar 1 0 (by simp)
  have fl1:fl zR [(0,1,.agg [dx]),(2,1,.slice H3.next 0 ts.length ts.length true 4)]=some [dx,.int .i64 0,.slice H3.next 0 ts.length ts.length true 4,.ah]:=by
   rw[Br (l:=[dx]) (n:=1) rfl (by simp),Ez rfl (by simp),sZ];rfl
  have smd:same (.agg [dx]) (.agg [dx])=true:=by
   show ub _ _=true
   unfold ub
   rw[afN h.row.1];rfl
  have d0:((0:Int) != 0)=false:=rfl
  have out:=gi (gi (((gS.trans o4).trans r3).trans o5) s4 fun j hj=>by have:=Uk j hj;omega) w3 (jX (afh _))
  refine⟨aw,bh,ay,aB,H8,aaW ?_,s3.out w3 (fun j hj=>by rw[No];have:=r4 j hj;omega),out,fun j hj=>by have:=r4 j hj;omega⟩
  unfold KC
  simp(disch:=first|exact zqz|fail)only[aW,n1,dc,k1,g1,d0,k2,k3,fO,yT,fl1,r1',anv,stA,k4,lT smd,s1,kA7,w1,kQ,av,au,ai,aj,simprocAttr]
 ·rw[if_neg h0]
  have d0:(iY ts != 0)=true:=by simp[h0]
  obtain⟨H4,w1,w2,w3,w4⟩:=fx (n:=4) (vs:=zR) qS rfl rfl rfl
  have k5:ar H4 (H.next+1) 0 4=some zR:=w2.ar 4 0 (by simp)
  refine mP.err (aaW (?_:_=some (_,H4))) gS w3 (afh _)
  unfold KC
  simp(disch:=first|exact zqz|fail)only[aW,n1,dc,k1,g1,d0,w1,k5,av,au,ai,aj,simprocAttr]
def p8 (R:Rn)(task bu:Int)(data:aq):Rn × Int:=
 if nb R task bu=0 then (hZ { R with rs:=R.rs.set task.toNat ⟨3,bu,0,data⟩ },0) else (qD,nb R task bu)
theorem lL.set {R:Rn}(h:lL R)(i:Nat)(t:RT):lL { R with rs:=R.rs.set i t }:=⟨⟨h.sm.n,h.sm.a,by rw[ac4];exact h.sm.r,h.sm.s⟩,by rw[ac4];exact h.len,h.jn⟩
theorem aoF {H:Hp}{dx tx sx:AV}{xs:List AV}{R:Rn}(h:RV H dx xs tx sx R)(hk:lL R)(task bu:Int)(data:aq) :
  mP (.func (.func 79) [] []) [.agg (rv dx R.st tx sx),.int .i64 task,.int .i64 bu,.str data] H (p8 R task bu data).1 (p8 R task bu data).2:=by
 have aW:bx 75 (.agg (rv dx R.st tx sx)) H=some (H.next,al H (rv dx R.st tx sx) 75 0):=ji (by simp)
 have o1:=aI H (rv dx R.st tx sx) 75 0
 have c1:=bg H (rv dx R.st tx sx) 75 0
 have n1:(al H (rv dx R.st tx sx) 75 0).next=H.next+1:=rfl
 generalize al H (rv dx R.st tx sx) 75 0=H1 at *
 have o2:=aI H1 zR 75 0
 have c2:=bg H1 zR 75 0
 have n2:(al H1 zR 75 0).next=H.next+2:=by rw[bK,n1]
 rw[n1] at c2
 generalize dc:al H1 zR 75 0=H2 at *
 have dQ:=o1.trans o2
 have js:=c1.out o2 (by simp)
 have k1:ar H2 H.next 0 4=some (rv dx R.st tx sx):=js.ar 4 0 (by simp)
 obtain⟨H3,hm,o3⟩:=TV (h.out0 dQ) task bu
 have n3:=o3.nx
 have gS:=dQ.trans o3
 have oa:=js.out o3 (by simp)
 have qS:=c2.out o3 (by simp)
 unfold p8
 by_cases h0:nb R task bu=0
 ·obtain⟨i,t,rfl,ht,aC,mA,G8⟩:=K3 h0
  have br:=(aah.1 ht).1
  have d0:(nb R (i:Int) bu != 0)=false:=by simp[h0]
  rw[if_pos h0,acr]
  have k3:ar H3 H.next 0 4=some (rv dx R.st tx sx):=oa.ar 4 0 (by simp)
  obtain⟨aw,bh,ay,aB,H4,r1,r2,r3,r4⟩:=yV (h.out0 gS) hk.sm
  have n4:=r3.nx
  have ones:(rv aw R.st ay aB).all aY=true:=by simp[r2.v.d.row.one,r2.t.rl.one,r2.s.jG,kK]
  obtain⟨H5,s1,s2,s3,s4⟩:=fx (n:=4) (vs:=rv aw R.st ay aB) (oa.out r3 (by simp)) rfl rfl ones
  have fr:∀ m,m<H.next+2->∀ j∈me aw bh ay aB,j∉[m]:=fun m hm j hj=>by rw[No];have:=r4 j hj;omega
  have R5:=r2.out s3 (fr _ (by omega))
  have k5:cellAt H5 H.next 2=some ay:=s2.cellAt rfl
  obtain⟨b,o,q1,q2,q3,q4,q5⟩:=R5.v.t.at (by decide) (qK ht)
  obtain⟨H6,z1,z2,z3,z4⟩:=R5.set br q1 ⟨3,bu,0,data⟩
  have ve:∀ m,m<H.next+2->m∉ak ay:=fun m hm z=>by have:=r4 m (abr _ (abG _ z));omega
  have s6:=s2.out z3 (ve _ (by omega))
  have fN:=hk.set i ⟨3,bu,0,data⟩
  obtain⟨H7,t1,t2,t3,t4⟩:=P7 (R:={ R with rs:=R.rs.set i ⟨3,bu,0,data⟩ }) s6 z2 (fun z=>by have:=r4 _ z;omega) fN.sm fN.len fN.jn
  have FD:∀ m,m<H.next+2->m≠H.next->m∉H.next::ak ay:=fun m hm aO z=>(aaD.1 z).elim aO (ve m hm)
  have GL:=(((qS.out r3 (by simp)).out s3 (by rw[No];omega)).out z3 (ve _ (by omega))).out t4 (FD _ (by omega) (by omega))
  generalize hZ { R with rs:=R.rs.set i ⟨3,bu,0,data⟩ }=R7 at *
  have k7:ar H7 H.next 0 4=some (rv aw R7.st ay aB):=t2.ar 4 0 (by simp)
  obtain⟨H8,w1,w2,w3,w4⟩:=fx (n:=4) (vs:=rv aw R7.st ay aB) GL rfl rfl (by simp[r2.v.d.row.one,r2.t.rl.one,r2.s.jG,kK])
  have k8:ar H8 (H.next+1) 0 4=some (rv aw R7.st ay aB):=w2.ar 4 0 (by simp)
  have z1':st 4 (.ptr b o) (.agg [.int .i64 3,.int .i64 bu,.int .i64 0,.str data]) H5=some H6:=z1
  have qM:∀ j∈ak ay,H.next<=j:=fun j hj=>by have:=r4 j (abr _ (abG _ hj));omega
  have out:=gi (gi (gi (gi (gS.trans r3) s3 (jX (aaC _))) z3 qM) t4 (fun j hj=>(aaD.1 hj).elim (fun e=>by omega) (qM j))) w3 (jX (afh _))
  refine⟨aw,bh,ay,aB,H8,TK ?_,t3.out w3 (fr _ (by omega)),out,fun j hj=>by have:=r4 j hj;omega⟩
  unfold J1
  simp(disch:=first|exact zqz|fail)only[aW,n1,dc,k1,hm,d0,k3,r1,s1,k5,q1,z1',t1,k7,w1,k8,av,au,ai,aj,simprocAttr]
 ·have d0:(nb R task bu != 0)=true:=by simp[h0]
  rw[if_neg h0]
  obtain⟨H4,w1,w2,w3,w4⟩:=fx (n:=4) (vs:=zR) qS rfl rfl rfl
  have k5:ar H4 (H.next+1) 0 4=some zR:=w2.ar 4 0 (by simp)
  refine mP.err (TK (?_:_=some (_,H4))) gS w3 (afh _)
  unfold J1
  simp(disch:=first|exact zqz|fail)only[aW,n1,dc,k1,hm,d0,w1,k5,av,au,ai,aj,simprocAttr]
def Be:Nat->Nat->Nat
 | 0,d=>d
 | n+1,d=>if d<64000 then Be n (min (2*d) 64000) else d
def ED (base bu:Nat):Nat:=if base=0\/bu=0 then 0 else Be (bu-1) (min base 64000)
theorem Ba (ty:Array TypeId)(x y:Int)(H:Hp):gp P .min ty [.int .i64 x,.int .i64 y] H=some (.int .i64 (if y<x then y else x),H):=aal rfl (id rfl)
theorem abK:∀ (n d:Nat),d<=64000->Be n d<=64000
 | 0,d,h=>h
 | n+1,d,h=>by
  unfold Be
  split
  ·exact abK n _ (ajs _ _)
  ·exact h
theorem ad6 (b t:Nat):ED b t<=64000:=by
 unfold ED
 split
 ·omega
 ·exact abK _ _ (ajs _ _)
theorem WB {t:Nat}(ht:t<=1000000){H:Hp}(eP:K.Fn 1):∀ (n d k:Nat),k+n=t->d<=64000->ER JN GO cK eP (.int .i64 (t:Nat)) (.int .i64 (d:Nat)) (.int .i64 (k:Nat)) H=eP (.int .i64 (Be n d:Nat)) H
 | 0,d,k,h,hd=>by
  obtain rfl:k=t:=by omega
  rw[Wp]
  simp only[KG,fU,Be,ai,aj,simprocAttr]
 | n+1,d,k,h,hd=>by
  have h1:k<t:=by omega
  have es:=gf h1 (by omega)
  rw[Wp]
  unfold Be
  by_cases h2:d<64000
  ·have d2:decide (((d:Nat):Int)<64000)=true:=decide_eq_true (by omega)
   have sh:By (.int .i64 ((d:Nat):Int)) (.int .u64 1)=some (.int .i64 ((2*d:Nat):Int)):=by
    have:=aen (k := .i64) (j := .u64) (a:=d) (b:=1)
    rw[show (((1:Nat):Int))=1 from rfl] at this
    rw[this,show min 1 IntKind.i64.bits=1 from rfl,Nat.pow_one,Nat.mul_comm,wrap_i64 (by omega) (by omega)]
   have hm:(if (64000:Int)<((2*d:Nat):Int) then (64000:Int) else ((2*d:Nat):Int))=((min (2*d) 64000:Nat):Int):=by
    split<;>omega
   have FM:=Ba #[2,2] ((2*d:Nat):Int) 64000 H
   rw[hm] at FM
   have ih:=WB ht (H:=H) eP n (min (2*d) 64000) (k+1) (by omega) (ajs _ _)
   rw[if_pos h2]
   simp only[KG,bI h1,d2,sh,FM,es,ih,ai,aj,simprocAttr]
  ·have d2:decide (((d:Nat):Int)<64000)=false:=decide_eq_false (by omega)
   rw[if_neg h2]
   simp only[KG,bI h1,d2,ai,aj,simprocAttr]
theorem apT {base t:Nat}(hb:base<=1000000)(ht:t<=1000000)(H:Hp):cK (.func (.func 145) [] []) [.int .i64 (base:Nat),.int .i64 (t:Nat)] H=some (.int .i64 (ED base t:Nat),H):=by
 refine ahp ?_
 unfold Y7 ED
 by_cases h0:base=0
 ·have d0:decide (((base:Nat):Int)<1)=true:=decide_eq_true (by omega)
  rw[if_pos (.inl h0)]
  simp only[d0,ai,aj,simprocAttr]<;>rfl
 ·have d0:decide (((base:Nat):Int)<1)=false:=decide_eq_false (by omega)
  by_cases h1:t=0
  ·have d1:decide (((t:Nat):Int)<1)=true:=decide_eq_true (by omega)
   rw[if_pos (.inr h1)]
   simp only[d0,d1,ai,aj,simprocAttr]<;>rfl
  ·have d1:decide (((t:Nat):Int)<1)=false:=decide_eq_false (by omega)
   rw[if_neg (fun q=>q.elim h0 h1)]
   have hm:(if (64000:Int)<((base:Nat):Int) then (64000:Int) else ((base:Nat):Int))=((min base 64000:Nat):Int):=by
    split<;>omega
   have FM:=Ba #[2,2] ((base:Nat):Int) 64000 H
   rw[hm] at FM
   have ih:=fun eP=>WB ht (H:=H) eP (t-1) (min base 64000) 1 (by omega) (ajs _ _)
   rw[show (((1:Nat):Int))=1 from rfl] at ih
   simp only[d0,d1,FM,ih,ai,aj,simprocAttr]
def dM (base tr:Int):Int:=(ED base.toNat tr.toNat:Nat)
def lY (R:Rn)(i:Nat)(t:RT)(d:Tk)(now:Int):Rn:=
 if t.tr<=d.retry then { R with rs:=R.rs.set i { t with ph:=5,kN:=fA (now+dM d.base t.tr) } } else { R with rs:=R.rs.set i { t with ph:=4,kN:=0 },st:=2 }
theorem RO.bP {H H':Hp}{dx tx sx:AV}{xs:List AV}{R:Rn}{l:List RT}(h:RO H dx xs tx sx R)(hO:OL H' 132 4 tx (gq l))(k:Out (ak tx) H H'):RO H' dx xs tx sx { R with rs:=l }:=
 ⟨⟨h.v.d.out k fun j hj z=>(h.dt j z).1 hj,hO.rl,h.v.s.out k fun j hj z=>(h.dt j z).2 hj⟩,hO,h.s.out k fun j hj z=>(h.dt j z).2 hj,h.dt,h.ds⟩
theorem UL {H:Hp}{p i:Nat}{dx tx sx:AV}{xs:List AV}{R:Rn}{t:RT}{d:Tk}(hC:Cs H p (rv dx R.st tx sx) 75 0)(hO:RO H dx xs tx sx R)(hp:p∉me dx xs tx sx)(ht:R.rs[i]? = some t)(hd:R.ts[i]? = some d)(mZ:0<=d.base)(hb:d.base<=1000000)(ht0:0<=t.tr)(ht1:t.tr<=1000000)(now:Int) :
  ∃ H',cK (.func (.func 107) [] []) [.ptr p 0,.int .i64 (i:Nat),.int .i64 now] H=some (.tuple [],H')/\Cs H' p (rv dx (lY R i t d now).st tx sx) 75 0/\RO H' dx xs tx sx (lY R i t d now)/\Out (p::ak tx) H H':=by
 have wU:p∉ak tx:=fun z=>hp (abr _ (abG _ z))
 obtain⟨x,b2,JP,p1,p2,p3,p4,p5,p6⟩:=hO.v.d.Xt hd
 have aC:=yS d x p4 H
 have o1:=aI H (aL d x) 99 0
 have cT:=bg H (aL d x) 99 0
 have c2:cellAt H p 2=some tx:=hC.cellAt rfl
 have c0:cellAt H p 0=some dx:=hC.cellAt rfl
 obtain⟨b,o,q1,q2,q3,q4,q5⟩:=(hO.v.t.out0 o1).at (by decide) (qK ht)
 have r1:cellAt (al H (aL d x) 99 0) b (o+1)=some (.int .i64 t.tr):=q5 1 _ (ym t).2.1
 have m2:cellAt (al H (aL d x) 99 0) H.next 2=some (.int .i64 d.retry):=cT.cellAt (uC d x).2.2.1
 have m4:cellAt (al H (aL d x) 99 0) H.next 4=some (.int .i64 d.base):=cT.cellAt (uC d x).2.2.2.2.1
 have zj:=hO.out0 o1
 have Ff:=hC.out o1 (by simp)
 have br:=(aah.1 ht).1
 have BD:cK (.func (.func 145) [] []) [.int .i64 d.base,.int .i64 t.tr] (al H (aL d x) 99 0)=some (.int .i64 (dM d.base t.tr),al H (aL d x) 99 0):=by
  have:=apT (base:=d.base.toNat) (t:=t.tr.toNat) (by omega) (by omega) (al H (aL d x) 99 0)
  rw[show ((d.base.toNat:Nat):Int)=d.base by omega,show ((t.tr.toNat:Nat):Int)=t.tr by omega] at this
  exact this
 generalize hA:al H (aL d x) 99 0=H1 at *
 have two:∀ (a c:Int),∃ H3 H2,st 1 (.ptr b o) (.int .i64 a) H1=some H2/\st 1 (.ptr b (o+2)) (.int .i64 c) H2=some H3/\OL H3 132 4 tx (gq (R.rs.set i { t with ph:=a,kN:=c }))/\Out (ak tx) H1 H3:=by
  intro a c
  obtain⟨H2,w1,w2,w3,w4⟩:=zj.t.fG (k:=0) (v := .int .i64 a) (qK ht) q1 rfl (by decide)
  have e2:((gq R.rs).set i ((eC t).set 0 (.int .i64 a)))[i]? = some ((eC t).set 0 (.int .i64 a)):=afy (by rw[yP];exact br)
  obtain⟨H3,v1,v2,v3,v4⟩:=w2.fG (k:=2) (v := .int .i64 c) e2 q1 rfl (by decide)
  rw[List.set_set] at v2
  have fh:((eC t).set 0 (.int .i64 a)).set 2 (.int .i64 c)=eC { t with ph:=a,kN:=c }:=rfl
  rw[fh,JR] at v2
  rw[aej] at w1
  exact⟨H3,H2,w1,v1,v2,w3.trans v3⟩
 unfold lY
 by_cases hle:t.tr<=d.retry
 ·have dl:decide (t.tr<=d.retry)=true:=decide_eq_true hle
  obtain⟨H3,H2,v1,v2,v3,v4⟩:=two 5 (fA (now+dM d.base t.tr))
  rw[if_pos hle]
  refine⟨H3,V0 ?_,Ff.out v4 wU,zj.bP v3 v4,(o1.mono fun j hj=>by cases hj).trans (v4.mono fun j hj => .tail _ hj)⟩
  unfold LH
  simp(disch:=first|exact zqz|fail)only[c2,c0,q1,p1,p5,aC,hA,r1,m2,m4,dl,BD,v1,v2,av,au,ai,aj,simprocAttr]
 ·have dl:decide (t.tr<=d.retry)=false:=decide_eq_false hle
  obtain⟨H3,H2,v1,v2,v3,v4⟩:=two 4 0
  rw[if_neg hle]
  obtain⟨H4,w1,w2,w3,w4⟩:=fG (Ff.out v4 wU) (by decide) (o:=1) (by simp) (v := .int .i64 2) rfl
  have fh:(rv dx R.st tx sx).set 1 (.int .i64 2)=rv dx 2 tx sx:=rfl
  rw[fh] at w2
  have kE:=(zj.bP v3 v4).out w3 fun j hj=>by rw[No];intro e;subst e;exact hp hj
  refine⟨H4,V0 ?_,w2,⟨⟨kE.v.d,kE.v.t,kE.v.s⟩,kE.t,kE.s,kE.dt,kE.ds⟩,((o1.mono fun j hj=>by cases hj).trans (v4.mono fun j hj => .tail _ hj)).trans (w3.mono fun j hj=>by rw[No] at hj;subst hj;exact .head _)⟩
  unfold LH
  simp(disch:=first|exact zqz|fail)only[c2,c0,q1,p1,p5,aC,hA,r1,m2,m4,dl,v1,v2,w1,av,au,ai,aj,simprocAttr]
structure ua (R:Rn):Prop where
 d:∀ t∈R.ts,0<=t.base/\t.base<=1000000
 t:∀ t∈R.rs,0<=t.tr/\t.tr<=1000000
def vG (R:Rn)(task bu now:Int):Rn × Int:=
 if nb R task bu=0 then (match R.rs[task.toNat]?,R.ts[task.toNat]? with
  | some t,some d=>(lY R task.toNat t d now,0)
  | _,_=>(qD,0)) else (qD,nb R task bu)
theorem anV {H:Hp}{dx tx sx:AV}{xs:List AV}{R:Rn}(h:RV H dx xs tx sx R)(hk:lL R)(hb:ua R)(task bu now:Int) :
  mP (.func (.func 80) [] []) [.agg (rv dx R.st tx sx),.int .i64 task,.int .i64 bu,.int .i64 now] H (vG R task bu now).1 (vG R task bu now).2:=by
 have aW:bx 75 (.agg (rv dx R.st tx sx)) H=some (H.next,al H (rv dx R.st tx sx) 75 0):=ji (by simp)
 have o1:=aI H (rv dx R.st tx sx) 75 0
 have c1:=bg H (rv dx R.st tx sx) 75 0
 have n1:(al H (rv dx R.st tx sx) 75 0).next=H.next+1:=rfl
 generalize al H (rv dx R.st tx sx) 75 0=H1 at *
 have o2:=aI H1 zR 75 0
 have c2:=bg H1 zR 75 0
 have n2:(al H1 zR 75 0).next=H.next+2:=by rw[bK,n1]
 rw[n1] at c2
 generalize dc:al H1 zR 75 0=H2 at *
 have dQ:=o1.trans o2
 have js:=c1.out o2 (by simp)
 have k1:ar H2 H.next 0 4=some (rv dx R.st tx sx):=js.ar 4 0 (by simp)
 obtain⟨H3,hm,o3⟩:=TV (h.out0 dQ) task bu
 have n3:=o3.nx
 have gS:=dQ.trans o3
 have oa:=js.out o3 (by simp)
 have qS:=c2.out o3 (by simp)
 unfold vG
 by_cases h0:nb R task bu=0
 ·obtain⟨i,t,rfl,ht,aC,mA,G8⟩:=K3 h0
  have br:=(aah.1 ht).1
  have hd:R.ts[i]? = some (R.ts[i]'(by rw[<-hk.len];exact br)):=aai _
  have d0:(nb R (i:Int) bu != 0)=false:=by simp[h0]
  rw[if_pos h0,acr,ht,hd]
  simp only
  generalize R.ts[i]'(by rw[<-hk.len];exact br)=d at *
  have k3:ar H3 H.next 0 4=some (rv dx R.st tx sx):=oa.ar 4 0 (by simp)
  obtain⟨aw,bh,ay,aB,H4,r1,r2,r3,r4⟩:=yV (h.out0 gS) hk.sm
  have n4:=r3.nx
  have ones:∀ z:Int,(rv aw z ay aB).all aY=true:=fun z=>by simp[r2.v.d.row.one,r2.t.rl.one,r2.s.jG,kK]
  obtain⟨H5,s1,s2,s3,s4⟩:=fx (n:=4) (vs:=rv aw R.st ay aB) (oa.out r3 (by simp)) rfl rfl (ones _)
  have fr:∀ m,m<H.next+2->∀ j∈me aw bh ay aB,j∉[m]:=fun m hm j hj=>by rw[No];have:=r4 j hj;omega
  have R5:=r2.out s3 (fr _ (by omega))
  have ve:∀ m,m<H.next+2->m∉ak ay:=fun m hm z=>by have:=r4 m (abr _ (abG _ z));omega
  have b1:=hb.d d (aao hd)
  have b2:=hb.t t (aao ht)
  obtain⟨H7,t1,t2,t3,t4⟩:=UL s2 R5 (fun z=>by have:=r4 _ z;omega) ht hd b1.1 b1.2 b2.1 b2.2 now
  have FD:∀ m,m<H.next+2->m≠H.next->m∉H.next::ak ay:=fun m hm aO z=>(aaD.1 z).elim aO (ve m hm)
  have GL:=((qS.out r3 (by simp)).out s3 (by rw[No];omega)).out t4 (FD _ (by omega) (by omega))
  generalize lY R i t d now=R7 at *
  have k7:ar H7 H.next 0 4=some (rv aw R7.st ay aB):=t2.ar 4 0 (by simp)
  obtain⟨H8,w1,w2,w3,w4⟩:=fx (n:=4) (vs:=rv aw R7.st ay aB) GL rfl rfl (ones _)
  have k8:ar H8 (H.next+1) 0 4=some (rv aw R7.st ay aB):=w2.ar 4 0 (by simp)
  have qM:∀ j∈ak ay,H.next<=j:=fun j hj=>by have:=r4 j (abr _ (abG _ hj));omega
  have out:=gi (gi (gi (gS.trans r3) s3 (jX (aaC _))) t4 (fun j hj=>(aaD.1 hj).elim (fun e=>by omega) (qM j))) w3 (jX (afh _))
  refine⟨aw,bh,ay,aB,H8,YC ?_,t3.out w3 (fr _ (by omega)),out,fun j hj=>by have:=r4 j hj;omega⟩
  unfold Nr
  simp(disch:=first|exact zqz|fail)only[aW,n1,dc,k1,hm,d0,k3,r1,s1,t1,k7,w1,k8,av,au,ai,aj,simprocAttr]
 ·have d0:(nb R task bu != 0)=true:=by simp[h0]
  rw[if_neg h0]
  obtain⟨H4,w1,w2,w3,w4⟩:=fx (n:=4) (vs:=zR) qS rfl rfl rfl
  have k5:ar H4 (H.next+1) 0 4=some zR:=w2.ar 4 0 (by simp)
  refine mP.err (YC (?_:_=some (_,H4))) gS w3 (afh _)
  unfold Nr
  simp(disch:=first|exact zqz|fail)only[aW,n1,dc,k1,hm,d0,w1,k5,av,au,ai,aj,simprocAttr]
theorem ao3 {H:Hp}{g:Nat}{name:aq}(hg:cellAt H g 0=some (.str name))(xc:g<H.next)(t:Tk)(x:AV) :
  ∃ H',cK (.func (.func 110) [] [.ptr g 0]) [.agg (aL t x)] H=some (.bool ((t.on==name)&&!(name==[])),H')/\Out [] H H':=by
 have b1:=wA t x H
 have o1:=aI H (aL t x) 99 0
 have c1:=bg H (aL t x) 99 0
 have uP:cellAt (al H (aL t x) 99 0) g 0=some (.str name):=by rw[tQ xc];exact hg
 have k5:=c1.cellAt (uC t x).2.2.2.2.2
 generalize hA:al H (aL t x) 99 0=H1 at *
 refine⟨H1,amG ?_,o1⟩
 unfold Uu
 cases h1:(t.on==name) with
 | false=>simp(disch:=first|exact zqz|fail)only[b1,hA,uP,k5,h1,aeL,av,au,ai,aj,simprocAttr]
 | true=>
  cases h2:(name==[]) with
  | false=>simp(disch:=first|exact zqz|fail)only[b1,hA,uP,k5,h1,h2,aeD,av,au,ai,aj,simprocAttr]
  | true=>simp(disch:=first|exact zqz|fail)only[b1,hA,uP,k5,h1,h2,aeD,av,au,ai,aj,simprocAttr]
def Lk (name:aq)(c:List AV):Bool:=match c[5]? with | some (AV.str s)=>(s==name)&&!(name==[]) | _=>false
def Fe (ts:List Tk)(name:aq):Bool:=ts.any fun t=>(t.on==name)&&!(name==[])
def rE (R:Rn)(name:aq):Rn × Int:=
 if R.st≠0 then (qD,9) else if R.sg.any (fun s=>name==s) then (qD,5) else if Fe R.ts name then (hZ { R with sg:=R.sg++[name] },0) else (qD,1)
theorem amo {ts:List Tk}{name:aq}:∀ {xs:List AV},xs.length=ts.length->(List.zipWith aL ts xs).any (Lk name)=Fe ts name:=by
 induction ts with
 | nil=>intro xs _;rfl
 | cons t ts ih=>
  intro xs h
  cases xs with
  | nil=>simp at h
  | cons x xs=>
   simp only[aaL,Nat.add_right_cancel_iff] at h
   show (Lk name (aL t x)||(List.zipWith aL ts xs).any (Lk name))=_
   rw[ih h]
   rfl
theorem ac9 {H:Hp}{dx tx sx:AV}{xs:List AV}{R:Rn}(h:RV H dx xs tx sx R)(hk:lL R)(xa:R.sg.length<=900)(name:aq) :
  mP (.func (.func 81) [] []) [.agg (rv dx R.st tx sx),.str name] H (rE R name).1 (rE R name).2:=by
 have aW:bx 75 (.agg (rv dx R.st tx sx)) H=some (H.next,al H (rv dx R.st tx sx) 75 0):=ji (by simp)
 have o1:=aI H (rv dx R.st tx sx) 75 0
 have c1:=bg H (rv dx R.st tx sx) 75 0
 have n1:(al H (rv dx R.st tx sx) 75 0).next=H.next+1:=rfl
 generalize di:al H (rv dx R.st tx sx) 75 0=H1 at *
 have oS:=aI H1 [.str name] 9 0
 have cS:=bg H1 [.str name] 9 0
 have nS:(al H1 [.str name] 9 0).next=H.next+2:=by rw[bK,n1]
 rw[n1] at cS
 generalize hAS:al H1 [.str name] 9 0=HS at *
 have o2:=aI HS zR 75 0
 have c2:=bg HS zR 75 0
 have n2:(al HS zR 75 0).next=H.next+3:=by rw[bK,nS]
 rw[nS] at c2
 generalize dc:al HS zR 75 0=H2 at *
 have dQ:=(o1.trans oS).trans o2
 have js:=(c1.out oS (by simp)).out o2 (by simp)
 have Xy:=cS.out o2 (by simp)
 have k0:cellAt H2 H.next 0=some dx:=js.cellAt rfl
 have k1:cellAt H2 H.next 1=some (.int .i64 R.st):=js.cellAt rfl
 have k3:cellAt H2 H.next 3=some sx:=js.cellAt rfl
 have kS:cellAt H2 (H.next+1) 0=some (.str name):=Xy.cellAt rfl
 unfold rE
 by_cases h0:R.st≠0
 ·have d0:(R.st != 0)=true:=by simp[h0]
  rw[if_pos h0]
  have k5:ar H2 (H.next+2) 0 4=some zR:=c2.ar 4 0 (by simp)
  refine mP.err (m:=H.next+2) (Ly (?_:_=some (_,H2))) dQ ((Out.refl [] H2).mono fun j hj=>by cases hj) (by omega)
  unfold CO
  simp(disch:=first|exact zqz|fail)only[aW,di,n1,hAS,nS,dc,k1,d0,k5,av,au,ai,aj,simprocAttr]
 have d0:(R.st != 0)=false:=by simpa using h0
 rw[if_neg h0]
 have nW:=XS (h.s.out0 dQ) (by omega) name
 cases h5:R.sg.any (fun s=>name==s) with
 | true=>
  rw[h5] at nW
  rw[if_pos rfl]
  obtain⟨H4,w1,w2,w3,w4⟩:=fx (n:=4) (vs:=zR) c2 rfl rfl rfl
  have k5:ar H4 (H.next+2) 0 4=some zR:=w2.ar 4 0 (by simp)
  refine mP.err (Ly (?_:_=some (_,H4))) dQ w3 (by omega)
  unfold CO
  simp(disch:=first|exact zqz|fail)only[aW,di,n1,hAS,nS,dc,k1,d0,k3,kS,nW,w1,k5,av,au,ai,aj,simprocAttr]
 | false=>
  rw[h5] at nW
  rw[if_neg (by simp)]
  have yw:(List.zipWith aL R.ts xs).length<=1000:=by rw[agd];exact af2 (Nat.min_le_left _ _) hk.sm.n
  obtain⟨H3,f1,f2⟩:=aln (fv := .func (.func 110) [] [.ptr (H.next+1) 0]) (p:=Lk name) (h.d.row.out0 dQ) (by omega) (fun H' k a ha=>by
   obtain⟨i,hi⟩:=adi ha
   rw[adT] at hi
   cases ht:R.ts[i]? with
   | none=>rw[ht] at hi;simp at hi
   | some t=>
    cases hx:xs[i]? with
    | none=>rw[ht,hx] at hi;simp at hi
    | some x=>
     rw[ht,hx] at hi
     simp only[acV] at hi
     subst hi
     have pB:=k.nx
     exact ao3 (g:=H.next+1) (by rw[k.cellAt (by omega) (by simp)];exact kS) (by omega) t x)
  rw[amo h.d.len] at f1
  have gS:=dQ.trans f2
  have n3:=f2.nx
  have oa:=js.out f2 (by simp)
  have cS3:=Xy.out f2 (by simp)
  have qS:=c2.out f2 (by simp)
  cases h6:Fe R.ts name with
  | false=>
   rw[h6] at f1
   rw[if_neg (by simp)]
   obtain⟨H4,w1,w2,w3,w4⟩:=fx (n:=4) (vs:=zR) qS rfl rfl rfl
   have k5:ar H4 (H.next+2) 0 4=some zR:=w2.ar 4 0 (by simp)
   refine mP.err (Ly (?_:_=some (_,H4))) gS w3 (by omega)
   unfold CO
   simp(disch:=first|exact zqz|fail)only[aW,di,n1,hAS,nS,dc,k1,d0,k3,kS,nW,k0,f1,w1,k5,av,au,ai,aj,simprocAttr]
  | true=>
   rw[h6] at f1
   rw[if_pos rfl]
   have k4:ar H3 H.next 0 4=some (rv dx R.st tx sx):=oa.ar 4 0 (by simp)
   obtain⟨aw,bh,ay,aB,H4,r1,r2,r3,r4⟩:=yV (h.out0 gS) hk.sm
   have n4:=r3.nx
   have ones:∀ z:Int,∀ s:AV,aY s=true->(rv aw z ay s).all aY=true:=fun z s hs=>by simp[r2.v.d.row.one,r2.t.rl.one,hs,kK]
   obtain⟨H5,s1,s2,s3,s4⟩:=fx (n:=4) (vs:=rv aw R.st ay aB) (oa.out r3 (by simp)) rfl rfl (ones _ _ r2.s.jG)
   have fr:∀ m,m<H.next+3->∀ j∈me aw bh ay aB,j∉[m]:=fun m hm j hj=>by rw[No];have:=r4 j hj;omega
   have R5:=r2.out s3 (fr _ (by omega))
   have Sl:cellAt H5 H.next 3=some aB:=s2.cellAt rfl
   have kS5:cellAt H5 (H.next+1) 0=some (.str name):=((cS3.out r3 (by simp)).out s3 (by rw[No];omega)).cellAt rfl
   have Zr:=R5.v.lt
   have n5:=s3.nx
   have nsx:∀ m,m<H.next+3->m∉ak aB:=fun m hm z=>by have:=r4 m (abr _ (abr _ z));omega
   obtain⟨wB,H6,p1,p2,p3,p4,p5⟩:=uE (fH:=9) (z:=[(.str [])]) (vs:=[.str name]) R5.s rfl rfl (by decide) (by rw[iZ];simp;omega)
   have pX:strs R.sg++[.str name]=strs (R.sg++[name]):=by simp[strs]
   rw[pX] at p2
   have iQ:=p1 _ rfl
   have n6:=p3.nx
   have s6:=s2.out p3 (nsx _ (by omega))
   obtain⟨H7,v1,v2,v3,v4⟩:=Am.K.fG s6 (by decide) (o:=3) (by simp) (v:=wB) p5
   have fh:(rv aw R.st ay aB).set 3 wB=rv aw R.st ay wB:=rfl
   rw[fh] at v2
   have n7:=v3.nx
   have qd:∀ j∈ak wB,j∈ak aB\/H5.next<=j:=p4
   have Ca:∀ j∈me aw bh ay wB,H.next+3<=j:=fun j hj=>by
    rcases abL.1 hj with hj | hj
    ·have:=r4 j (abG _ hj);omega
    ·rcases abL.1 hj with hj | hj
     ·have:=r4 j (abr _ (abG _ hj));omega
     ·rcases qd j hj with z | z
      ·have:=r4 j (abr _ (abr _ z));omega
      ·omega
   have Gp:∀ j,H.next+3<=j->j∉[H.next]:=fun j hj=>by rw[No];omega
   have RO7:RO H7 aw bh ay wB { R with sg:=R.sg++[name] }:=by
    have DE:=(R5.v.d.out p3 fun j hj z=>R5.ds j z hj).out v3 fun j hj=>Gp j (Ca j (abG _ hj))
    have XE:=(R5.t.out p3 fun j hj z=>(R5.dt j hj).2 z).out v3 fun j hj=>Gp j (Ca j (abr _ (abG _ hj)))
    have Tj:=p2.out v3 fun j hj=>Gp j (Ca j (abr _ (abr _ hj)))
    refine⟨⟨DE,XE.rl,Tj.rw⟩,XE,Tj,fun j hj=>⟨(R5.dt j hj).1,fun z => ?_⟩,fun j hj z => ?_⟩
    ·rcases qd j z with y | y
     ·exact (R5.dt j hj).2 y
     ·have:=R5.t.rl.1.lt j hj;omega
    ·rcases qd j hj with y | y
     ·exact R5.ds j y z
     ·have:=R5.v.d.lt j z;omega
   have fN:lL { R with sg:=R.sg++[name] }:=⟨⟨hk.sm.n,hk.sm.a,hk.sm.r,by show (R.sg++[name]).length<=1000;rw[aaX];simp;omega⟩,hk.len,hk.jn⟩
   obtain⟨H8,t1,t2,t3,t4⟩:=P7 (R:={ R with sg:=R.sg++[name] }) v2 RO7 (fun z=>by have:=Ca _ z;omega) fN.sm fN.len fN.jn
   have Im:∀ j∈ak ay,H.next+3<=j:=fun j hj=>by have:=r4 j (abr _ (abG _ hj));omega
   have cQ8:=((((qS.out r3 (by simp)).out s3 (by rw[No];omega)).out p3 (nsx _ (by omega))).out v3 (by rw[No];omega)).out t4 fun z=>(aaD.1 z).elim (fun e=>by omega) fun z=>by have:=Im _ z;omega
   generalize hZ { R with sg:=R.sg++[name] }=R8 at *
   have k8:ar H8 H.next 0 4=some (rv aw R8.st ay wB):=t2.ar 4 0 (by simp)
   obtain⟨H9,w1,w2,w3,w4⟩:=fx (n:=4) (vs:=rv aw R8.st ay wB) cQ8 rfl rfl (ones _ _ p5)
   have k9:ar H9 (H.next+2) 0 4=some (rv aw R8.st ay wB):=w2.ar 4 0 (by simp)
   have out:=gi (gi (gi (gi (gi (gS.trans r3) s3 (jX (aaC _))) p3 (fun j hj=>by have:=r4 j (abr _ (abr _ hj));omega)) v3 (jX (aaC _))) t4 (fun j hj=>(aaD.1 hj).elim (fun e=>by omega) fun z=>by have:=Im _ z;omega)) w3 (jX (by omega))
   refine⟨aw,bh,ay,wB,H9,Ly ?_,t3.out w3 (fun j hj=>by rw[No];have:=Ca j hj;omega),out,fun j hj=>by have:=Ca j hj;omega⟩
   unfold CO
   simp(disch:=first|exact zqz|fail)only[aW,di,n1,hAS,nS,dc,k1,d0,k3,kS,nW,k0,f1,k4,r1,s1,Sl,kS5,iQ,v1,t1,k8,w1,k9,av,au,ai,aj,simprocAttr]
def wS (H:Hp)(i:Nat)(s:List Nat)(pos:Nat):Prop:=i<H.next/\H.h.get i=some (.rL s pos)
def BT (H:Hp)(s:List Nat):Hp:=⟨H.h.put 34 H.next (.rL s 0),H.next+1⟩
theorem aaZ {t:TypeId}(hu:P.underlying t=some .string)(s:List Nat)(H:Hp):xy P t (.str s) H=some (.ptr H.next 0,BT H s):=by
 unfold xy
 rw[hu];rfl
theorem abV (H:Hp)(s:List Nat):wS (BT H s) H.next s 0:=⟨ahw _,by show (Tr.put 34 H.h H.next _).get H.next=_;rw[Tr.put,Tr.fj,if_pos rfl]⟩
theorem TF (H:Hp)(s:List Nat):Out [] H (BT H s):=⟨afh _,fun j hj _=>by show (Tr.put 34 H.h H.next _).get j=_;rw[Tr.put,Tr.fj,if_neg (by omega)]⟩
theorem wS.out {H H':Hp}{i pos:Nat}{s:List Nat}{S:List Nat}(h:wS H i s pos)(k:Out S H H')(hi:i∉S):wS H' i s pos:=⟨adm h.1 k.1,by rw[k.2 i h.1 hi];exact h.2⟩
theorem aac {H:Hp}{i pos b:Nat}{s:List Nat}(h:wS H i s pos)(hb:s[pos]? = some b)(h7:b<128) :
  ∃ H',u6 (.ptr i 0) true H=some (.tuple [.bool true,.int .i64 (pos:Nat),.int .i32 (b:Nat)],H')/\wS H' i s (pos+1)/\Out [i] H H'/\H'.next=H.next:=by
 have hl:=(aah.1 hb).1
 have hd:s.drop pos=b::s.drop (pos+1):=by
  rw[ah7 hl]
  rw[aai hl] at hb
  cases hb;rfl
 refine⟨Am.setObj H i (.rL s (pos+1)),?_,⟨h.1,by rw[JL,if_pos rfl]⟩,⟨aaC _,fun j _ hn=>by rw[JL,if_neg (by simpa using hn)]⟩,rfl⟩
 have h8:Nat.blt b 128=true:=by rw[adE];exact h7
 unfold u6
 simp only[h.2,hd,h8,cond_true]
theorem XN {H:Hp}{i pos:Nat}{s:List Nat}(h:wS H i s pos)(hp:s.length<=pos):u6 (.ptr i 0) true H=some (.tuple [.bool false],H):=by
 have hd:s.drop pos=[]:=List.drop_eq_nil_of_le hp
 unfold u6
 simp only[h.2,hd]
structure Ev where
 kd:Int
 rn:Int
 tk:Int
 ty:Int
 n:Int
 nm:aq
 ky:aq
 dt:aq
def aG (e:Ev):List AV:=[.int .i64 e.kd,.int .i64 e.rn,.int .i64 e.tk,.int .i64 e.ty,.int .i64 e.n,.str e.nm,.str e.ky,.str e.dt]
def fieldsM (k:Int):aq:=
 if k=1 then [77,68] else if k=2 then [82,77,75] else if k=3\/k=5 then [82,84,89] else if k=4 then [82,84,89,68] else if k=6\/k=9 then [78] else if k=7 then [82,77] else if k=8 then [82] else []
def vU (n a b:Int):Bool:=decide (a<=n)&&decide (n<=b)
noncomputable def mw (e:Ev)(c:Nat):Bool:=
 if c=82 then vU e.rn 1 64 else if c=84 then vU e.tk 0 15 else if c=89 then vU e.ty 1 9 else if c=78 then vU e.n 1 (if e.kd=9 then 1048575 else 1099511627776)
 else if c=77 then tX e.nm else if c=75 then decide (e.ky.length<=16) else if e.kd=1 then decide (e.dt.length<=900) else decide (e.dt.length<=64)
def Ga (e x:Ev)(c:Nat):Ev:=
 if c=82 then { x with rn:=e.rn } else if c=84 then { x with tk:=e.tk } else if c=89 then { x with ty:=e.ty } else if c=78 then { x with n:=e.n }
 else if c=77 then { x with nm:=e.nm } else if c=75 then { x with ky:=e.ky } else if c=68 then { x with dt:=e.dt } else x
def xO (k:Int):Ev:=⟨k,0,0,0,0,[],[],[]⟩
def xH (e:Ev)(l:aq):Ev:=l.foldl (Ga e) (xO e.kd)
def Bo (a b:Ev):Bool:=(a.kd==b.kd)&&((a.rn==b.rn)&&((a.tk==b.tk)&&((a.ty==b.ty)&&((a.n==b.n)&&((a.nm==b.nm)&&((a.ky==b.ky)&&(a.dt==b.dt)))))))
noncomputable def wm (e:Ev):Bool := !(fieldsM e.kd==[])&&(Bo (xH e (fieldsM e.kd)) e&&(fieldsM e.kd).all (mw e))
theorem mD (e:Ev):(aG e).length=8:=rfl
theorem YP (e:Ev):(aG e)[0]? = some (.int .i64 e.kd)/\(aG e)[1]? = some (.int .i64 e.rn)/\(aG e)[2]? = some (.int .i64 e.tk)/\(aG e)[3]? = some (.int .i64 e.ty)/\(aG e)[4]? = some (.int .i64 e.n)/\(aG e)[5]? = some (.str e.nm)/\(aG e)[6]? = some (.str e.ky)/\(aG e)[7]? = some (.str e.dt):=⟨rfl,rfl,rfl,rfl,rfl,rfl,rfl,rfl⟩
theorem Sa (k:Int)(H:Hp):cK (.func (.func 48) [] []) [.int .i64 k] H=some (.str (fieldsM k),H):=by
 refine ani ?_
 unfold UM fieldsM
 by_cases h1:k=1
 ·subst h1;simp only[ai,aj,simprocAttr,↓reduceIte]
 have b1:(k==1)=false:=by simp[h1]
 by_cases h2:k=2
 ·subst h2;simp only[b1,ai,aj,simprocAttr]<;>rfl
 have b2:(k==2)=false:=by simp[h2]
 by_cases h3:k=3
 ·subst h3;simp only[b1,b2,ai,aj,simprocAttr]<;>rfl
 have b3:(k==3)=false:=by simp[h3]
 by_cases h5:k=5
 ·subst h5;simp only[b1,b2,b3,ai,aj,simprocAttr]<;>rfl
 have b5:(k==5)=false:=by simp[h5]
 by_cases h4:k=4
 ·subst h4;simp only[b1,b2,b3,b5,ai,aj,simprocAttr]<;>rfl
 have b4:(k==4)=false:=by simp[h4]
 by_cases h6:k=6
 ·subst h6;simp only[b1,b2,b3,b5,b4,ai,aj,simprocAttr]<;>rfl
 have b6:(k==6)=false:=by simp[h6]
 by_cases h9:k=9
 ·subst h9;simp only[b1,b2,b3,b5,b4,b6,ai,aj,simprocAttr]<;>rfl
 have b9:(k==9)=false:=by simp[h9]
 by_cases h7:k=7
 ·subst h7;simp only[b1,b2,b3,b5,b4,b6,b9,ai,aj,simprocAttr]<;>rfl
 have b7:(k==7)=false:=by simp[h7]
 by_cases h8:k=8
 ·subst h8;simp only[b1,b2,b3,b5,b4,b6,b9,b7,ai,aj,simprocAttr]<;>rfl
 have b8:(k==8)=false:=by simp[h8]
 simp only[b1,b2,b3,b5,b4,b6,b9,b7,b8,h1,h2,h3,h4,h5,h6,h7,h8,h9,or_self,↓reduceIte,ai,aj,simprocAttr]
theorem Qj (n a b:Int)(H:Hp):cK (.func (.func 87) [] []) [.int .i64 n,.int .i64 a,.int .i64 b] H=some (.bool (vU n a b),H):=by
 refine agX ?_
 unfold WZ vU
 by_cases h1:a<=n
 ·simp(disch:=first|exact zqz|fail)only[h1,aeD,av,au,ai,aj,simprocAttr]
 ·simp(disch:=first|exact zqz|fail)only[h1,aeL,av,au,ai,aj,simprocAttr]
theorem alm (e:Ev)(c:Nat)(H:Hp):∃ H',cK (.func (.func 52) [] []) [.agg (aG e),.int .i32 (c:Nat)] H=some (.bool (mw e c),H')/\Out [] H H':=by
 have aW:bx 26 (.agg (aG e)) H=some (H.next,al H (aG e) 26 0):=ji (by rw[mD];omega)
 have o1:=aI H (aG e) 26 0
 have c1:=bg H (aG e) 26 0
 generalize al H (aG e) 26 0=H1 at *
 obtain⟨e0,e1,e2,e3,e4,e5,e6,e7⟩:=YP e
 have k0:=c1.cellAt e0
 have k1:=c1.cellAt e1
 have k2:=c1.cellAt e2
 have k3:=c1.cellAt e3
 have k4:=c1.cellAt e4
 have k5:=c1.cellAt e5
 have k6:=c1.cellAt e6
 have k7:=c1.cellAt e7
 have hd:∀ n:Nat,c≠n->(((c:Nat):Int)==(n:Nat))=false:=fun n hn=>by rw[beq_eq_false_iff_ne];omega
 refine⟨H1,amB ?_,o1⟩
 unfold OF mw
 by_cases h1:c=82
 ·subst h1;simp(disch:=first|exact zqz|fail)only[aW,k1,Qj,↓reduceIte,aeH,av,au,ai,aj,simprocAttr]
 have b1:(((c:Nat):Int)==82)=false:=hd 82 h1
 rw[if_neg h1]
 by_cases h2:c=84
 ·subst h2;simp(disch:=first|exact zqz|fail)only[aW,k2,Qj,↓reduceIte,aeH,av,au,ai,aj,simprocAttr]
 have b2:(((c:Nat):Int)==84)=false:=hd 84 h2
 rw[if_neg h2]
 by_cases h3:c=89
 ·subst h3;simp(disch:=first|exact zqz|fail)only[aW,k3,Qj,↓reduceIte,aeH,av,au,ai,aj,simprocAttr]
 have b3:(((c:Nat):Int)==89)=false:=hd 89 h3
 rw[if_neg h3]
 by_cases h4:c=78
 ·subst h4
  rw[if_pos rfl]
  by_cases hk:e.kd=9
  ·have bk:(e.kd==9)=true:=by simp[hk]
   rw[if_pos hk]
   unfold vU
   by_cases hn:1<=e.n
   ·simp(disch:=first|exact zqz|fail)only[aW,k0,k4,bk,hn,aeD,aeH,av,au,ai,aj,simprocAttr]
   ·simp(disch:=first|exact zqz|fail)only[aW,k0,k4,bk,hn,aeL,aeH,av,au,ai,aj,simprocAttr]
  ·have bk:(e.kd==9)=false:=by simp[hk]
   rw[if_neg hk]
   unfold vU
   by_cases hn:1<=e.n
   ·simp(disch:=first|exact zqz|fail)only[aW,k0,k4,bk,hn,aeD,aeH,av,au,ai,aj,simprocAttr]
   ·simp(disch:=first|exact zqz|fail)only[aW,k0,k4,bk,hn,aeL,aeH,av,au,ai,aj,simprocAttr]
 have b4:(((c:Nat):Int)==78)=false:=hd 78 h4
 rw[if_neg h4]
 by_cases h5:c=77
 ·subst h5;simp(disch:=first|exact zqz|fail)only[aW,k5,JU,↓reduceIte,aeH,av,au,ai,aj,simprocAttr]
 have b5:(((c:Nat):Int)==77)=false:=hd 77 h5
 rw[if_neg h5]
 have hle:∀ (a n:Nat),decide (((a:Nat):Int)<=((n:Nat):Int))=decide (a<=n):=fun a n=>by simp
 by_cases h6:c=75
 ·subst h6
  have:=hle e.ky.length 16
  rw[show (((16:Nat):Int))=16 from rfl] at this
  simp(disch:=first|exact zqz|fail)only[aW,k6,this,↓reduceIte,aeH,av,au,ai,aj,simprocAttr]
 have b6:(((c:Nat):Int)==75)=false:=hd 75 h6
 rw[if_neg h6]
 by_cases h7:e.kd=1
 ·have b7:(e.kd==1)=true:=by simp[h7]
  have:=hle e.dt.length 900
  rw[show (((900:Nat):Int))=900 from rfl] at this
  rw[if_pos h7]
  simp(disch:=first|exact zqz|fail)only[aW,k0,k7,b1,b2,b3,b4,b5,b6,b7,this,av,au,ai,aj,simprocAttr]
 ·have b7:(e.kd==1)=false:=by simp[h7]
  have:=hle e.dt.length 64
  rw[show (((64:Nat):Int))=64 from rfl] at this
  rw[if_neg h7]
  simp(disch:=first|exact zqz|fail)only[aW,k0,k7,b1,b2,b3,b4,b5,b6,b7,this,av,au,ai,aj,simprocAttr]
theorem ab7 {e:Ev}{E X it:Nat}{l:aq}{y:AV}(hl:∀ c∈l,c<128)(h1:E≠X)(h2:E≠it)(h3:X≠it):∀ (r:aq) (i:Nat) (H:Hp) (x:Ev),l.drop i=r->wS H it l i->Cs H E (aG e) 26 0->Cs H X (aG x) 26 0->
  ∃ H',(∀ bO:K.Fn 2,CS JN GO cK bO (.ptr E 0) y (.ptr X 0) (.ptr it 0) H=bO y (.ptr X 0) H')/\Cs H' X (aG (r.foldl (Ga e) x)) 26 0/\Out [it,X] H H'/\H'.next=H.next
 | [],i,H,x,h,hS,hE,hX=>by
  have hi:l.length<=i:=by
   rcases aji i l.length with q | q
   ·rw[ah7 q] at h;cases h
   ·exact q
  refine⟨H,fun bO => ?_,hX,Out.refl _ _,rfl⟩
  rw[xr]
  simp only[uM,XN hS hi,ai,aj,simprocAttr]
 | c::r,i,H,x,h,hS,hE,hX=>by
  obtain⟨g1,g2,g3⟩:=gG h
  obtain⟨H1,n1,n2,n3,n4⟩:=aac hS g2 (hl c (aao g2))
  have yR:=hE.out n3 (by simpa using h2)
  have YU:=hX.out n3 (by simpa using h3)
  obtain⟨e0,e1,e2,e3,e4,e5,e6,e7⟩:=YP e
  have hd:∀ n:Nat,c≠n->(((c:Nat):Int)==(n:Nat))=false:=fun n hn=>by rw[beq_eq_false_iff_ne];omega
  have fin:∀ (H2:Hp) (x':Ev),Cs H2 X (aG x') 26 0->Out [X] H1 H2->H2.next=H1.next->Ga e x c=x'->∃ H',(∀ bO:K.Fn 2,CS JN GO cK bO (.ptr E 0) y (.ptr X 0) (.ptr it 0) H2=bO y (.ptr X 0) H')/\Cs H' X (aG ((c::r).foldl (Ga e) x)) 26 0/\Out [it,X] H H'/\H'.next=H.next:=by
   intro H2 x' og ho hn hx
   obtain⟨H',i1,i2,i3,i4⟩:=ab7 (y:=y) hl h1 h2 h3 r (i+1) H2 x' g3 (n2.out ho (by simpa using fun q=>h3 q.symm)) (yR.out ho (by simpa using h1)) og
   refine⟨H',i1,by rw[List.foldl_cons,hx];exact i2,((n3.mono (fun j hj=>by simp at hj;simp[hj])).trans (ho.mono (fun j hj=>by simp at hj;simp[hj]))).trans i3,by omega⟩
  have sv:∀ (o:Nat) (v:AV),o<8->aY v=true->∃ H2,st 1 (.ptr X o) v H1=some H2/\Cs H2 X ((aG x).set o v) 26 0/\Out [X] H1 H2/\H2.next=H1.next:=fun o v ho hv=>fG YU (by decide) (by rw[mD];exact ho) hv
  by_cases q1:c=82
  ·subst q1
   obtain⟨H2,s1,s2,s3,s4⟩:=sv 1 (.int .i64 e.rn) (by omega) rfl
   obtain⟨H',i1,i2,i3,i4⟩:=fin H2 { x with rn:=e.rn } s2 s3 s4 rfl
   refine⟨H',fun bO => ?_,i2,i3,i4⟩
   rw[xr]
   simp(disch:=first|exact zqz|fail)only[uM,n1,yR.cellAt e1,s1,i1,aeH,av,au,ai,aj,simprocAttr]
  have b1:(((c:Nat):Int)==82)=false:=hd 82 q1
  by_cases q2:c=84
  ·subst q2
   obtain⟨H2,s1,s2,s3,s4⟩:=sv 2 (.int .i64 e.tk) (by omega) rfl
   obtain⟨H',i1,i2,i3,i4⟩:=fin H2 { x with tk:=e.tk } s2 s3 s4 rfl
   refine⟨H',fun bO => ?_,i2,i3,i4⟩
   rw[xr]
   simp(disch:=first|exact zqz|fail)only[uM,n1,yR.cellAt e2,s1,i1,aeH,av,au,ai,aj,simprocAttr]
  have b2:(((c:Nat):Int)==84)=false:=hd 84 q2
  by_cases q3:c=89
  ·subst q3
   obtain⟨H2,s1,s2,s3,s4⟩:=sv 3 (.int .i64 e.ty) (by omega) rfl
   obtain⟨H',i1,i2,i3,i4⟩:=fin H2 { x with ty:=e.ty } s2 s3 s4 rfl
   refine⟨H',fun bO => ?_,i2,i3,i4⟩
   rw[xr]
   simp(disch:=first|exact zqz|fail)only[uM,n1,yR.cellAt e3,s1,i1,aeH,av,au,ai,aj,simprocAttr]
  have b3:(((c:Nat):Int)==89)=false:=hd 89 q3
  by_cases q4:c=78
  ·subst q4
   obtain⟨H2,s1,s2,s3,s4⟩:=sv 4 (.int .i64 e.n) (by omega) rfl
   obtain⟨H',i1,i2,i3,i4⟩:=fin H2 { x with n:=e.n } s2 s3 s4 rfl
   refine⟨H',fun bO => ?_,i2,i3,i4⟩
   rw[xr]
   simp(disch:=first|exact zqz|fail)only[uM,n1,yR.cellAt e4,s1,i1,aeH,av,au,ai,aj,simprocAttr]
  have b4:(((c:Nat):Int)==78)=false:=hd 78 q4
  by_cases q5:c=77
  ·subst q5
   obtain⟨H2,s1,s2,s3,s4⟩:=sv 5 (.str e.nm) (by omega) rfl
   obtain⟨H',i1,i2,i3,i4⟩:=fin H2 { x with nm:=e.nm } s2 s3 s4 rfl
   refine⟨H',fun bO => ?_,i2,i3,i4⟩
   rw[xr]
   simp(disch:=first|exact zqz|fail)only[uM,n1,yR.cellAt e5,s1,i1,aeH,av,au,ai,aj,simprocAttr]
  have b5:(((c:Nat):Int)==77)=false:=hd 77 q5
  by_cases q6:c=75
  ·subst q6
   obtain⟨H2,s1,s2,s3,s4⟩:=sv 6 (.str e.ky) (by omega) rfl
   obtain⟨H',i1,i2,i3,i4⟩:=fin H2 { x with ky:=e.ky } s2 s3 s4 rfl
   refine⟨H',fun bO => ?_,i2,i3,i4⟩
   rw[xr]
   simp(disch:=first|exact zqz|fail)only[uM,n1,yR.cellAt e6,s1,i1,aeH,av,au,ai,aj,simprocAttr]
  have b6:(((c:Nat):Int)==75)=false:=hd 75 q6
  by_cases q7:c=68
  ·subst q7
   obtain⟨H2,s1,s2,s3,s4⟩:=sv 7 (.str e.dt) (by omega) rfl
   obtain⟨H',i1,i2,i3,i4⟩:=fin H2 { x with dt:=e.dt } s2 s3 s4 rfl
   refine⟨H',fun bO => ?_,i2,i3,i4⟩
   rw[xr]
   simp(disch:=first|exact zqz|fail)only[uM,n1,yR.cellAt e7,s1,i1,aeH,av,au,ai,aj,simprocAttr]
  have b7:(((c:Nat):Int)==68)=false:=hd 68 q7
  obtain⟨H',i1,i2,i3,i4⟩:=fin H1 x YU (Out.refl _ _) rfl (by unfold Ga;rw[if_neg q1,if_neg q2,if_neg q3,if_neg q4,if_neg q5,if_neg q6,if_neg q7])
  refine⟨H',fun bO => ?_,i2,i3,i4⟩
  rw[xr]
  simp(disch:=first|exact zqz|fail)only[uM,n1,b1,b2,b3,b4,b5,b6,b7,i1,av,au,ai,aj,simprocAttr]
abbrev zE:List AV:=[(.int .i64 0),(.int .i64 0),(.int .i64 0),(.int .i64 0),(.int .i64 0),(.str []),(.str []),(.str [])]
theorem ahf (e:Ev){l:aq}(hl:∀ c∈l,c<128)(H:Hp):∃ H',cK (.func (.func 49) [] []) [.agg (aG e),.str l] H=some (.agg (aG (xH e l)),H')/\Out [] H H':=by
 have aW:bx 26 (.agg (aG e)) H=some (H.next,al H (aG e) 26 0):=ji (by rw[mD];omega)
 have o1:=aI H (aG e) 26 0
 have c1:=bg H (aG e) 26 0
 have n1:(al H (aG e) 26 0).next=H.next+1:=rfl
 generalize al H (aG e) 26 0=H1 at *
 have dL:aE H1 zE 26 0=some (H.next+1,al H1 zE 26 0):=by rw[<-n1];exact gk (by simp)
 have o2:=aI H1 zE 26 0
 have c2:=bg H1 zE 26 0
 have n2:(al H1 zE 26 0).next=H.next+2:=by rw[bK,n1]
 rw[n1] at c2
 generalize dc:al H1 zE 26 0=H2 at *
 have k0:cellAt H2 H.next 0=some (.int .i64 e.kd):=(c1.out o2 (by simp)).cellAt rfl
 have hf:fl zE [(0,1,.int .i64 e.kd)]=some (aG (xO e.kd)):=rfl
 have aqs:aE H2 zE 26 0=some (H.next+2,al H2 zE 26 0):=by rw[<-n2];exact gk (by simp)
 have aC:st 8 (.ptr (H.next+2) 0) (.agg (aG (xO e.kd))) (al H2 zE 26 0)=some (al H2 (aG (xO e.kd)) 26 0):=iI rfl rfl n2.symm (by decide) rfl
 have o3:=aI H2 (aG (xO e.kd)) 26 0
 have c3:=bg H2 (aG (xO e.kd)) 26 0
 have n3:(al H2 (aG (xO e.kd)) 26 0).next=H.next+3:=by rw[bK,n2]
 rw[n2] at c3
 generalize al H2 (aG (xO e.kd)) 26 0=H3 at *
 have zy:xy P 9 (.str l) H3=some (.ptr (H.next+3) 0,BT H3 l):=by rw[<-n3];exact aaZ Tryz.underlying9 l H3
 have o4:=TF H3 l
 have s4:=abV H3 l
 rw[n3] at s4
 have cE:=((c1.out o2 (by simp)).out o3 (by simp)).out o4 (by simp)
 have cV:=(c2.out o3 (by simp)).out o4 (by simp)
 have cX:=c3.out o4 (by simp)
 obtain⟨H5,i1,i2,i3,i4⟩:=ab7 (y := .ptr (H.next+1) 0) hl (by omega) (by omega) (by omega) l 0 (BT H3 l) (xO e.kd) acI s4 cE cX
 have cV5:=cV.out i3 (by simp)
 have k8:ar H5 (H.next+2) 0 8=some (aG (xH e l)):=i2.ar 8 0 (by rw[mD];omega)
 obtain⟨H6,t1,t2,t3,t4⟩:=fx (n:=8) (vs:=aG (xH e l)) cV5 rfl rfl rfl
 have k9:ar H6 (H.next+1) 0 8=some (aG (xH e l)):=t2.ar 8 0 (by rw[mD];omega)
 have out:Out [] H H6:=gi (gi (((o1.trans o2).trans o3).trans o4) i3 (fun j hj=>by simp at hj;omega)) t3 (jX (by omega))
 refine⟨H6,aei ?_,out⟩
 unfold N2
 simp(disch:=first|exact zqz|fail)only[aW,n1,dc,n2,k0,hf,aC,zy,i1,k8,t1,k9,av,au,ai,aj,simprocAttr]
theorem ake (a b c d e:Int)(f g h:aq)(a' b' c' d' e':Int)(f' g' h':aq)(H:Hp):dH P 50 26 (.agg [.int .i64 a,.int .i64 b,.int .i64 c,.int .i64 d,.int .i64 e,.str f,.str g,.str h]) (.agg [.int .i64 a',.int .i64 b',.int .i64 c',.int .i64 d',.int .i64 e',.str f',.str g',.str h']) H=sH (fun z:Bool=>some z) [a==a',b==b',c==c',d==d',e==e',f==f',g==g',h==h']:=by kernel_rfl
theorem agT:Program.eqGuardType P P.depth 26=false:=by kernel_rfl
theorem CV:∀ l:List Bool,sH (fun z:Bool=>some z) l=some (l.all id)
 | []=>rfl
 | b::l=>by
  unfold sH
  rw[CV l,List.all_cons]
  cases b<;>rfl
theorem VK (a b:Ev)(H:Hp):gA P .eql 26 false (.agg (aG a)) (.agg (aG b))=true/\eG P .eql 26 (.agg (aG a)) (.agg (aG b)) H=some (.bool (Bo a b)):=by
 constructor
 ·show (!(Program.eqGuardType P P.depth 26))=true
  rw[agT];rfl
 ·show (dH P 50 26 (.agg (aG a)) (.agg (aG b)) H).map (fun b=>AV.bool b)=_
  have h:dH P 50 26 (.agg (aG a)) (.agg (aG b)) H=_:=ake a.kd a.rn a.tk a.ty a.n a.nm a.ky a.dt b.kd b.rn b.tk b.ty b.n b.nm b.ky b.dt H
  rw[h,CV]
  simp[Bo]
def findF (p:Nat->Bool):aq->Nat->Option Nat
 | [],_=>none
 | c::r,i=>if p c then some i else findF p r (i+1)
theorem Ww (p:Nat->Bool):∀ (l:aq) (i:Nat),(findF p l i).isSome=l.any p
 | [],i=>rfl
 | c::r,i=>by
  unfold findF
  rw[List.any_cons]
  cases h:p c with
  | true=>rfl
  | false=>rw[Bool.false_or];exact Ww p r (i+1)
theorem Xa {fv:AV}{it:Nat}{l:aq}{p:Nat->Bool}{H0:Hp}(hl:∀ c∈l,c<128)(hp:∀ H,Out [] H0 H->∀ c∈l,∃ H',cK fv [.int .i32 (c:Nat)] H=some (.bool (p c),H')/\Out [] H H')(hit:H0.next<=it):∀ (r:aq) (i:Nat) (H:Hp),l.drop i=r->wS H it l i->Out [] H0 H->
  ∃ H',(∀ j3:K.Fn 0,HY JN GO cK j3 fv (.bool true) (.ptr it 0) H=match findF p r i with | some k=>some (.int .i64 (k:Nat),H') | none=>j3 H')/\Out [] H0 H'
 | [],i,H,h,hS,hO=>by
  have hi:l.length<=i:=by
   rcases aji i l.length with q | q
   ·rw[ah7 q] at h;cases h
   ·exact q
  refine⟨H,fun j3 => ?_,hO⟩
  rw[Qh]
  simp only[K7,XN hS hi,ai,aj,simprocAttr]
  rfl
 | c::r,i,H,h,hS,hO=>by
  obtain⟨g1,g2,g3⟩:=gG h
  obtain⟨H1,n1,n2,n3,n4⟩:=aac hS g2 (hl c (aao g2))
  have zj:Out [] H0 H1:=gi hO n3 (jX hit)
  obtain⟨H2,f1,f2⟩:=hp H1 zj c (aao g2)
  have Ct:=zj.trans f2
  unfold findF
  cases hc:p c with
  | true=>
   refine⟨H2,fun j3 => ?_,Ct⟩
   rw[Qh]
   rw[hc] at f1
   have bt:(true==true)=true:=rfl
   simp(disch:=first|exact zqz|fail)only[K7,n1,f1,bt,↓reduceIte,av,au,ai,aj,simprocAttr]
  | false=>
   obtain⟨H',i1,i2⟩:=Xa hl hp hit r (i+1) H2 g3 (n2.out f2 (by simp)) Ct
   refine⟨H',fun j3 => ?_,i2⟩
   rw[Qh]
   rw[hc] at f1
   have bt:(false==true)=false:=rfl
   simp(disch:=first|exact zqz|fail)only[K7,n1,f1,bt,i1,aby,↓reduceIte,av,au,ai,aj,simprocAttr]
theorem adN {fv:AV}{l:aq}{p:Nat->Bool}{H0:Hp}(hl:∀ c∈l,c<128)(hp:∀ H,Out [] H0 H->∀ c∈l,∃ H',cK fv [.int .i32 (c:Nat)] H=some (.bool (p c),H')/\Out [] H H') :
  ∃ H',cK (.func (.func 50) [] []) [.str l,fv] H0=some (.bool (l.any p),H')/\Out [] H0 H':=by
 have zy:=aaZ Tryz.underlying9 l H0
 have o1:=TF H0 l
 have s1:=abV H0 l
 obtain⟨H',i1,i2⟩:=Xa hl hp (aaC _) l 0 (BT H0 l) acI s1 o1
 refine⟨H',ap1 ?_,i2⟩
 have h1:cK (.func (.func 115) [] []) [.str l,fv,.bool true] H0=some (.int .i64 (kY (findF p l 0)),H'):=by
  refine apA ?_
  unfold Z7
  simp only[zy,i1,ai,aj,simprocAttr]
  cases findF p l 0<;>rfl
 have h2:cK (.func (.func 86) [] []) [.str l,fv] H0=some (.int .i64 (kY (findF p l 0)),H'):=by
  refine ahs ?_
  unfold Um
  simp only[h1,ai,aj,simprocAttr]
 unfold ZV
 simp only[h2,Gj,Ww,ai,aj,simprocAttr]
theorem apK {e:Ev}{E:Nat}{H:Hp}(hE:Cs H E (aG e) 26 0)(c:Nat):∃ H',cK (.func (.func 51) [] [.ptr E 0]) [.int .i32 (c:Nat)] H=some (.bool (!mw e c),H')/\Out [] H H':=by
 obtain⟨H',h1,h2⟩:=alm e c H
 have k8:ar H E 0 8=some (aG e):=hE.ar 8 0 (by rw[mD];omega)
 refine⟨H',amu ?_,h2⟩
 unfold Sz
 simp(disch:=first|exact zqz|fail)only[k8,h1,av,au,ai,aj,simprocAttr]
theorem Us (k:Int):∀ c∈fieldsM k,c<128:=by
 unfold fieldsM
 intro c hc
 repeat' split at hc
 all_goals first | (simp at hc;omega) | (simp at hc)
theorem al1 (e:Ev)(H:Hp):∃ H',cK (.func (.func 21) [] []) [.agg (aG e)] H=some (.bool (wm e),H')/\Out [] H H':=by
 have aW:bx 26 (.agg (aG e)) H=some (H.next,al H (aG e) 26 0):=ji (by rw[mD];omega)
 have o1:=aI H (aG e) 26 0
 have c1:=bg H (aG e) 26 0
 generalize al H (aG e) 26 0=H1 at *
 have k0:cellAt H1 H.next 0=some (.int .i64 e.kd):=c1.cellAt rfl
 have k8:ar H1 H.next 0 8=some (aG e):=c1.ar 8 0 (by rw[mD];omega)
 unfold wm
 cases hf:(fieldsM e.kd==[]) with
 | true=>
  refine⟨H1,My ?_,o1⟩
  unfold K6
  simp(disch:=first|exact zqz|fail)only[aW,k0,Sa,hf,aeL,av,au,ai,aj,simprocAttr]
 | false=>
  obtain⟨H2,h1,h2⟩:=ahf e (Us e.kd) H1
  have c2:=c1.out h2 (by simp)
  have k9:ar H2 H.next 0 8=some (aG e):=c2.ar 8 0 (by rw[mD];omega)
  obtain⟨q1,q2⟩:=VK (xH e (fieldsM e.kd)) e H2
  have hs:same (.agg (aG e)) (.agg (aG e))=true:=by
   have hk:(IntKind.i64==IntKind.i64)=true:=rfl
   simp[same,aG,ub,oz]
  cases he:Bo (xH e (fieldsM e.kd)) e with
  | false=>
   refine⟨H2,My ?_,o1.trans h2⟩
   rw[he] at q2
   unfold K6
   simp(disch:=first|exact zqz|fail)only[aW,k0,Sa,hf,k8,h1,k9,q1,mH,q2,lT hs,aeL,aeD,av,au,ai,aj,simprocAttr]
  | true=>
   obtain⟨H3,h3,h4⟩:=adN (fv := .func (.func 51) [] [.ptr H.next 0]) (p:=fun c => !mw e c) (H0:=H2) (Us e.kd) (fun H' k c _=>apK (c2.out k (by simp)) c)
   refine⟨H3,My ?_,(o1.trans h2).trans h4⟩
   rw[he] at q2
   have jY:(!((fieldsM e.kd).any fun c => !mw e c))=(fieldsM e.kd).all (mw e):=by
    rw[List.not_any_eq_all_not]
    simp
   unfold K6
   simp(disch:=first|exact zqz|fail)only[aW,k0,Sa,hf,k8,h1,k9,q1,mH,q2,lT hs,h3,jY,aeD,av,au,ai,aj,simprocAttr]
abbrev Ky:=aq × aq
def cj (k:Ky):List AV:=[.str k.1,.str k.2]
theorem Uh (a b c d:aq)(H:Hp):dH P 20 80 (.agg [.str a,.str b]) (.agg [.str c,.str d]) H=sH (fun z:Bool=>some z) [a==c,b==d]:=by kernel_rfl
theorem Qu {k q:Ky}(h:q≠k)(H:Hp):dH P 20 80 (.agg (cj k)) (.agg (cj q)) H=some false:=by
 have h1:dH P 20 80 (.agg (cj k)) (.agg (cj q)) H=_:=Uh k.1 k.2 q.1 q.2 H
 rw[h1,CV]
 simp only[List.all_cons,List.all_nil,id,Bool.and_true,acV,Bool.and_eq_false_iff,beq_eq_false_iff_ne]
 by_cases h2:k.1=q.1
 ·exact .inr fun h3=>h (Prod.ext h2.symm h3.symm)
 ·exact .inl h2
theorem afo (k:Ky)(H:Hp):dH P 20 80 (.agg (cj k)) (.agg (cj k)) H=some true:=by
 have h1:dH P 20 80 (.agg (cj k)) (.agg (cj k)) H=_:=Uh k.1 k.2 k.1 k.2 H
 rw[h1,CV]
 simp
abbrev Ke:=Ky × Int
def qZ (E:List (Ke × Nat)):List ME:=E.map fun x=>⟨.agg (cj x.1.1),.int .i64 x.1.2,x.2⟩
theorem OJ {H:Hp}{k:Ky}:∀ (E:List (Ke × Nat)) (i:Nat),(∀ x∈E,x.1.1≠k)->mn P H 80 (.agg (cj k)) (qZ E) i=some none
 | [],i,_=>rfl
 | x::E,i,h=>by
  show mn P H _ (.agg (cj k)) (⟨.agg (cj x.1.1),.int .i64 x.1.2,x.2⟩::qZ E) i=_
  unfold mn
  simp only[Qu (h x (.head _)) H]
  exact OJ E (i+1) fun y hy=>h y (.tail _ hy)
theorem YV {H:Hp}{k:Ky}:∀ (E:List (Ke × Nat)),(∀ x∈E,x.1.1≠k)->vt P H 80 (.agg (cj k)) (qZ E)=true
 | [],_=>rfl
 | x::E,h=>by
  show vt P H _ (.agg (cj k)) (⟨.agg (cj x.1.1),.int .i64 x.1.2,x.2⟩::qZ E)=_
  unfold vt
  simp only[Qu (h x (.head _)) H]
  exact YV E fun y hy=>h y (.tail _ hy)
theorem T8 {H:Hp}{k:Ky}{x:Ke × Nat}{B:List (Ke × Nat)}(hx:x.1.1=k)(hB:∀ y∈B,y.1.1≠k):∀ (A:List (Ke × Nat)) (i:Nat),(∀ y∈A,y.1.1≠k)->
  ∃ j,mn P H 80 (.agg (cj k)) (qZ (A++x::B)) i=some (some (j,⟨.agg (cj x.1.1),.int .i64 x.1.2,x.2⟩))
 | [],i,_=>by
  refine⟨i,?_⟩
  show mn P H _ (.agg (cj k)) (⟨.agg (cj x.1.1),.int .i64 x.1.2,x.2⟩::qZ B) i=_
  unfold mn
  subst hx
  simp only[afo,YV B hB,cond_true]
 | y::A,i,h=>by
  obtain⟨j,hj⟩:=T8 hx hB A (i+1) fun z hz=>h z (.tail _ hz)
  refine⟨j,?_⟩
  show mn P H _ (.agg (cj k)) (⟨.agg (cj y.1.1),.int .i64 y.1.2,y.2⟩::qZ (A++x::B)) i=_
  unfold mn
  simp only[Qu (h y (.head _)) H]
  exact hj
theorem Po (k:Ky):nw P 20 80 (.agg (cj k))=true:=by kernel_rfl
def getK (ks:List Ke)(k:Ky):Option Int:=(ks.find? (fun x=>x.1==k)).map (·.2)
theorem Eh {ks:List Ke}{k:Ky}(h:getK ks k=none):∀ x∈ks,x.1≠k:=by
 unfold getK at h
 rw[Option.map_eq_none_iff,List.find?_eq_none] at h
 intro x hx q
 exact h x hx (by rw[q];exact beq_self_eq_true _)
theorem MZ {ks:List Ke}{k:Ky}{id:Int}(h:getK ks k=some id):∃ a b,ks=a++(k,id)::b/\∀ x∈a,x.1≠k:=by
 unfold getK at h
 rw[aaa] at h
 obtain⟨x,h1,rfl⟩:=h
 rw[List.find?_eq_some_iff_append] at h1
 obtain⟨h2,a,b,rfl,h3⟩:=h1
 have:x.1=k:=by simpa using h2
 subst this
 exact⟨a,b,rfl,fun y hy q=>by have:=h3 y hy;rw[q] at this;simp at this⟩
abbrev kv (km:Nat)(lx:AV):List AV:=[.int .i64 128,.map km,lx]
structure KO (H:Hp)(kp km:Nat)(lx:AV)(ks:List Ke):Prop where
 c:Cs H kp (kv km lx) 136 0
 m:∃ bs c,bs.length=ks.length/\Mp H km (qZ (ks.zip bs)) c
 l:OL H 80 2 lx (ks.map fun x=>cj x.1)
 nd:(ks.map (·.1)).Nodup
 d1:kp≠km
 d2:∀ j∈ak lx,j≠kp/\j≠km
def zT (kp km:Nat)(lx:AV):List Nat:=kp::km::ak lx
theorem KO.out {H H':Hp}{kp km:Nat}{lx:AV}{ks:List Ke}{S:List Nat}(h:KO H kp km lx ks)(k:Out S H H')(hs:∀ j∈zT kp km lx,j∉S):KO H' kp km lx ks:=by
 obtain⟨bs,c,h1,h2⟩:=h.m
 exact⟨h.c.out k (hs _ (.head _)),⟨bs,c,h1,h2.out k (hs _ (.tail _ (.head _)))⟩,h.l.out k fun j hj=>hs j (.tail _ (.tail _ hj)),h.nd,h.d1,h.d2⟩
theorem KO.out0 {H H':Hp}{kp km:Nat}{lx:AV}{ks:List Ke}(h:KO H kp km lx ks)(k:Out [] H H'):KO H' kp km lx ks:=h.out k fun _ _ q=>by cases q
theorem KO.lt {H:Hp}{kp km:Nat}{lx:AV}{ks:List Ke}(h:KO H kp km lx ks):∀ j∈zT kp km lx,j<H.next:=by
 intro j hj
 obtain⟨bs,c,h1,h2⟩:=h.m
 rcases aaD.1 hj with rfl | hj
 ·exact h.c.1
 ·rcases aaD.1 hj with rfl | hj
  ·exact h2.1
  ·exact h.l.1.rw.lt j hj
theorem al2 (H:Hp):∃ kp km H',cK (.func (.func 44) [] []) [.int .i64 128] H=some (.ptr kp 0,H')/\KO H' kp km .ah []/\Out [] H H'/\H.next<=kp/\H.next<=km:=by
 obtain⟨H1,m1,m2,m3,m4⟩:=IG H
 have hf:fl [(.int .i64 0),.jk,.ah] [(0,1,.int .i64 128),(1,1,.map H.next)]=some (kv H.next .ah):=rfl
 have aW:bx 136 (.agg (kv H.next .ah)) H1=some (H1.next,al H1 (kv H.next .ah) 136 0):=ji (by simp)
 have o2:=aI H1 (kv H.next .ah) 136 0
 have c2:=bg H1 (kv H.next .ah) 136 0
 refine⟨H1.next,H.next,al H1 (kv H.next .ah) 136 0,ajE ?_,⟨c2,⟨[],0,rfl,m2.out o2 (by simp)⟩,OL.nil _ _ _,by simp,by omega,fun j hj=>by cases hj⟩,m3.trans o2,by omega,aaC _⟩
 unfold abJ
 simp only[aju,Ba,Int.reduceLT,if_false,if_true,m1,hf,aW,ai,aj,simprocAttr]
theorem Iz {ks:List Ke}{bs:List Nat}{k:Ky}(h:∀ x∈ks,x.1≠k):∀ y∈ks.zip bs,y.1.1≠k:=fun y hy=>h y.1 (List.of_mem_zip hy).1
theorem ahJ {a b:List Ke}{x:Ke}{bs:List Nat}(h:bs.length=(a++x::b).length):∃ b1 c b2,(a++x::b).zip bs=a.zip b1++(x,c)::b.zip b2:=by
 have h1:a.length<bs.length:=by rw[h,aaX,aaL];omega
 refine⟨bs.take a.length,bs[a.length],bs.drop (a.length+1),?_⟩
 conv=>lhs;rw[show bs=bs.take a.length++bs[a.length]::bs.drop (a.length+1) by rw[List.getElem_cons_drop,ahH]]
 rw[List.zip_append (by rw[aes];omega)]
 rfl
theorem LS {H:Hp}{km:Nat}{ks:List Ke}(hm:∃ bs c,bs.length=ks.length/\Mp H km (qZ (ks.zip bs)) c)(gO:(ks.map (·.1)).Nodup)(k:Ky)(ok:Bool) :
  qo P 133 (.map km) (.agg (cj k)) ok H=some (bif ok then .tuple [.int .i64 ((getK ks k).getD 0),.bool (getK ks k).isSome] else .int .i64 ((getK ks k).getD 0)):=by
 obtain⟨bs,c,h1,h2⟩:=hm
 have hu:P.underlying 133=some (.map 80 3):=Tryz.underlying133
 have hz:((P.info? 3).bind (·.zero)).bind ja=some (.int .i64 0):=by kernel_rfl
 unfold qo
 cases hg:getK ks k with
 | none=>
  simp only[hu,Po,cond_true,EZ h2,OJ _ 0 (Iz (bs:=bs) (Eh hg)),hz,aee]
  cases ok<;>rfl
 | some id=>
  obtain⟨a,b,rfl,h3⟩:=MZ hg
  obtain⟨b1,c1,b2,h4⟩:=ahJ h1
  rw[h4] at h2
  have hb:∀ x∈b,x.1≠k:=by
   intro x hx q
   rw[adI,acW,aeY,ahG] at gO
   exact gO.2.1.1 (acS.2 ⟨x,hx,q⟩)
  obtain⟨j,hj⟩:=T8 (H:=H) (x:=((k,id),c1)) (k:=k) rfl (Iz (bs:=b2) hb) (a.zip b1) 0 (Iz h3)
  simp only[hu,Po,cond_true,EZ h2,hj]
  cases ok<;>rfl
theorem Cu (k:Ky):(cj k).length=2:=rfl
theorem ajT {H:Hp}{kp km:Nat}{lx:AV}{ks:List Ke}(h:KO H kp km lx ks)(k:Ky):∃ H',cK (.func (.func 83) [] []) [.ptr kp 0,.agg (cj k)] H=some (.tuple [.int .i64 ((getK ks k).getD 0),.bool (getK ks k).isSome],H')/\Out [] H H':=by
 have aW:bx 80 (.agg (cj k)) H=some (H.next,al H (cj k) 80 0):=ji (by rw[Cu];omega)
 have o1:=aI H (cj k) 80 0
 have c1:=bg H (cj k) 80 0
 generalize al H (cj k) 80 0=H1 at *
 have h1:=h.out0 o1
 have k1:cellAt H1 kp 1=some (.map km):=h1.c.cellAt rfl
 have k2:ar H1 H.next 0 2=some (cj k):=c1.ar 2 0 (by rw[Cu];omega)
 have lk:=LS h1.m h1.nd k true
 refine⟨H1,al7 ?_,o1⟩
 unfold Zd
 simp(disch:=first|exact zqz|fail)only[aW,k1,k2,lk,cond_true,av,au,ai,aj,simprocAttr]
theorem agI {H:Hp}{kp km:Nat}{lx:AV}{ks:List Ke}(h:KO H kp km lx ks)(hn:ks.length<128){k:Ky}(hk:getK ks k=none)(id:Int) :
  ∃ tC H',cK (.func (.func 33) [] []) [.ptr kp 0,.agg (cj k),.int .i64 id] H=some (.tuple [.int .i64 id,.bool true],H')/\KO H' kp km tC (ks++[(k,id)])/\Out (zT kp km lx) H H'/\∀ j∈ak tC,j∈ak lx\/H.next<=j:=by
 have aW:bx 80 (.agg (cj k)) H=some (H.next,al H (cj k) 80 0):=ji (by rw[Cu];omega)
 have o1:=aI H (cj k) 80 0
 have c1:=bg H (cj k) 80 0
 have n1:(al H (cj k) 80 0).next=H.next+1:=rfl
 generalize al H (cj k) 80 0=H1 at *
 have h1:=h.out0 o1
 have aJ:=h.lt
 have k0:cellAt H1 kp 0=some (.int .i64 128):=h1.c.cellAt rfl
 have k1:cellAt H1 kp 1=some (.map km):=h1.c.cellAt rfl
 have k2:cellAt H1 kp 2=some lx:=h1.c.cellAt rfl
 have kx:ar H1 H.next 0 2=some (cj k):=c1.ar 2 0 (by rw[Cu];omega)
 have lk:=LS h1.m h1.nd k true
 rw[hk] at lk
 have hlen:=h1.l.rl.len (by decide)
 rw[ads] at hlen
 have dn:(((ks.length:Nat):Int)==128)=false:=by rw[beq_eq_false_iff_ne];omega
 obtain⟨bs,c,b1,b2⟩:=h1.m
 have hu:P.underlying 133=some (.map 80 3):=Tryz.underlying133
 have Hl:qZ ((ks++[(k,id)]).zip (bs++[c]))=qZ (ks.zip bs)++[⟨.agg (cj k),.int .i64 id,c⟩]:=by
  rw[List.zip_append b1.symm];simp[qZ]
 obtain⟨H2,u1,u2,u3,u4⟩:∃ H2,nF P 133 (.map km) (.agg (cj k)) (.int .i64 id) H1=some H2/\Mp H2 km (qZ ((ks++[(k,id)]).zip (bs++[c]))) (c+1)/\Out [km] H1 H2/\H2.next=H1.next:=by
  rw[Hl]
  refine⟨_,?_,(b2.set _ _).1,(b2.set _ _).2,rfl⟩
  unfold nF
  simp only[hu,Po,cond_true,b2.2,OJ _ 0 (Iz (bs:=bs) (Eh hk))]
 have hkm:km<H.next:=aJ km (.tail _ (.head _))
 have hkp:kp<H.next:=aJ kp (.head _)
 have q2:cellAt H2 kp 2=some lx:=by rw[u3.cellAt h1.c.1 (by simpa using h.d1)];exact k2
 have qx:ar H2 H.next 0 2=some (cj k):=by rw[u3.ar c1.1 (by rw[No];omega)];exact kx
 have hf:fl [(.str []),(.str [])] [(0,2,.agg (cj k))]=some (cj k):=rfl
 have nN:OL H2 80 2 lx (ks.map fun x=>cj x.1):=h1.l.out u3 fun j hj=>by rw[No];exact (h.d2 j hj).2
 have dL:aE H2 (cj k) 80 0=some (H2.next,al H2 (cj k) 80 0):=gk (by rw[Cu];omega)
 obtain⟨tC,H3,p1,p2,p3,p4,p5⟩:=nN.push (fH:=80) (z:=[(.str []),(.str [])]) (vs:=cj k) rfl rfl (by decide) (by rw[ads];omega)
 have iQ:=p1 H2.next rfl
 have c3:Cs H3 kp (kv km lx) 136 0:=(h1.c.out u3 (by simpa using h.d1)).out p3 fun q=>(h.d2 kp q).1 rfl
 obtain⟨H4,s1,s2,s3,s4⟩:=fG c3 (by decide) (o:=2) (by simp) (v:=tC) p5
 have a2:=aI H2 (cj k) 80 0
 have q3:cellAt (al H2 (cj k) 80 0) kp 2=some lx:=by rw[a2.cellAt (by rw[u4,n1];omega) (by simp)];exact q2
 have gL:H2.next=H.next+1:=by rw[u4,n1]
 have eX:∀ j∈ak tC,j≠kp/\j≠km:=fun j hj=>by
  rcases p4 j hj with q | q
  ·exact h.d2 j q
  ·omega
 have m3:Mp H3 km (qZ ((ks++[(k,id)]).zip (bs++[c]))) (c+1):=u2.out p3 fun q=>(h.d2 km q).2 rfl
 refine⟨tC,H4,ahD ?_,⟨s2,⟨bs++[c],c+1,by simp[b1],m3.out s3 (by rw[No];exact fun q=>h.d1 q.symm)⟩,?_,?_,h.d1,eX⟩,?_,fun j hj=>(p4 j hj).imp (fun q=>q) fun q=>by omega⟩
 ·unfold Nu
  simp(disch:=first|exact zqz|fail)only[aW,k0,k1,k2,kx,lk,hlen,dn,u1,q2,qx,hf,dL,iQ,s1,q3,lT (B5 h1.l.1.rw),ae6,cond_true,av,au,ai,aj,simprocAttr]
 ·rw[adI]
  exact p2.out s3 fun j hj=>by rw[No];exact (eX j hj).1
 ·rw[adI]
  rw[aeY]
  refine⟨h.nd,by simp,fun x hx y hy q => ?_⟩
  simp at hy
  obtain⟨z,hz,rfl⟩:=acS.1 hx
  exact Eh hk z hz (q.trans hy)
 ·refine ((((o1.mono (S':=zT kp km lx) (fun j hj=>by cases hj)).trans (u3.mono fun j hj => ?_)).trans (p3.mono fun j hj => .tail _ (.tail _ hj))).trans (s3.mono fun j hj => ?_))
  ·rw[No] at hj;subst hj;exact .tail _ (.head _)
  ·rw[No] at hj;subst hj;exact .head _
def lF (x:Ke):List AV:=[.str x.1.1,.str x.1.2,.int .i64 x.2]
theorem afx {ks:List Ke}(gO:(ks.map (·.1)).Nodup){i:Nat}{x:Ke}(h:ks[i]? = some x):getK ks x.1=some x.2:=by
 cases hg:getK ks x.1 with
 | none=>exact absurd rfl (Eh hg x (aao h))
 | some id=>
  obtain⟨a,b,rfl,h3⟩:=MZ hg
  have hx:=aao h
  rcases abL.1 hx with hx | hx
  ·exact absurd rfl (h3 x hx)
  ·rcases aaD.1 hx with hx | hx
   ·rw[hx]
   ·rw[adI,acW,aeY,ahG] at gO
    exact absurd (acS.2 ⟨x,hx,rfl⟩) gO.2.1.1
theorem Uf {kp km:Nat}{lx:AV}{ks:List Ke}{H0:Hp}(hn:ks.length<=1000)(SP:KO H0 kp km lx ks):∀ (r:List Ke) (i:Nat) (H:Hp) (ox:AV),i<=ks.length->ks.drop i=r->Out [] H0 H->OL H 82 3 ox ((ks.take i).map lF)->(∀ j∈ak ox,H0.next<=j)->
  ∃ D9 H',(∀ cH:K.Fn 1,Er JN GO cK cH (.ptr kp 0) ox lx (.int .i64 (ks.length:Nat)) (.int .i64 (i:Nat)) H=cH D9 H')/\OL H' 82 3 D9 (ks.map lF)/\Out [] H0 H'/\∀ j∈ak D9,H0.next<=j
 | [],i,H,ox,hi,h,hO,hL,hr=>by
  obtain rfl:=drop_nil hi h
  refine⟨ox,H,fun cH => ?_,by rw[List.take_length] at hL;exact hL,hO,hr⟩
  rw[Ui]
  simp only[L0,fU,ai,aj,simprocAttr]
 | x::r,i,H,ox,hi,h,hO,hL,hr=>by
  obtain⟨g1,g2,g3⟩:=gG h
  have es:=gf g1 (by omega)
  have hK:=SP.out0 hO
  obtain⟨b,o,q1,q2,q3,q4,q5⟩:=hK.l.rl.at (by decide) (i:=i) (c:=cj x.1) (by rw[adL,g2];rfl)
  have aC:st 2 (.ptr H.next 0) (.agg (cj x.1)) (al H [(.str []),(.str [])] 80 0)=some (al H (cj x.1) 80 0):=iI rfl rfl rfl (by decide) rfl
  have o1:=aI H (cj x.1) 80 0
  have c1:=bg H (cj x.1) 80 0
  have n1:(al H (cj x.1) 80 0).next=H.next+1:=rfl
  have aeb:aE H [(.str []),(.str [])] 80 0=some (H.next,al H [(.str []),(.str [])] 80 0):=gk (by simp)
  generalize di:al H (cj x.1) 80 0=H1 at *
  have NG:=hK.out0 o1
  have k1:cellAt H1 kp 1=some (.map km):=NG.c.cellAt rfl
  have kx:ar H1 H.next 0 2=some (cj x.1):=c1.ar 2 0 (by rw[Cu];omega)
  have lk:=LS NG.m NG.nd x.1 false
  rw[afx hK.nd g2] at lk
  have zB:fl [(.str []),(.str []),(.int .i64 0)] [(0,2,.agg (cj x.1)),(2,1,.int .i64 x.2)]=some (lF x):=rfl
  have hf2:fl [(.str []),(.str []),(.int .i64 0)] [(0,3,.agg (lF x))]=some (lF x):=rfl
  have hL1:OL H1 82 3 ox ((ks.take i).map lF):=hL.out o1 fun j hj=>by simp
  have dL:aE H1 (lF x) 82 0=some (H1.next,al H1 (lF x) 82 0):=gk (by simp[lF])
  obtain⟨D9,H2,p1,p2,p3,p4,p5⟩:=hL1.push (fH:=82) (z:=[(.str []),(.str []),(.int .i64 0)]) (vs:=lF x) rfl rfl (by decide) (by rw[ads,aes];omega)
  have iQ:=p1 H1.next rfl
  have Ct:Out [] H0 H2:=gi (hO.trans o1) p3 hr
  have hO0:=hO.1
  obtain⟨ox2,H',i1,i2,i3,i4⟩:=Uf hn SP r (i+1) H2 D9 g1 g3 Ct (by rw[agZ,g2,adI];exact p2) (fun j hj=>(p4 j hj).elim (hr j) fun q=>by omega)
  refine⟨ox2,H',fun cH => ?_,i2,i3,i4⟩
  rw[Ui]
  simp(disch:=first|exact zqz|fail)only[L0,bI g1,q1,q4,aeb,aC,kx,k1,lk,zB,hf2,dL,iQ,afG,cond_false,es,i1,av,au,ai,aj,simprocAttr]
theorem al6 {H:Hp}{kp km:Nat}{lx:AV}{ks:List Ke}(hn:ks.length<=1000)(h:KO H kp km lx ks) :
  ∃ ox H',cK (.func (.func 32) [] []) [.ptr kp 0] H=some (ox,H')/\OL H' 82 3 ox (ks.map lF)/\Out [] H H'/\∀ j∈ak ox,H.next<=j:=by
 have k2:cellAt H kp 2=some lx:=h.c.cellAt rfl
 have hlen:=h.l.rl.len (by decide)
 rw[ads] at hlen
 obtain⟨ox,H',i1,i2,i3,i4⟩:=Uf hn h ks 0 H .ah (acD _) acI (Out.refl _ _) (by rw[aht];exact OL.nil _ _ _) (fun j hj=>by cases hj)
 rw[show (((0:Nat):Int))=0 from rfl] at i1
 refine⟨ox,H',agn ?_,i2,i3,i4⟩
 unfold Zk
 simp(disch:=first|exact zqz|fail)only[k2,hlen,i1,av,au,ai,aj,simprocAttr]
def Dj (l m:List Nat):Prop:=∀ j∈l,j∉m
theorem Dj.symm {l m:List Nat}(h:Dj l m):Dj m l:=fun j hj hl=>h j hl hj
theorem Pk {L:List (List Nat)}{k N:Nat}{l l':List Nat}(h:L.Pairwise Dj)(hk:L[k]? = some l)(hN:∀ m∈L,∀ j∈m,j<N)(hl:∀ j∈l',j∈l\/N<=j):(L.set k l').Pairwise Dj:=by
 rw[List.pairwise_iff_getElem] at h ⊢
 obtain⟨jS,kD⟩:=aah.1 hk
 have key:∀ (i:Nat) (hi:i<L.length),i≠k->Dj l' L[i]:=by
  intro i hi hik j hj hm
  rcases hl j hj with q | q
  ·rcases Nat.lt_or_gt_of_ne hik with c | c
   ·exact h i k hi jS c j hm (by rw[kD];exact q)
   ·exact h k i jS hi c j (by rw[kD];exact q) hm
  ·have:=hN _ (List.getElem_mem hi) j hm;omega
 intro i j hi hj nM
 rw[ac4] at hi hj
 rw[List.getElem_set,List.getElem_set]
 by_cases h1:k=i
 ·subst h1
  rw[if_pos rfl,if_neg (by omega)]
  exact key j hj (by omega)
 ·rw[if_neg h1]
  by_cases h2:k=j
  ·subst h2
   rw[if_pos rfl]
   exact (key i hi (by omega)).symm
  ·rw[if_neg h2]
   exact h i j hi hj nM
theorem DB {L:List (List Nat)}(h:L.Pairwise Dj){i j:Nat}(nM:i≠j){l m:List Nat}(hi:L[i]? = some l)(hj:L[j]? = some m):Dj l m:=by
 rw[List.pairwise_iff_getElem] at h
 obtain⟨a1,a2⟩:=aah.1 hi
 obtain⟨b1,b2⟩:=aah.1 hj
 subst a2;subst b2
 rcases Nat.lt_or_gt_of_ne nM with c | c
 ·exact h i j a1 b1 c
 ·exact (h j i b1 a1 c).symm
structure RA where
 dx:AV
 xs:List AV
 tx:AV
 sx:AV
def RA.fp (r:RA):List Nat:=me r.dx r.xs r.tx r.sx
structure Fm where
 ck:Int
 nms:List aq
 txs:List (aq × aq)
 az:List (Rn × aq)
 ks:List Ke
structure FA where
 tm:Nat
 kp:Nat
 km:Nat
 nx:AV
 rx:AV
 kl:AV
 ras:List RA
def dF (r:RA)(x:Rn × aq):List AV:=[r.dx,.int .i64 x.1.st,r.tx,r.sx,.str x.2]
def mu (E:List ((aq × aq) × Nat)):List ME:=E.map fun x=>⟨.str x.1.1,.str x.1.2,x.2⟩
def gV (p:Nat)(a:FA):List (List Nat):=[[p],[a.tm],[a.kp],[a.km],ak a.nx,ak a.rx,ak a.kl]
def own (p:Nat)(a:FA):List Nat:=(gV p a).flatten
def da (a:FA):List Nat:=a.ras.flatMap RA.fp
abbrev fv (a:FA)(f:Fm):List AV:=[.int .i64 f.ck,a.nx,.map a.tm,a.rx,.ptr a.kp 0]
structure FL (H:Hp)(p:Nat)(a:FA)(f:Fm):Prop where
 c:Cs H p (fv a f) 67 0
 n:Ow H 9 1 a.nx (strs f.nms)
 t:∃ bs c,bs.length=f.txs.length/\Mp H a.tm (mu (f.txs.zip bs)) c
 rM:(f.txs.map (·.1)).Nodup
 r:OL H 77 5 a.rx (List.zipWith dF a.ras f.az)
 v:∀ (i:Nat) (r:RA) (x:Rn × aq),a.ras[i]? = some r->f.az[i]? = some x->RV H r.dx r.xs r.tx r.sx x.1
 len:a.ras.length=f.az.length
 k:KO H a.kp a.km a.kl f.ks
 dj:(gV p a).Pairwise Dj
 lo:∀ j∈own p a,11<=j
 da:∀ j∈da a,j∉own p a/\j<H.next
theorem fI {p j k:Nat}{a:FA}{l:List Nat}(h:(gV p a)[k]? = some l)(hj:j∈l):j∈own p a:=agW.2 ⟨l,aao h,hj⟩
theorem FL.lt {H:Hp}{p:Nat}{a:FA}{f:Fm}(h:FL H p a f):∀ j∈own p a,j<H.next:=by
 intro j hj
 obtain⟨l,hl,hj⟩:=agW.1 hj
 obtain⟨bs,c,_,hm⟩:=h.t
 have hk:=h.k.lt
 simp only[gV,aaD,List.mem_nil_iff,or_false] at hl
 rcases hl with rfl | rfl | rfl | rfl | rfl | rfl | rfl
 ·rw[No] at hj;subst hj;exact h.c.1
 ·rw[No] at hj;subst hj;exact hm.1
 ·rw[No] at hj;subst hj;exact hk _ (.head _)
 ·rw[No] at hj;subst hj;exact hk _ (.tail _ (.head _))
 ·exact h.n.rw.lt j hj
 ·exact h.r.1.rw.lt j hj
 ·exact hk _ (.tail _ (.tail _ hj))
theorem FL.Oq {H:Hp}{p:Nat}{a:FA}{f:Fm}(h:FL H p a f):∀ m∈gV p a,∀ j∈m,j<H.next:=fun m hm j hj=>h.lt j (agW.2 ⟨m,hm,hj⟩)
theorem FB {a:FA}{i:Nat}{r:RA}(h:a.ras[i]? = some r):∀ j∈r.fp,j∈da a:=fun j hj=>agY.2 ⟨r,aao h,hj⟩
theorem FL.out {H H':Hp}{p:Nat}{a:FA}{f:Fm}{S:List Nat}(h:FL H p a f)(k:Out S H H')(hs:∀ j∈own p a,j∉S)(hi:∀ j∈DfK.da a,j∉S):FL H' p a f:=by
 obtain⟨bs,c,h1,h2⟩:=h.t
 have hk:=h.k.lt
 refine⟨h.c.out k (hs _ (fI (k:=0) rfl (.head _))),h.n.out k fun j hj=>hs _ (fI (k:=4) rfl hj),⟨bs,c,h1,h2.out k (hs _ (fI (k:=1) rfl (.head _)))⟩,h.rM,h.r.out k fun j hj=>hs _ (fI (k:=5) rfl hj),fun i r x hr hx=>(h.v i r x hr hx).out k fun j hj=>hi j (FB hr j hj),h.len,h.k.out k fun j hj => ?_,h.dj,h.lo,fun j hj=>⟨(h.da j hj).1,adm (h.da j hj).2 k.1⟩⟩
 rcases aaD.1 hj with rfl | hj
 ·exact hs _ (fI (k:=2) rfl (.head _))
 ·rcases aaD.1 hj with rfl | hj
  ·exact hs _ (fI (k:=3) rfl (.head _))
  ·exact hs _ (fI (k:=6) rfl hj)
theorem FL.out0 {H H':Hp}{p:Nat}{a:FA}{f:Fm}(h:FL H p a f)(k:Out [] H H'):FL H' p a f:=h.out k (fun _ _ q=>by cases q) fun _ _ q=>by cases q
structure FSt (H H':Hp)(p:Nat)(a a':FA):Prop where
 o:Out (own p a) H H'
 w:∀ j∈own p a',j∈own p a\/H.next<=j
 i:∀ j∈DfK.da a',j∈DfK.da a\/H.next<=j
theorem FSt.same {H H':Hp}(k:Out [] H H')(p:Nat)(a:FA):FSt H H' p a a:=⟨k.mono fun j hj=>(by cases hj),fun j hj => .inl hj,fun j hj => .inl hj⟩
theorem FSt.trans {H H' lV:Hp}{p:Nat}{a b c:FA}(h:FSt H H' p a b)(k:FSt H' lV p b c):FSt H lV p a c:=
 ⟨h.o.then k.o h.w,fun j hj=>(k.w j hj).elim (h.w j) fun q => .inr (af2 h.o.1 q),fun j hj=>(k.i j hj).elim (h.i j) fun q => .inr (af2 h.o.1 q)⟩
theorem FL.part {H H':Hp}{p:Nat}{a:FA}{f:Fm}{S:List Nat}{i:Nat}(h:FL H p a f)(k:Out S H H')(hS:(gV p a)[i]? = some S) :
  (i≠0->Cs H' p (fv a f) 67 0)/\(i≠4->Ow H' 9 1 a.nx (strs f.nms))/\(i≠1->∃ bs c,bs.length=f.txs.length/\Mp H' a.tm (mu (f.txs.zip bs)) c)/\(i≠5->OL H' 77 5 a.rx (List.zipWith dF a.ras f.az))/\
  (i≠2->i≠3->i≠6->KO H' a.kp a.km a.kl f.ks)/\(∀ (i:Nat) (r:RA) (x:Rn × aq),a.ras[i]? = some r->f.az[i]? = some x->RV H' r.dx r.xs r.tx r.sx x.1):=by
 have sep:∀ {j:Nat} {l:List Nat},i≠j->(gV p a)[j]? = some l->∀ x∈l,x∉S:=fun nM hl=>(DB h.dj nM hS hl).symm
 obtain⟨bs,c,h1,h2⟩:=h.t
 refine⟨fun hi=>h.c.out k (sep hi rfl p (.head _)),fun hi=>h.n.out k (sep hi rfl),fun hi=>⟨bs,c,h1,h2.out k (sep hi rfl a.tm (.head _))⟩,fun hi=>h.r.out k (sep hi rfl),fun i1 i2 i3=>h.k.out k fun j hj => ?_,fun m r x hr hx=>(h.v m r x hr hx).out k fun j hj q=>(h.da j (FB hr j hj)).1 (fI hS q)⟩
 rcases aaD.1 hj with rfl | hj
 ·exact sep i1 rfl _ (.head _)
 ·rcases aaD.1 hj with rfl | hj
  ·exact sep i2 rfl _ (.head _)
  ·exact sep i3 rfl _ hj
theorem FL.LU {H H':Hp}{p:Nat}{a:FA}{f:Fm}(h:FL H p a f)(hn:H.next<=H'.next):∀ j∈DfK.da a,j∉own p a/\j<H'.next:=fun j hj=>⟨(h.da j hj).1,adm (h.da j hj).2 hn⟩
theorem FL.clock {H:Hp}{p:Nat}{a:FA}{f:Fm}(h:FL H p a f)(z:Int):∃ H',st 1 (.ptr p 0) (.int .i64 z) H=some H'/\FL H' p a { f with ck:=z }/\FSt H H' p a a:=by
 obtain⟨H',s1,s2,s3,s4⟩:=fG h.c (by decide) (o:=0) (by simp) (v := .int .i64 z) rfl
 obtain⟨p0,p4,p1,p5,pk,pv⟩:=h.part s3 (i:=0) rfl
 exact⟨H',s1,⟨s2,p4 (by decide),p1 (by decide),h.rM,p5 (by decide),pv,h.len,pk (by decide) (by decide) (by decide),h.dj,h.lo,h.LU s3.1⟩,s3.mono fun j hj=>fI (k:=0) rfl hj,fun j hj => .inl hj,fun j hj => .inl hj⟩
theorem Py {p k N:Nat}{a a':FA}{l l':List Nat}(hs:gV p a'=(gV p a).set k l')(hk:(gV p a)[k]? = some l)(hl:∀ j∈l',j∈l\/N<=j):∀ j∈own p a',j∈own p a\/N<=j:=by
 intro j hj
 obtain⟨m,hm,hj⟩:=agW.1 hj
 rw[hs] at hm
 rcases agu hm with q | rfl
 ·exact .inl (agW.2 ⟨m,q,hj⟩)
 ·exact (hl j hj).imp (fun q=>fI hk q) id
theorem FL.aok {H:Hp}{p:Nat}{a:FA}{f:Fm}(h:FL H p a f)(s:aq)(hn:f.nms.length<=1000) :
  ∃ fY H1 H2,(∀ i,i=H.next->gg 9 1 [(.str [])] false a.nx (.slice i 0 1 1 true 1) (al H [.str s] 9 0)=some (fY,H1))/\st 1 (.ptr p 1) fY H1=some H2/\FL H2 p { a with nx:=fY } { f with nms:=f.nms++[s] }/\FSt H H2 p a { a with nx:=fY }/\aY fY=true:=by
 obtain⟨fY,H1,p1,p2,p3,p4,p5⟩:=uE (fH:=9) (z:=[(.str [])]) (vs:=[.str s]) h.n rfl rfl (by decide) (by rw[iZ];simp;omega)
 obtain⟨q0,q4,q1,q5,qk,qv⟩:=h.part p3 (i:=4) rfl
 obtain⟨H2,s1,s2,s3,s4⟩:=fG (q0 (by decide)) (by decide) (o:=1) (by simp) (v:=fY) p5
 have hs:gV p { a with nx:=fY }=(gV p a).set 4 (ak fY):=rfl
 have rC:(gV p { a with nx:=fY }).Pairwise Dj:=by rw[hs];exact Pk h.dj (k:=4) rfl h.Oq p4
 have sep:∀ {j:Nat} {l:List Nat},0≠j->(gV p { a with nx:=fY })[j]? = some l->∀ x∈l,x∉[p]:=fun nM hl=>(DB rC nM (i:=0) rfl hl).symm
 have hw:=Py (a:=a) (N:=H.next) hs (k:=4) rfl p4
 have hi:∀ j∈DfK.da { a with nx:=fY },j∉own p { a with nx:=fY }/\j<H2.next:=fun j hj=>⟨fun q=>(hw j q).elim (h.da j hj).1 fun z=>by have:=(h.da j hj).2;omega,by have:=(h.da j hj).2;have:=p3.1;have:=s3.1;omega⟩
 obtain⟨bs,c,t1,t2⟩:=q1 (by decide)
 have hO:Out (own p a) H H2:=(p3.mono fun j hj=>fI (k:=4) rfl hj).trans (s3.mono fun j hj=>fI (k:=0) rfl hj)
 refine⟨fY,H1,H2,p1,s1,⟨s2,?_,⟨bs,c,t1,t2.out s3 (sep (j:=1) (by decide) rfl _ (.head _))⟩,h.rM,(q5 (by decide)).out s3 (sep (j:=5) (by decide) rfl),fun i r x hr hx=>(qv i r x hr hx).out s3 fun j hj q=>(hi j (FB (a:={ a with nx:=fY }) hr j hj)).1 (fI (k:=0) rfl q),h.len,(qk (by decide) (by decide) (by decide)).out s3 fun j hj => ?_,rC,fun j hj=>(hw j hj).elim (h.lo j) fun q => ?_,hi⟩,⟨hO,hw,fun j hj => .inl hj⟩,p5⟩
 ·rw[show strs (f.nms++[s])=strs f.nms++[.str s] by rw[HW];rfl]
  exact p2.out s3 (sep (j:=4) (by decide) rfl)
 ·rcases aaD.1 hj with rfl | hj
  ·exact sep (j:=2) (by decide) rfl _ (.head _)
  ·rcases aaD.1 hj with rfl | hj
   ·exact sep (j:=3) (by decide) rfl _ (.head _)
   ·exact sep (j:=6) (by decide) rfl _ hj
 ·have:=h.lo p (fI (k:=0) rfl (.head _));have:=h.c.1;omega
theorem Kj {l:List ((aq × aq) × Nat)}{s:aq}(h:∀ x∈l,x.1.1≠s):∀ e∈mu l,∃ q,e.key = .str q/\q≠s:=by
 intro e he
 obtain⟨x,hx,rfl⟩:=acS.1 he
 exact⟨_,rfl,h x hx⟩
def jq (l:List (aq × aq))(s:aq):Option aq:=(l.find? (fun x=>x.1==s)).map (·.2)
theorem Jz {l:List (aq × aq)}{k:aq}(h:jq l k=none):∀ x∈l,x.1≠k:=by
 unfold jq at h
 rw[Option.map_eq_none_iff,List.find?_eq_none] at h
 intro x hx q
 exact h x hx (by rw[q];exact beq_self_eq_true _)
theorem Wj {l:List (aq × aq)}{k t:aq}(h:jq l k=some t):∃ a b,l=a++(k,t)::b/\∀ x∈a,x.1≠k:=by
 unfold jq at h
 rw[aaa] at h
 obtain⟨x,h1,rfl⟩:=h
 rw[List.find?_eq_some_iff_append] at h1
 obtain⟨h2,a,b,rfl,h3⟩:=h1
 have:x.1=k:=by simpa using h2
 subst this
 exact⟨a,b,rfl,fun y hy q=>by have:=h3 y hy;rw[q] at this;simp at this⟩
theorem akw {a b:List (aq × aq)}{x:aq × aq}{bs:List Nat}(h:bs.length=(a++x::b).length):∃ b1 c b2,(a++x::b).zip bs=a.zip b1++(x,c)::b.zip b2:=by
 have h1:a.length<bs.length:=by rw[h,aaX,aaL];omega
 refine⟨bs.take a.length,bs[a.length],bs.drop (a.length+1),?_⟩
 conv=>lhs;rw[show bs=bs.take a.length++bs[a.length]::bs.drop (a.length+1) by rw[List.getElem_cons_drop,ahH]]
 rw[List.zip_append (by rw[aes];omega)]
 rfl
theorem KY {l:List (aq × aq)}{bs:List Nat}{k:aq}(h:∀ x∈l,x.1≠k):∀ y∈l.zip bs,y.1.1≠k:=fun y hy=>h y.1 (List.of_mem_zip hy).1
theorem XL {H:Hp}{tm:Nat}{l:List (aq × aq)}(hm:∃ bs c,bs.length=l.length/\Mp H tm (mu (l.zip bs)) c)(gO:(l.map (·.1)).Nodup)(k:aq)(ok:Bool) :
  ue .str (.str []) ok (.map tm) (.str k) H=some (bif ok then .tuple [.str ((jq l k).getD []),.bool (jq l k).isSome] else .str ((jq l k).getD [])):=by
 obtain⟨bs,c,h1,h2⟩:=hm
 cases hg:jq l k with
 | none=>
  rw[ZX h2 (Kj (KY (bs:=bs) (Jz hg)))]
  cases ok<;>rfl
 | some t=>
  obtain⟨a,b,rfl,h3⟩:=Wj hg
  obtain⟨b1,c1,b2,h4⟩:=akw h1
  rw[h4] at h2
  have hb:∀ x∈b,x.1≠k:=by
   intro x hx q
   rw[adI,acW,aeY,ahG] at gO
   exact gO.2.1.1 (acS.2 ⟨x,hx,q⟩)
  have mh:mu (a.zip b1++((k,t),c1)::b.zip b2)=mu (a.zip b1)++⟨.str k,.str t,c1⟩::mu (b.zip b2):=by simp[mu]
  rw[mh] at h2
  rw[Yx (k:=k) h2 rfl (Kj (KY (bs:=b1) h3)) (Kj (KY (bs:=b2) hb))]
  cases ok<;>rfl
theorem FL.ah4 {H:Hp}{p:Nat}{a:FA}{f:Fm}(h:FL H p a f){s:aq}(hs:jq f.txs s=none)(t:aq) :
  ∃ H',tT .str (.map a.tm) (.str s) (.str t) H=some H'/\FL H' p a { f with txs:=f.txs++[(s,t)] }/\FSt H H' p a a:=by
 obtain⟨bs,c,t1,t2⟩:=h.t
 obtain⟨H',u1,u2,u3⟩:=YR t2 (Kj (KY (bs:=bs) (Jz hs))) (.str t)
 obtain⟨q0,q4,q1,q5,qk,qv⟩:=h.part u3 (i:=1) rfl
 refine⟨H',u1,⟨q0 (by decide),q4 (by decide),⟨bs++[c],c+1,by simp[t1],?_⟩,?_,q5 (by decide),qv,h.len,qk (by decide) (by decide) (by decide),h.dj,h.lo,h.LU u3.1⟩,u3.mono fun j hj=>fI (k:=1) rfl hj,fun j hj => .inl hj,fun j hj => .inl hj⟩
 ·rw[List.zip_append t1.symm]
  simpa[mu] using u2
 ·rw[adI,aeY]
  refine⟨h.rM,by simp,fun x hx y hy q => ?_⟩
  simp at hy
  obtain⟨z,hz,rfl⟩:=acS.1 hx
  exact Jz hs z hz (q.trans hy)
theorem OM {ras:List RA}{xs:List (Rn × aq)}{i:Nat}{r:RA}{x:Rn × aq}(h1:ras[i]? = some r)(h2:xs[i]? = some x):(List.zipWith dF ras xs)[i]? = some (dF r x):=by rw[adT,h1,h2]
theorem ajD {H:Hp}{r:RA}{x:Rn × aq}(h:RV H r.dx r.xs r.tx r.sx x.1):(dF r x).all aY=true:=by
 simp[dF,h.d.row.one,h.t.one,h.s.one,kK,C7]
theorem FL.Xv {H:Hp}{p:Nat}{a:FA}{f:Fm}(h:FL H p a f){i b o:Nat}{x:Rn × aq}(hx:f.az[i]? = some x)(np:∀ kd,ia 5 a.rx (.int kd i)=some (.ptr b o)){r':RA}{R':Rn}(hR:RV H r'.dx r'.xs r'.tx r'.sx R')(hn:∀ j∈r'.fp,j∉own p a) :
  ∃ H',st 4 (.ptr b o) (.agg (rv r'.dx R'.st r'.tx r'.sx)) H=some H'/\FL H' p { a with ras:=a.ras.set i r' } { f with az:=f.az.set i (R',x.2) }/\Out (ak a.rx) H H'/\(∀ j∈DfK.da { a with ras:=a.ras.set i r' },j∈DfK.da a\/j∈r'.fp):=by
 have br:=(aah.1 hx).1
 have hr:a.ras[i]? = some (a.ras[i]'(by rw[h.len];exact br)):=aai _
 generalize a.ras[i]'(by rw[h.len];exact br)=r at hr
 have Oi:∀ v∈rv r'.dx R'.st r'.tx r'.sx,aY v=true:=by
  intro v hv
  simp only[aaD,List.mem_nil_iff,or_false] at hv
  rcases hv with rfl | rfl | rfl | rfl
  ·exact hR.d.row.one
  ·rfl
  ·exact hR.t.one
  ·exact hR.s.one
 obtain⟨H',s1,s2,s3,s4⟩:=h.r.PI (k:=0) (vs:=rv r'.dx R'.st r'.tx r'.sx) (OM hr hx) np Oi (by simp) (by decide)
 rw[aej] at s1
 obtain⟨q0,q4,q1,q5,qk,qv⟩:=h.part s3 (i:=5) rfl
 have fh:iO (dF r x) 0 (rv r'.dx R'.st r'.tx r'.sx)=dF r' (R',x.2):=rfl
 rw[fh] at s2
 have F8:(List.zipWith dF a.ras f.az).set i (dF r' (R',x.2))=List.zipWith dF (a.ras.set i r') (f.az.set i (R',x.2)):=by
  apply ahF
  intro m
  rw[adT,af6,af6,af6,adT]
  by_cases hm:i=m
  ·subst hm
   rw[if_pos rfl,if_pos rfl,if_pos rfl,if_pos (by rw[agd];have:=h.len;omega),if_pos (by rw[h.len];exact br),if_pos br]
  ·rw[if_neg hm,if_neg hm,if_neg hm]
 rw[F8] at s2
 have Av:∀ j∈DfK.da { a with ras:=a.ras.set i r' },j∈DfK.da a\/j∈r'.fp:=by
  intro j hj
  obtain⟨m,hm,iU⟩:=agY.1 hj
  rcases agu hm with q | q
  ·exact .inl (agY.2 ⟨m,q,iU⟩)
  ·rw[q] at iU;exact .inr iU
 refine⟨H',?_,⟨q0 (by decide),q4 (by decide),q1 (by decide),h.rM,s2,?_,by rw[ac4,ac4];exact h.len,qk (by decide) (by decide) (by decide),h.dj,h.lo,fun j hj => ?_⟩,s3,Av⟩
 ·unfold st
  have:Nat.beq 4 (rv r'.dx R'.st r'.tx r'.sx).length=true:=rfl
  simp only[Ar,this,cond_true]
  exact s1
 ·intro m r2 x2 h1 h2
  simp only at h1 h2
  rw[af6] at h1 h2
  by_cases hm:i=m
  ·subst hm
   rw[if_pos rfl,if_pos (by rw[h.len];exact br)] at h1
   rw[if_pos rfl,if_pos br] at h2
   cases h1;cases h2
   exact hR.out s3 fun j hj q=>hn j hj (fI (k:=5) rfl q)
  ·rw[if_neg hm] at h1 h2
   exact qv m r2 x2 h1 h2
 ·have ki:=s3.1
  rcases Av j hj with q | q
  ·exact⟨(h.da j q).1,by have:=(h.da j q).2;omega⟩
  ·exact⟨hn j q,by have:=hR.lt j q;omega⟩
theorem FL.XU {H:Hp}{p:Nat}{a:FA}{f:Fm}(h:FL H p a f){r':RA}{x:Rn × aq}(hR:RV H r'.dx r'.xs r'.tx r'.sx x.1)(hn:∀ j∈r'.fp,j∉own p a)(hlen:f.az.length<=1000) :
  ∃ eA H1 H2,(∀ i,i=H.next->gg 77 5 [.ah,(.int .i64 0),.ah,.ah,(.str [])] false a.rx (.slice i 0 1 1 true 5) (al H (dF r' x) 77 0)=some (eA,H1))/\st 1 (.ptr p 3) eA H1=some H2/\FL H2 p { a with rx:=eA,ras:=a.ras++[r'] } { f with az:=f.az++[x] }/\Out (own p a) H H2/\(∀ j∈own p { a with rx:=eA,ras:=a.ras++[r'] },j∈own p a\/H.next<=j)/\(∀ j∈DfK.da { a with rx:=eA,ras:=a.ras++[r'] },j∈DfK.da a\/j∈r'.fp)/\aY eA=true:=by
 obtain⟨eA,H1,p1,p2,p3,p4,p5⟩:=h.r.push (fH:=77) (z:=[.ah,(.int .i64 0),.ah,.ah,(.str [])]) (vs:=dF r' x) (ajD hR) rfl (by decide) (by rw[agd];have:=h.len;omega)
 obtain⟨q0,q4,q1,q5,qk,qv⟩:=h.part p3 (i:=5) rfl
 obtain⟨H2,s1,s2,s3,s4⟩:=fG (q0 (by decide)) (by decide) (o:=3) (by simp) (v:=eA) p5
 have hs:gV p { a with rx:=eA,ras:=a.ras++[r'] }=(gV p a).set 5 (ak eA):=rfl
 have rC:(gV p { a with rx:=eA,ras:=a.ras++[r'] }).Pairwise Dj:=by rw[hs];exact Pk h.dj (k:=5) rfl h.Oq p4
 have sep:∀ {j:Nat} {l:List Nat},0≠j->(gV p { a with rx:=eA,ras:=a.ras++[r'] })[j]? = some l->∀ x∈l,x∉[p]:=fun nM hl=>(DB rC nM (i:=0) rfl hl).symm
 have hw:=Py (a:=a) (N:=H.next) hs (k:=5) rfl p4
 have Av:∀ j∈DfK.da { a with rx:=eA,ras:=a.ras++[r'] },j∈DfK.da a\/j∈r'.fp:=by
  intro j hj
  obtain⟨m,hm,iU⟩:=agY.1 hj
  rcases abL.1 hm with q | q
  ·exact .inl (agY.2 ⟨m,q,iU⟩)
  ·rw[No] at q;rw[q] at iU;exact .inr iU
 have ff:=hR.lt
 have hi:∀ j∈DfK.da { a with rx:=eA,ras:=a.ras++[r'] },j∉own p { a with rx:=eA,ras:=a.ras++[r'] }/\j<H2.next:=fun j hj=>by
  have ki:=p3.1;have aqP:=s3.1
  rcases Av j hj with q | q
  ·exact⟨fun z=>(hw j z).elim (h.da j q).1 fun y=>by have:=(h.da j q).2;omega,by have:=(h.da j q).2;omega⟩
  ·exact⟨fun z=>(hw j z).elim (hn j q) fun y=>by have:=ff j q;omega,by have:=ff j q;omega⟩
 obtain⟨bs,c,t1,t2⟩:=q1 (by decide)
 have hO:Out (own p a) H H2:=(p3.mono fun j hj=>fI (k:=5) rfl hj).trans (s3.mono fun j hj=>fI (k:=0) rfl hj)
 have F8:List.zipWith dF a.ras f.az++[dF r' x]=List.zipWith dF (a.ras++[r']) (f.az++[x]):=by rw[List.zipWith_append h.len];rfl
 rw[F8] at p2
 refine⟨eA,H1,H2,p1,s1,⟨s2,(q4 (by decide)).out s3 (sep (j:=4) (by decide) rfl),⟨bs,c,t1,t2.out s3 (sep (j:=1) (by decide) rfl _ (.head _))⟩,h.rM,p2.out s3 (sep (j:=5) (by decide) rfl),fun i r y hr hy => ?_,by simp[h.len],(qk (by decide) (by decide) (by decide)).out s3 fun j hj => ?_,rC,fun j hj=>(hw j hj).elim (h.lo j) fun q => ?_,hi⟩,hO,hw,Av,p5⟩
 ·have gN:=hi
  have key:RV H1 r.dx r.xs r.tx r.sx y.1:=by
   simp only at hr hy
   by_cases br:i<a.ras.length
   ·rw[abO br] at hr
    rw[abO (by rw[<-h.len];exact br)] at hy
    exact qv i r y hr hy
   ·rw[abT (by omega)] at hr
    rw[abT (by rw[<-h.len];omega),<-h.len] at hy
    have h0:i-a.ras.length=0:=by
     have:=(aah.1 hr).1
     simp at this;omega
    rw[h0] at hr hy
    cases hr;cases hy
    exact hR.out p3 fun j hj q=>hn j hj (fI (k:=5) rfl q)
  exact key.out s3 fun j hj q=>(hi j (FB (a:={ a with rx:=eA,ras:=a.ras++[r'] }) hr j hj)).1 (fI (k:=0) rfl q)
 ·rcases aaD.1 hj with rfl | hj
  ·exact sep (j:=2) (by decide) rfl _ (.head _)
  ·rcases aaD.1 hj with rfl | hj
   ·exact sep (j:=3) (by decide) rfl _ (.head _)
   ·exact sep (j:=6) (by decide) rfl _ hj
 ·have:=h.lo p (fI (k:=0) rfl (.head _));have:=h.c.1;omega
theorem FL.gx {H:Hp}{p:Nat}{a:FA}{f:Fm}(h:FL H p a f)(hn:f.ks.length<128){k:Ky}(hk:getK f.ks k=none)(id:Int) :
  ∃ tU H',cK (.func (.func 33) [] []) [.ptr a.kp 0,.agg (cj k),.int .i64 id] H=some (.tuple [.int .i64 id,.bool true],H')/\FL H' p { a with kl:=tU } { f with ks:=f.ks++[(k,id)] }/\FSt H H' p a { a with kl:=tU }:=by
 obtain⟨tU,H',k1,k2,k3,k4⟩:=agI h.k hn hk id
 have hS:∀ j∈zT a.kp a.km a.kl,j∈[a.kp]\/j∈[a.km]\/j∈ak a.kl:=fun j hj=>by
  rcases aaD.1 hj with rfl | hj
  ·exact .inl (.head _)
  ·rcases aaD.1 hj with rfl | hj
   ·exact .inr (.inl (.head _))
   ·exact .inr (.inr hj)
 have sep:∀ {j:Nat} {l:List Nat},j≠2->j≠3->j≠6->(gV p a)[j]? = some l->∀ x∈l,x∉zT a.kp a.km a.kl:=fun h2 h3 h6 hl x hx q=>by
  rcases hS x q with z | z | z
  ·exact DB h.dj h2 hl (j:=2) rfl x hx z
  ·exact DB h.dj h3 hl (j:=3) rfl x hx z
  ·exact DB h.dj h6 hl (j:=6) rfl x hx z
 have W3:∀ j∈zT a.kp a.km a.kl,j∈own p a:=fun j hj=>by
  rcases hS j hj with z | z | z
  ·exact fI (k:=2) rfl z
  ·exact fI (k:=3) rfl z
  ·exact fI (k:=6) rfl z
 have hs:gV p { a with kl:=tU }=(gV p a).set 6 (ak tU):=rfl
 have rC:(gV p { a with kl:=tU }).Pairwise Dj:=by rw[hs];exact Pk h.dj (k:=6) rfl h.Oq k4
 have hw:=Py (a:=a) (N:=H.next) hs (k:=6) rfl k4
 have hi:∀ j∈DfK.da { a with kl:=tU },j∉own p { a with kl:=tU }/\j<H'.next:=fun j hj=>⟨fun q=>(hw j q).elim (h.da j hj).1 fun z=>by have:=(h.da j hj).2;omega,by have:=(h.da j hj).2;have:=k3.1;omega⟩
 obtain⟨bs,c,t1,t2⟩:=h.t
 refine⟨tU,H',k1,⟨h.c.out k3 (sep (j:=0) (by decide) (by decide) (by decide) rfl _ (.head _)),h.n.out k3 (sep (j:=4) (by decide) (by decide) (by decide) rfl),⟨bs,c,t1,t2.out k3 (sep (j:=1) (by decide) (by decide) (by decide) rfl _ (.head _))⟩,h.rM,h.r.out k3 (sep (j:=5) (by decide) (by decide) (by decide) rfl),fun i r x hr hx=>(h.v i r x hr hx).out k3 fun j hj q=>(h.da j (FB hr j hj)).1 (W3 j q),h.len,k2,rC,fun j hj=>(hw j hj).elim (h.lo j) fun q => ?_,hi⟩,k3.mono W3,hw,fun j hj => .inl hj⟩
 have:=h.lo p (fI (k:=0) rfl (.head _));have:=h.c.1;omega
def aaF (n:Nat):Bool:=Nat.ble (dec n).length 4&&(dec n).all (fun b=>Nat.ble 48 b&&Nat.ble b 57)&&(match Lib.atoiAll ((dec n).map UInt8.ofNat) with | .ok v=>v==(n:Int) | _=>false)
theorem ai6:∀ n:Fin 1001,aaF n.val=true:=by decide +kernel
theorem Ap {n:Int}(h0:0<=n)(h1:n<=1000):pM (dec n)=some n.toNat/\(dec n).length<=4/\∀ b∈dec n,48<=b/\b<=57:=by
 obtain⟨m,rfl⟩:∃ m:Nat,n=m:=⟨n.toNat,by omega⟩
 have h:=ai6 ⟨m,by omega⟩
 unfold aaF at h
 simp only[aau,aer,adA] at h
 obtain⟨⟨l,d⟩,a⟩:=h
 refine⟨?_,l,fun b hb=>d b hb⟩
 unfold pM
 rw[if_pos l]
 have e:wq (dec (m:Int))=(dec (m:Int)).map UInt8.ofNat:=rfl
 rw[e]
 revert a
 cases Lib.atoiAll ((dec (m:Int)).map UInt8.ofNat) with
 | ok v=>
  intro a
  obtain rfl:v=(m:Int):=by simpa using a
  simp
 | _=>intro a;cases a
theorem ajd {s:aq}{n:Nat}(h:pM s=some n):dec (n:Int)=s:=by
 unfold pM at h
 split at h
 ·split at h
  ·split at h
   ·rename_i v _ hv
    cases h
    rw[show ((v.toNat:Nat):Int)=v by omega]
    exact hv.1
   ·cases h
  ·cases h
 ·cases h
theorem ab0 {p:Nat->Bool}:∀ {l:aq},l.dropWhile p=[]->∀ b∈l,p b=true
 | [],_,b,hb=>by cases hb
 | a::l,h,b,hb=>by
  rw[List.dropWhile_cons] at h
  split at h
  ·rename_i ha
   rcases aaD.1 hb with rfl | hb
   ·exact ha
   ·exact ab0 h b hb
  ·cases h
theorem ajF {s c:aq}(h:yB s c=[]):∀ b∈s,b∈c:=by
 rw[S5] at h
 replace h:=ab0 h
 intro b hb
 have su:b∈s.reverse:=List.mem_reverse.2 hb
 rw[<-List.takeWhile_append_dropWhile (p:=(c.contains ·)) (l:=s.reverse),abL] at su
 rcases su with q | q
 ·have:=adA.1 (List.all_takeWhile (p:=(c.contains ·)) (l:=s.reverse)) b q
  simpa using this
 ·have:=h b (List.mem_reverse.2 q)
  simpa using this
theorem PR {s:aq}(h:tX s=true):s≠[]/\s.length<=16/\∀ b∈s,b∈qc:=by
 unfold tX at h
 simp only[aau,aix,beq_eq_false_iff_ne,decide_eq_true_eq,beq_iff_eq] at h
 exact⟨h.1,by omega,ajF h.2.2⟩
theorem Yk:∀ b∈qc,b≠32/\b≠44/\b≠59/\b≠61/\b<256:=by decide
theorem ao1:∀ b:Nat,48<=b->b<=57->b∈qc:=by
 intro b h1 h2
 have:∀ k:Fin 10,48+k.val∈qc:=by decide
 have:=this ⟨b-48,by omega⟩
 simpa[show 48+(b-48)=b by omega] using this
def jb (ts:List Tk)(a:Int):aq:=(names ts).getD a.toNat []
def ik (ts:List Tk):Bool->List Int->aq
 | _,[]=>[]
 | f,a::r=>((if f then [32,97,102,116,101,114,61] else [44])++jb ts a)++ik ts false r
def iT (key:aq)(n p:Int):aq:=if n=p then [] else key++dec n
def eJ (ts:List Tk)(t:Tk):aq:=
 ((t.name++ik ts true t.after)++((iT [32,114,101,116,114,121,61] t.retry 0++iT [32,119,97,105,116,61] t.wait 10)++iT [32,98,97,115,101,61] t.base 1))++(if t.on=[] then [] else [32,111,110,61]++t.on)
noncomputable def oZ (ts:List Tk):aq:=if iY ts=0 then jm 59 (ts.map (eJ ts)) else []
def yq (k v:aq):aq:=k++61::v
def jC (c:Prop) [Decidable c] (k v:aq):List aq:=if c then [] else [yq k v]
def y0 (ts:List Tk)(t:Tk):List aq:=t.name::(jC (t.after=[]) wu (jm 44 (t.after.map (jb ts)))++(jC (t.retry=0) xQ (dec t.retry)++(jC (t.wait=10) vd (dec t.wait)++(jC (t.base=1) ur (dec t.base)++jC (t.on=[]) sC t.on))))
theorem I1 (c:Nat):∀ (l:List aq) (a:aq),jm c (a::l)=a++l.flatMap (fun s=>c::s)
 | [],a=>by simp[jm]
 | b::l,a=>by
  show a++c::jm c (b::l)=_
  rw[I1 c l b];simp
theorem abz (c:Nat):∀ (l:List aq),l≠[]->(jm c l).length+1=cN l+l.length
 | [],h=>absurd rfl h
 | [a],_=>by simp[jm,cN]
 | a::b::l,_=>by
  have:=abz c (b::l) (by simp)
  show (a++c::jm c (b::l)).length+1=_
  simp[cN] at this ⊢
  omega
theorem MS {c b:Nat}:∀ {l:List aq},b∈jm c l->b=c\/∃ s∈l,b∈s
 | [],h=>by cases h
 | [a],h => .inr ⟨a,.head _,h⟩
 | a::d::l,h=>by
  have h:b∈a++c::jm c (d::l):=h
  rw[abL,aaD] at h
  rcases h with h | h | h
  ·exact .inr ⟨a,.head _,h⟩
  ·exact .inl h
  ·exact (MS h).imp id fun⟨s,hs,hb⟩=>⟨s,.tail _ hs,hb⟩
theorem Ri (ts:List Tk):∀ l,ik ts false l=(l.map (jb ts)).flatMap (fun s=>44::s)
 | []=>rfl
 | a::r=>by simp[ik,Ri ts r]
theorem VO (ts:List Tk)(a:Int)(r:List Int):ik ts true (a::r)=32::(wu++61::jm 44 ((a::r).map (jb ts))):=by
 rw[acW,I1,<-Ri]
 simp[ik]
theorem Uq (ts:List Tk)(t:Tk):eJ ts t=jm 32 (y0 ts t):=by
 have h1:ik ts true t.after=(jC (t.after=[]) wu (jm 44 (t.after.map (jb ts)))).flatMap (fun s=>32::s):=by
  unfold jC yq
  cases h:t.after with
  | nil=>rfl
  | cons a r=>rw[VO];simp
 have h2:∀ (k v:aq) (n p:Int),v=dec n->iT (32::(k++[61])) n p=(jC (n=p) k v).flatMap (fun s=>32::s):=by
  intro k v n p hv
  subst hv
  unfold iT jC yq
  split<;>simp
 have h3:(if t.on=[] then [] else [32,111,110,61]++t.on)=(jC (t.on=[]) sC t.on).flatMap (fun s=>32::s):=by
  unfold jC yq
  split<;>simp
 have a:=h2 xQ _ t.retry 0 rfl
 have b:=h2 vd _ t.wait 10 rfl
 have c:=h2 ur _ t.base 1 rfl
 unfold eJ y0
 rw[I1,List.flatMap_append,List.flatMap_append,List.flatMap_append,List.flatMap_append,<-h1,<-h3,<-a,<-b,<-c]
 simp only[aeR,List.cons_append,ahO]
theorem ajI {c:Nat}{a:aq}(r:aq)(h:c∉a):cut c (a++c::r)=(a,r,true):=by
 unfold cut
 rw[Tv r 0 h,adG]
 simp only
 rw[List.take_left',List.drop_append]
 ·simp
 ·rfl
theorem acf:∀ j i:Fin 5,i.val<=j.val->∃ k,jZ[j.val]? = some k/\61∉k/\(jZ.drop i.val).findIdx? (fun a=>k==a)=some (j.val-i.val):=by
 intro j i h
 have:∀ j i:Fin 5,i.val<=j.val->61∉jZ[j.val]! /\ (jZ.drop i.val).findIdx? (fun a=>jZ[j.val]! == a)=some (j.val-i.val):=by decide
 refine⟨jZ[j.val]!,?_,this j i h⟩
 have h5:∀ j:Fin 5,jZ[j.val]? = some jZ[j.val]! := by decide
 exact h5 j
theorem aij {nms r:List aq}{t:Tk}{i j:Nat}{k v:aq}(hk:jZ[j]? = some k)(hi:i<=j):lQ nms (yq k v::r) t (jZ.drop i)=match iV t k v nms with | none=>none | some t'=>lQ nms r t' (jZ.drop (j+1)):=by
 have hj:j<5:=(aah.1 hk).1
 obtain⟨k',h1,h2,h3⟩:=acf ⟨j,hj⟩ ⟨i,by omega⟩ hi
 rw[hk] at h1
 cases h1
 have hc:=ajI v h2
 rw[lQ]
 unfold yq
 rw[hc]
 simp only
 simp only at h3
 rw[h3]
 simp only
 rw[if_neg (by simp),List.drop_drop]
 rw[show i+(j-i+1)=j+1 by omega]
 try (cases iV t k v nms<;>rfl)
theorem Ek {nms r:List aq}{t t':Tk}{i j:Nat}{k v:aq}{c:Prop} [Decidable c] (hk:jZ[j]? = some k) (hi:i<=j) (h1:c->t'=t) (h2:¬ c->iV t k v nms=some t') :
  ∃ i',i'<=j+1/\lQ nms (jC c k v++r) t (jZ.drop i)=lQ nms r t' (jZ.drop i'):=by
 by_cases hc:c
 ·refine⟨i,by omega,?_⟩
  rw[h1 hc];unfold jC;rw[if_pos hc];rfl
 ·refine⟨j+1,aaC _,?_⟩
  unfold jC;rw[if_neg hc]
  show lQ nms (yq k v::r) t _=_
  rw[aij hk hi,h2 hc]
theorem W0:∀ {l:List aq} {i:Nat} {s:aq},l.Nodup->l[i]? = some s->l.findIdx? (fun a=>s==a)=some i
 | [],i,s,_,h=>by simp at h
 | a::l,0,s,hn,h=>by
  simp only[adg,acV] at h
  subst h
  simp[ahv]
 | a::l,i+1,s,hn,h=>by
  simp only[ac1] at h
  rw[ahG] at hn
  have aO:(s==a)=false:=by
   rw[beq_eq_false_iff_ne];intro e;subst e
   exact hn.1 (aao h)
  rw[ahv,aO,W0 hn.2 h];rfl
theorem EH {ts:List Tk}{a:Int}(h0:0<=a)(h1:a<=(ts.length:Int)-1):(names ts)[a.toNat]? = some (jb ts a)/\jb ts a∈names ts:=by
 have hl:a.toNat<(names ts).length:=by unfold names;rw[ads];omega
 have:(names ts)[a.toNat]? = some (jb ts a):=by
  unfold jb
  rw[agp,aai hl];rfl
 exact⟨this,aao this⟩
theorem aa0 {ts:List Tk}(hn:(names ts).Nodup):∀ {l:List Int},(∀ a∈l,0<=a/\a<=(ts.length:Int)-1)->sr (names ts) (l.map (jb ts))=some l
 | [],_=>rfl
 | a::l,h=>by
  obtain⟨a0,a1⟩:=h a (.head _)
  show sr (names ts) (jb ts a::l.map (jb ts))=_
  rw[sr,W0 hn (EH a0 a1).1]
  simp only
  rw[aa0 hn fun b hb=>h b (.tail _ hb)]
  show some ((a.toNat:Int)::l)=_
  rw[show ((a.toNat:Nat):Int)=a by omega]
structure Fit (ts:List Tk):Prop where
 nd:(names ts).Nodup
 nm:∀ s∈names ts,s≠[]/\s.length<=16/\∀ b∈s,b∈qc
 jn:∀ t∈ts,(∀ a∈t.after,0<=a/\a<=(ts.length:Int)-1)/\t.after.length<=16
 num:∀ t∈ts,0<=t.retry/\t.retry<=8/\1<=t.wait/\t.wait<=1000/\1<=t.base/\t.base<=1000
 on:∀ t∈ts,t.on=[]\/(t.on.length<=16/\∀ b∈t.on,b∈qc)
theorem Fit.ad5 {ts:List Tk}(h:Fit ts){s:aq}(hs:s∈names ts):44∉s:=fun q=>(Yk 44 ((h.nm s hs).2.2 44 q)).2.1 rfl
theorem acQ {ts:List Tk}(hF:Fit ts){t:Tk}(ht:t∈ts):uB (names ts) (y0 ts t)=some t:=by
 obtain⟨n1,n2,n3,n4,n5,n6⟩:=hF.num t ht
 obtain⟨a1,a2⟩:=hF.jn t ht
 have hm:∀ s∈t.after.map (jb ts),s∈names ts:=fun s hs=>by
  obtain⟨a,ha,rfl⟩:=acS.1 hs
  exact (EH (a1 a ha).1 (a1 a ha).2).2
 unfold uB y0
 show lQ (names ts) _ ⟨t.name,[],0,10,1,[]⟩ (jZ.drop 0)=_
 obtain⟨i1,l1,e1⟩:=Ek (nms:=names ts) (r:=jC (t.retry=0) xQ (dec t.retry)++(jC (t.wait=10) vd (dec t.wait)++(jC (t.base=1) ur (dec t.base)++jC (t.on=[]) sC t.on))) (t:=⟨t.name,[],0,10,1,[]⟩) (t':=⟨t.name,t.after,0,10,1,[]⟩) (i:=0) (j:=0) (k:=wu) (v:=jm 44 (t.after.map (jb ts))) (c:=t.after=[]) rfl (aaC _) (fun h=>by rw[h]) fun h=>by
  unfold iV
  rw[if_pos rfl,KR (by simpa using h) fun s hs=>hF.ad5 (hm s hs),aa0 hF.nd a1];rfl
 obtain⟨i2,l2,e2⟩:=Ek (nms:=names ts) (r:=jC (t.wait=10) vd (dec t.wait)++(jC (t.base=1) ur (dec t.base)++jC (t.on=[]) sC t.on)) (t:=⟨t.name,t.after,0,10,1,[]⟩) (t':=⟨t.name,t.after,t.retry,10,1,[]⟩) (i:=i1) (j:=1) (k:=xQ) (v:=dec t.retry) (c:=t.retry=0) rfl l1 (fun h=>by rw[h]) fun h=>by
  unfold iV
  rw[if_neg (by decide),if_pos rfl,(Ap n1 (by omega)).1]
  have e:((t.retry.toNat:Nat):Int)=t.retry:=by omega
  simp only[aee,e]
 obtain⟨i3,l3,e3⟩:=Ek (nms:=names ts) (r:=jC (t.base=1) ur (dec t.base)++jC (t.on=[]) sC t.on) (t:=⟨t.name,t.after,t.retry,10,1,[]⟩) (t':=⟨t.name,t.after,t.retry,t.wait,1,[]⟩) (i:=i2) (j:=2) (k:=vd) (v:=dec t.wait) (c:=t.wait=10) rfl l2 (fun h=>by rw[h]) fun h=>by
  unfold iV
  rw[if_neg (by decide),if_neg (by decide),if_pos rfl,(Ap (by omega) n4).1]
  have e:((t.wait.toNat:Nat):Int)=t.wait:=by omega
  simp only[aee,e]
 obtain⟨i4,l4,e4⟩:=Ek (nms:=names ts) (r:=jC (t.on=[]) sC t.on) (t:=⟨t.name,t.after,t.retry,t.wait,1,[]⟩) (t':=⟨t.name,t.after,t.retry,t.wait,t.base,[]⟩) (i:=i3) (j:=3) (k:=ur) (v:=dec t.base) (c:=t.base=1) rfl l3 (fun h=>by rw[h]) fun h=>by
  unfold iV
  rw[if_neg (by decide),if_neg (by decide),if_neg (by decide),if_pos rfl,(Ap (by omega) n6).1]
  have e:((t.base.toNat:Nat):Int)=t.base:=by omega
  simp only[aee,e]
 obtain⟨i5,l5,e5⟩:=Ek (nms:=names ts) (r:=[]) (t:=⟨t.name,t.after,t.retry,t.wait,t.base,[]⟩) (t':=t) (i:=i4) (j:=4) (k:=sC) (v:=t.on) (c:=t.on=[]) rfl l4 (fun h=>by rw[<-h]) fun h=>by
  unfold iV
  rw[if_neg (by decide),if_neg (by decide),if_neg (by decide),if_neg (by decide),if_pos rfl,if_neg h]
 rw[ag8] at e5
 rw[List.tail_cons,e1,e2,e3,e4,e5,lQ]
theorem V6 {ts:List Tk}(hF:Fit ts){t:Tk}(ht:t∈ts):∀ s∈y0 ts t,∀ b∈s,b∈qc\/b=44\/b=61:=by
 obtain⟨n1,n2,n3,n4,n5,n6⟩:=hF.num t ht
 obtain⟨a1,a2⟩:=hF.jn t ht
 have aT:∀ (c:Prop) [Decidable c] (k v:aq),(∀ b∈k,b∈qc)->(¬ c->∀ b∈v,b∈qc\/b=44)->∀ s∈jC c k v,∀ b∈s,b∈qc\/b=44\/b=61:=by
  intro c _ k v hk hv s hs b hb
  unfold jC at hs
  split at hs
  ·cases hs
  ·rename_i hc
   rw[No] at hs
   subst hs
   unfold yq at hb
   rw[abL,aaD] at hb
   rcases hb with hb | hb | hb
   ·exact .inl (hk b hb)
   ·exact .inr (.inr hb)
   ·exact (hv hc b hb).imp id .inl
 have OG:∀ n:Int,0<=n->n<=1000->∀ b∈dec n,b∈qc\/b=44:=fun n h0 h1 b hb=>by
  obtain⟨x,y⟩:=(Ap h0 h1).2.2 b hb
  exact .inl (ao1 b x y)
 intro s hs
 unfold y0 at hs
 simp only[aaD,abL] at hs
 rcases hs with rfl | hs | hs | hs | hs | hs
 ·intro b hb
  exact .inl ((hF.nm _ (acS.2 ⟨t,ht,rfl⟩)).2.2 b hb)
 ·refine aT _ _ _ (by decide) (fun _ b hb => ?_) s hs
  rcases MS hb with rfl | ⟨u,hu,hb⟩
  ·exact .inr rfl
  ·obtain⟨a,ha,rfl⟩:=acS.1 hu
   exact .inl ((hF.nm _ (EH (a1 a ha).1 (a1 a ha).2).2).2.2 b hb)
 ·exact aT _ _ _ (by decide) (fun _=>OG _ n1 (by omega)) s hs
 ·exact aT _ _ _ (by decide) (fun _=>OG _ (by omega) n4) s hs
 ·exact aT _ _ _ (by decide) (fun _=>OG _ (by omega) n6) s hs
 ·refine aT _ _ _ (by decide) (fun hc b hb => ?_) s hs
  rcases hF.on t ht with q | q
  ·exact absurd q hc
  ·exact .inl (q.2 b hb)
theorem okB {b:Nat}(h:b∈qc\/b=44\/b=61):b≠32/\b≠59/\b<256:=by
 rcases h with h | rfl | rfl
 ·have:=Yk b h;omega
 ·decide
 ·decide
theorem YX {ts:List Tk}(hF:Fit ts){t:Tk}(ht:t∈ts):∀ b∈eJ ts t,b≠59/\b<256:=by
 intro b hb
 rw[Uq] at hb
 rcases MS hb with rfl | ⟨s,hs,hb⟩
 ·decide
 ·have:=okB (V6 hF ht s hs b hb);omega
theorem aan {ts:List Tk}(hF:Fit ts){t:Tk}(ht:t∈ts):jJ (eJ ts t)=y0 ts t:=by
 unfold jJ
 rw[Uq]
 exact KR (by unfold y0;simp) fun s hs q=>(okB (V6 hF ht s hs 32 q)).1 rfl
theorem WI {ts:List Tk}(hF:Fit ts):∀ {us:List Tk},(∀ t∈us,t∈ts)->nC (names ts) (us.map (eJ ts))=some us
 | [],_=>rfl
 | u::us,h=>by
  show nC (names ts) (eJ ts u::us.map (eJ ts))=_
  rw[nC,aan hF (h u (.head _)),acQ hF (h u (.head _)),WI hF fun t ht=>h t (.tail _ ht)];rfl
theorem amL {ts:List Tk}(h:(List.range ts.length).any (dup ts)=false):(names ts).Nodup:=by
 rw[ahM] at h
 have key:∀ k,k<=ts.length->(names (ts.take k)).Nodup:=by
  intro k
  induction k with
  | zero=>intro _;rw[aht];exact aiB
  | succ k ih=>
   intro hk
   have hg:ts[k]? = some (ts[k]'(by omega)):=aai (by omega)
   have h1:=h k (aiA.2 (by omega))
   unfold dup at h1
   rw[hg] at h1
   rw[agZ,hg]
   have h2:((names (ts.take k)).any fun s=>s==(ts[k]'(by omega)).name)=false:=by
    simp only at h1
    rwa[agk] at h1
   rw[ahM] at h2
   unfold names at ih h2 ⊢
   rw[adI,aeY]
   refine⟨ih (by omega),by simp,fun a ha b hb e => ?_⟩
   simp only[Option.toList_some,acW,List.map_nil,No] at hb
   subst hb
   exact h2 a ha (by simp[e])
 have:=key ts.length (aaC _)
 rwa[List.take_length] at this
theorem ali {ts:List Tk}(h:iY ts=0)(dm:∀ t∈ts,t.after.length<=16):Fit ts/\1<=ts.length/\ts.length<=16:=by
 unfold iY at h
 split at h
 ·cases h
 ·rename_i h1
  split at h
  ·cases h
  ·rename_i h2
   split at h
   ·cases h
   ·rename_i h6
    split at h
    ·cases h
    ·rename_i h3
     split at h
     ·cases h
     ·rename_i h4
      have h1:=ahk.1 h1
      have ha:=Km (by simpa using h4)
      rw[agk,ahM] at h2 h3
      have hq:∀ t∈ts,vM t=false/\sO t=false/\∀ a∈t.after,0<=a/\a<=(ts.length:Int)-1:=fun t ht=>by
       obtain⟨i,hi⟩:=adi ht
       have br:=(aah.1 hi).1
       have a:=h2 i (aiA.2 br)
       have b:=h3 i (aiA.2 br)
       unfold p1 at a
       unfold p3 at b
       rw[hi] at a b
       exact⟨by simpa using a,by simpa using b,fun a X3=>⟨((yF ha hi).1 a X3).1,((yF ha hi).1 a X3).2.1⟩⟩
      refine⟨⟨amL (by simpa using h6),fun s hs => ?_,fun t ht=>⟨(hq t ht).2.2,dm t ht⟩,fun t ht => ?_,fun t ht => ?_⟩,h1⟩
      ·obtain⟨t,ht,rfl⟩:=acS.1 hs
       have:=(hq t ht).1
       unfold vM at this
       rw[aid] at this
       exact PR (by simpa using this.1)
      ·have:=(hq t ht).2.1
       unfold sO at this
       simp only[aid,Bool.not_eq_false',aau,decide_eq_true_eq] at this
       omega
      ·have:=(hq t ht).1
       unfold vM at this
       rw[aid,Bool.and_eq_false_iff] at this
       rcases this.2 with q | q
       ·exact .inl (by simpa using q)
       ·exact .inr (PR (by simpa using q)).2
theorem VQ {ts:List Tk}:∀ {r:List aq} {l:List Int},sr (names ts) r=some l->l.map (jb ts)=r
 | [],l,h=>by cases h;rfl
 | s::r,l,h=>by
  unfold sr at h
  split at h
  ·rename_i i hi
   rw[aaa] at h
   obtain⟨l',h1,rfl⟩:=h
   rw[acW,VQ h1]
   have hs:jb ts (i:Int)=s:=by
    rw[List.findIdx?_eq_some_iff_getElem] at hi
    obtain⟨h2,h3,_⟩:=hi
    have h4:(names ts)[i]=s:=by simpa using (beq_iff_eq.1 h3).symm
    unfold jb
    rw[acr,agp,aai h2,h4];rfl
   rw[hs]
  ·cases h
theorem ahB (ts:List Tk):∀ (l:List Int),l≠[]->(ik ts true l).length=7+(jm 44 (l.map (jb ts))).length/\(ik ts false l).length=1+(jm 44 (l.map (jb ts))).length
 | [],h=>absurd rfl h
 | a::r,_=>by
  constructor
  ·rw[VO];simp;omega
  ·rw[Ri,acW,I1,List.flatMap_cons];simp;omega
theorem ZT (ts:List Tk):∀ (l m:List Int) (f:Bool),(ik ts f (l++m)).length=(ik ts f l).length+(ik ts (f&&l.isEmpty) m).length
 | [],m,f=>by simp[ik]
 | a::l,m,f=>by
  have:=ZT ts l m false
  simp[ik] at this ⊢
  omega
theorem ah6 {ts:List Tk}{t t':Tk}{k v:aq}(h:iV t k v (names ts)=some t'):(eJ ts t').length<=(eJ ts t).length+k.length+v.length+2/\t'.name=t.name:=by
 have told:∀ (key:aq) (n p q:Int),(iT key n p).length<=(iT key q p).length+key.length+(dec n).length:=by
  intro key n p q
  unfold iT
  split<;>split<;>simp<;>omega
 have uD:∀ {n:Nat},pM v=some n->(dec (n:Int)).length=v.length:=fun h=>by rw[ajd h]
 unfold iV at h
 split at h
 ·rename_i hk
  subst hk
  rw[aaa] at h
  obtain⟨l,h1,rfl⟩:=h
  have h2:=VQ h1
  have hl:l≠[]:=by
   intro e;subst e
   exact wT 44 v h2.symm
  have h3:=ahB ts l hl
  rw[h2,abh] at h3
  have h4:=ZT ts t.after l true
  refine⟨?_,rfl⟩
  unfold eJ
  simp only[aaX] at h4 ⊢
  have h5:(ik ts (true&&t.after.isEmpty) l).length<=7+v.length:=by
   cases (true&&t.after.isEmpty)
   ·rw[h3.2];omega
   ·rw[h3.1];omega
  show _<=_+5+_+2
  omega
 ·split at h
  ·rename_i _ hk
   subst hk
   rw[aaa] at h
   obtain⟨n,h1,rfl⟩:=h
   refine⟨?_,rfl⟩
   have a:=told [32,114,101,116,114,121,61] (n:Int) 0 t.retry
   have b:=uD h1
   unfold eJ
   simp only[aaX,aaL,acG] at a ⊢
   omega
  ·split at h
   ·rename_i _ _ hk
    subst hk
    rw[aaa] at h
    obtain⟨n,h1,rfl⟩:=h
    refine⟨?_,rfl⟩
    have a:=told [32,119,97,105,116,61] (n:Int) 10 t.wait
    have b:=uD h1
    unfold eJ
    simp only[aaX,aaL,acG] at a ⊢
    omega
   ·split at h
    ·rename_i _ _ _ hk
     subst hk
     rw[aaa] at h
     obtain⟨n,h1,rfl⟩:=h
     refine⟨?_,rfl⟩
     have a:=told [32,98,97,115,101,61] (n:Int) 1 t.base
     have b:=uD h1
     unfold eJ
     simp only[aaX,aaL,acG] at a ⊢
     omega
    ·split at h
     ·rename_i _ _ _ _ hk
      subst hk
      split at h
      ·cases h
      ·rename_i hv
       cases h
       refine⟨?_,rfl⟩
       unfold eJ
       simp only[if_neg hv,aaX,aaL,acG]
       omega
     ·rw[aaa] at h
      obtain⟨n,h1,rfl⟩:=h
      exact⟨by omega,rfl⟩
theorem agC {c:Nat}{s:aq}(h:(cut c s).1.length≠s.length):s.length=(cut c s).1.length+1+(cut c s).2.1.length:=by
 unfold cut at h ⊢
 cases hi:jx c s 0 with
 | none=>rw[hi] at h;exact absurd rfl h
 | some i=>
  obtain⟨a,r,rfl,h2,h3⟩:=Fc hi
  rw[adG] at h2
  subst h2
  simp
  omega
theorem Z3 {ts:List Tk}:∀ {r:List aq} {t t':Tk} {ks:List aq},lQ (names ts) r t ks=some t'->(eJ ts t').length<=(eJ ts t).length+cN r+r.length/\t'.name=t.name
 | [],t,t',ks,h=>by cases h;exact⟨by simp,rfl⟩
 | s::r,t,t',ks,h=>by
  unfold lQ at h
  split at h
  ·cases h
  ·split at h
   ·cases h
   ·rename_i aO
    split at h
    ·cases h
    ·rename_i t1 h1
     obtain⟨a1,a2⟩:=ah6 h1
     obtain⟨b1,b2⟩:=Z3 h
     have:=agC aO
     have hs:cN (s::r)=s.length+cN r:=by simp[cN]
     refine⟨?_,b2.trans a2⟩
     rw[hs];simp only[aaL];omega
theorem aoe {ts:List Tk}{p:aq}{t:Tk}(h:uB (names ts) (jJ p)=some t):(eJ ts t).length<=p.length:=by
 unfold uB at h
 obtain⟨h1,h2⟩:=Z3 h
 have h3:cN (jJ p)+(jJ p).length=p.length+1:=Cx 32 p
 have aO:jJ p≠[]:=wT 32 p
 cases hw:jJ p with
 | nil=>exact absurd hw aO
 | cons a b=>
  rw[hw] at h1 h3
  have e:eJ ts ⟨(a::b).headD [],[],0,10,1,[]⟩=a:=by simp[eJ,ik,iT]
  rw[e] at h1
  have hs:cN (a::b)=a.length+cN b:=by simp[cN]
  rw[hs] at h3
  simp only[List.tail_cons,aaL] at h1 h3
  omega
theorem aaA {nms:List aq}:∀ {r:List aq} {t t':Tk} {ks:List aq},lQ nms r t ks=some t'->t'.name=t.name
 | [],t,t',ks,h=>by cases h;rfl
 | s::r,t,t',ks,h=>by
  unfold lQ at h
  split at h
  ·cases h
  ·split at h
   ·cases h
   ·split at h
    ·cases h
    ·rename_i t1 h1
     rw[aaA h]
     unfold iV at h1
     split at h1
     ·rw[aaa] at h1;obtain⟨m,_,rfl⟩:=h1;rfl
     ·split at h1
      ·rw[aaa] at h1;obtain⟨m,_,rfl⟩:=h1;rfl
      ·split at h1
       ·rw[aaa] at h1;obtain⟨m,_,rfl⟩:=h1;rfl
       ·split at h1
        ·rw[aaa] at h1;obtain⟨m,_,rfl⟩:=h1;rfl
        ·split at h1
         ·split at h1
          ·cases h1
          ·cases h1;rfl
         ·rw[aaa] at h1;obtain⟨m,_,rfl⟩:=h1;rfl
theorem Xj {nms:List aq}:∀ {r:List aq} {ts:List Tk},nC nms r=some ts->names ts=r.map nV
 | [],ts,h=>by cases h;rfl
 | s::r,ts,h=>by
  unfold nC at h
  split at h
  ·cases h
  ·rename_i t ht
   rw[aaa] at h
   obtain⟨l,h1,rfl⟩:=h
   have h2:=Xj h1
   unfold uB at ht
   have h3:=aaA ht
   unfold names at h2 ⊢
   rw[acW,acW,h2,h3]
theorem aa4 {ts:List Tk}:∀ {r:List aq} {us:List Tk},nC (names ts) r=some us->cN (us.map (eJ ts))<=cN r/\us.length=r.length
 | [],us,h=>by cases h;exact⟨aaC _,rfl⟩
 | s::r,us,h=>by
  unfold nC at h
  split at h
  ·cases h
  ·rename_i t ht
   rw[aaa] at h
   obtain⟨l,h1,rfl⟩:=h
   obtain⟨a,b⟩:=aa4 h1
   have c:=aoe ht
   simp only[cN,acW,aiv,aaL] at a b c ⊢
   omega
theorem Yg {ts:List Tk}(hn:ts.length<=16)(ha:uY ts):∀ t∈ts,t.after.length<=16:=fun t ht=>by
 obtain⟨i,hi⟩:=adi ht
 obtain⟨x1,x2⟩:=yF ha hi
 have:=Jd (n:=ts.length) (fun a h=>⟨(x1 a h).1,(x1 a h).2.1⟩) x2
 omega
theorem To {text:aq}(h:(aK text).2=0):iY (aK text).1=0/\Fit (aK text).1/\1<=(aK text).1.length/\(aK text).1.length<=16/\(oZ (aK text).1).length<=text.length/\text.length<=1024/\aK (oZ (aK text).1)=((aK text).1,0):=by
 obtain⟨g1,g2,g3,g4,g5,g6⟩:=L9 h
 have dm:=Yg g3 g4
 obtain⟨hF,f1,f2⟩:=ali g1 dm
 have hb:¬ 1024<text.length:=fun hb=>by unfold aK at h;rw[if_pos hb] at h;cases h
 have qL:nC ((cq 59 text).map nV) (cq 59 text)=some (aK text).1:=by
  unfold aK at h ⊢
  rw[if_neg hb] at h ⊢
  cases hq:nC ((cq 59 text).map nV) (cq 59 text) with
  | none=>rw[hq] at h;cases h
  | some ts=>
   rw[hq] at h
   simp only at h ⊢
   by_cases h0:iY ts=0
   ·rw[if_pos h0]
   ·rw[if_neg h0] at h;exact absurd h h0
 generalize (aK text).1=ts at *
 have PV:=Xj qL
 rw[<-PV] at qL
 obtain⟨s1,s2⟩:=aa4 qL
 have mh:=Cx 59 text
 have aO:ts.map (eJ ts)≠[]:=by
  intro e
  have:(ts.map (eJ ts)).length=0:=by rw[e];rfl
  rw[ads] at this;omega
 have pV:=abz 59 _ aO
 rw[ads] at pV
 have mS:oZ ts=jm 59 (ts.map (eJ ts)):=by unfold oZ;rw[if_pos g1]
 have hlen:(oZ ts).length<=text.length:=by rw[mS];omega
 refine⟨g1,hF,f1,f2,hlen,by omega,?_⟩
 have ai2:cq 59 (oZ ts)=ts.map (eJ ts):=by
  rw[mS]
  refine KR aO fun p hp q => ?_
  obtain⟨t,ht,rfl⟩:=acS.1 hp
  exact (YX hF ht 59 q).1 rfl
 have al8:(ts.map (eJ ts)).map nV=names ts:=by
  rw[ajf]
  unfold names
  refine List.map_congr_left fun t ht => ?_
  show nV (eJ ts t)=t.name
  unfold nV
  rw[aan hF ht];rfl
 unfold aK
 rw[if_neg (by omega),ai2,al8,WI hF fun t ht=>ht]
 simp only
 rw[if_pos g1]
theorem Vr (k:IntKind)(a:Int):same (.int k a) (.int k a)=true:=by cases k<;>simp[same,oz]
theorem OV {key:aq}{n p:Int}(hk:key.length<=100)(h0:0<=n)(h1:n<=1000){H:Hp}(hg:Gl H):∃ H',cK (.func (.func 92) [] []) [.str key,.int .i64 n,.int .i64 p] H=some (.str (iT key n p),H')/\Out [] H H':=by
 by_cases he:n=p
 ·have d:(n==p)=true:=beq_iff_eq.2 he
  refine⟨H,abd ?_,Out.refl _ _⟩
  unfold Od iT
  simp only[d,if_pos he,ai,aj,Int.reduceBEq,Int.reduceBNe,Int.reduceLT,Int.reduceLE,Int.reduceGT,Int.reduceGE,Int.reduceNeg]
 ·have d:(n==p)=false:=beq_eq_false_iff_ne.2 he
  obtain⟨H',i1,i2⟩:=Eo (n:=n) (by omega) (by omega) hg
  have hl:=(Ap h0 h1).2.1
  have hs:=tR (a:=key) (b:=dec n) (by omega)
  refine⟨H',abd ?_,i2⟩
  unfold Od iT
  simp only[d,if_neg he,i1,hs,ai,aj,Int.reduceBEq,Int.reduceBNe,Int.reduceLT,Int.reduceLE,Int.reduceGT,Int.reduceGE,Int.reduceNeg]
theorem CE {key:aq}{n p:Int}(h0:0<=n)(h1:n<=1000):(iT key n p).length<=key.length+4:=by
 unfold iT
 split
 ·simp
 ·have:=(Ap h0 h1).2.1
  rw[aaX];omega
theorem aaw {ts:List Tk}(hF:Fit ts){a:Int}(h0:0<=a)(h1:a<=(ts.length:Int)-1):(jb ts a).length<=16:=(hF.nm _ (EH h0 h1).2).2.1
theorem Qg {ts:List Tk}{dx:AV}{xs:List AV}{D:Nat}{l:List Int}{lx bN cG cF cp dG:AV}{H:Hp}(hF:Fit ts)(hl:l.length<=16)(ha:∀ a∈l,0<=a/\a<=(ts.length:Int)-1)(eS:Rw H 1 lx (ints l))(hD:cellAt H D 0=some dx)(hR:RD H dx xs ts)(aD:K.Fn 1)(aF:K.Fn 5)(gm:K.Fn 7) :
  ∀ (r:List Int) (k:Nat) (s:aq),k<=l.length->l.drop k=r->s.length<=100+100*k->
  Ew JN GO cK aD aF gm (.ptr D 0) dG bN (.str s) cG cF cp lx (.int .i64 (l.length:Nat)) (.int .i64 (k:Nat)) H=gm (.ptr D 0) dG bN (.str (s++ik ts (k==0) r)) cG cF cp H
 | [],k,s,hk,h,hs=>by
  obtain rfl:=drop_nil hk h
  rw[Ps]
  simp only[KE,fU,ik,ag8,ai,aj,Int.reduceBEq,Int.reduceBNe,Int.reduceLT,Int.reduceLE,Int.reduceGT,Int.reduceGE,Int.reduceNeg]
 | a::r,k,s,hk,h,hs=>by
  obtain⟨h1,h2,h3⟩:=gG h
  obtain⟨q,q1,q2⟩:=eS.lK (BB h2) .i64
  have es:=gf h1 (by omega)
  obtain⟨a0,a1⟩:=ha a (aao h2)
  have hU:=aaw hF a0 a1
  obtain⟨m,rfl⟩:∃ m:Nat,a=m:=⟨a.toNat,by omega⟩
  have hm:ts[m]? = some (ts[m]'(by omega)):=aai (by omega)
  obtain⟨x,b,o,g0,g1,g2,g3,g4,g5,g6⟩:=hR.at hm
  have PV:(ts[m]'(by omega)).name=jb ts (m:Int):=by
   have:=(EH a0 a1).1
   unfold names at this
   rw[acr,adL,hm] at this
   simpa using this
  rw[PV] at g6
  cases k with
  | zero=>
   have s1:=tR (a:=s) (b:=[32,97,102,116,101,114,61]) (by simp;omega)
   have s2:=tR (a:=s++[32,97,102,116,101,114,61]) (b:=jb ts (m:Int)) (by simp;omega)
   have ih:=Qg (dG:=dG) (bN:=bN) (cG:=cG) (cF:=cF) (cp:=cp) hF hl ha eS hD hR aD aF gm r 1 (s++[32,97,102,116,101,114,61]++jb ts (m:Int)) (by omega) h3 (by simp;omega)
   have e:s++ik ts ((0:Nat)==0) ((m:Int)::r)=s++[32,97,102,116,101,114,61]++jb ts (m:Int)++ik ts ((1:Nat)==0) r:=by simp[ik]
   have d0:(((0:Nat):Int)==0)=true:=rfl
   rw[e,Ps]
   simp(disch:=first|exact zqq|fail)only[KE,bI h1,q1,q2,d0,s1,hD,g3,g6,s2,es,ih,av,au,Nat.reduceAdd,ai,aj,Int.reduceBEq,Int.reduceBNe,Int.reduceLT,Int.reduceLE,Int.reduceGT,Int.reduceGE,Int.reduceNeg]
  | succ k=>
   have s1:=tR (a:=s) (b:=[44]) (by simp;omega)
   have s2:=tR (a:=s++[44]) (b:=jb ts (m:Int)) (by simp;omega)
   have ih:=Qg (dG:=dG) (bN:=bN) (cG:=cG) (cF:=cF) (cp:=cp) hF hl ha eS hD hR aD aF gm r (k+1+1) (s++[44]++jb ts (m:Int)) (by omega) h3 (by simp;omega)
   have e:s++ik ts ((k+1)==0) ((m:Int)::r)=s++[44]++jb ts (m:Int)++ik ts ((k+1+1)==0) r:=by simp[ik]
   have d0:(((k+1:Nat):Int)==0)=false:=beq_false_of_ne (by omega)
   rw[e,Ps]
   simp(disch:=first|exact zqq|fail)only[KE,bI h1,q1,q2,d0,s1,hD,g3,g6,s2,es,ih,av,au,Nat.reduceAdd,ai,aj,Int.reduceBEq,Int.reduceBNe,Int.reduceLT,Int.reduceLE,Int.reduceGT,Int.reduceGE,Int.reduceNeg]
theorem TA {ts:List Tk}(hF:Fit ts):∀ {l:List Int} (f:Bool),(∀ a∈l,0<=a/\a<=(ts.length:Int)-1)->(ik ts f l).length<=23*l.length
 | [],f,_=>by simp[ik]
 | a::r,f,h=>by
  obtain⟨h0,h1⟩:=h a (.head _)
  have:=aaw hF h0 h1
  have ih:=TA hF (l:=r) false fun b hb=>h b (.tail _ hb)
  cases f<;>simp[ik]<;>omega
theorem Md {ts:List Tk}(hF:Fit ts){t:Tk}(ht:t∈ts):(t.name++ik ts true t.after).length<=400/\(eJ ts t).length<=600:=by
 obtain⟨n1,n2,n3,n4,n5,n6⟩:=hF.num t ht
 obtain⟨a1,a2⟩:=hF.jn t ht
 have b1:=(hF.nm _ (acS.2 ⟨t,ht,rfl⟩)).2.1
 have b2:=TA hF true a1
 have c1:=CE (key:=[32,114,101,116,114,121,61]) (p:=0) n1 (by omega)
 have c2:=CE (key:=[32,119,97,105,116,61]) (p:=10) (show 0<=t.wait by omega) n4
 have c3:=CE (key:=[32,98,97,115,101,61]) (p:=1) (show 0<=t.base by omega) n6
 have c4:(if t.on=[] then [] else [32,111,110,61]++t.on).length<=20:=by
  split
  ·simp
  ·rcases hF.on t ht with q | q
   ·contradiction
   ·simp;omega
 simp only[aaL,acG] at c1 c2 c3
 refine⟨by rw[aaX];omega,?_⟩
 unfold eJ
 simp only[aaX] at c4 ⊢
 omega
theorem abe {ts:List Tk}{dx:AV}{xs:List AV}{D:Nat}(hF:Fit ts)(hn:ts.length<=16)(Hc:11<=D) :
  ∀ (r:List Tk) (i:Nat) (H:Hp) (lx:AV),i<=ts.length->ts.drop i=r->Gl H->cellAt H D 0=some dx->D<H.next->RD H dx xs ts->Ow H 9 1 lx (strs ((ts.take i).map (eJ ts)))->(∀ j∈ak lx,j≠D/\j∉kX dx xs/\11<=j)->
  ∃ tC H',(∀ aD:K.Fn 1,F0 JN GO cK aD (.ptr D 0) lx dx (.int .i64 (ts.length:Nat)) (.int .i64 (i:Nat)) H=aD tC H')/\Rw H' 1 tC (strs (ts.map (eJ ts)))/\Out (ak lx) H H'
 | [],i,H,lx,hi,h,hg,hD,vX,hR,hO,hd=>by
  obtain rfl:=drop_nil hi h
  refine⟨lx,H,fun aD => ?_,by rw[List.take_length] at hO;exact hO.rw,Out.refl _ _⟩
  rw[Pn]
  simp only[Gh,fU,ai,aj,Int.reduceBEq,Int.reduceBNe,Int.reduceLT,Int.reduceLE,Int.reduceGT,Int.reduceGE,Int.reduceNeg]
 | t::r,i,H,lx,hi,h,hg,hD,vX,hR,hO,hd=>by
  obtain⟨h1,h2,h3⟩:=gG h
  have ht:=aao h2
  obtain⟨x,b,o,q0,q1,q2,q3,q4,q5,q6⟩:=hR.at h2
  have es:=gf h1 (by omega)
  obtain⟨n1,n2,n3,n4,n5,n6⟩:=hF.num t ht
  obtain⟨a1,a2⟩:=hF.jn t ht
  obtain⟨e0,e1,e2,e3,e4,e5⟩:=uC t x
  have o1:=aI H (aL t x) 99 0
  have cT:=bg H (aL t x) 99 0
  have hD1:cellAt (al H (aL t x) 99 0) D 0=some dx:=by rw[tQ vX];exact hD
  have oL:=hR.out0 o1
  have hl:=q2.mQ
  rw[lG] at hl
  obtain⟨l1,l2⟩:=Md hF ht
  have aqL:t.name.length<=16:=(hF.nm _ (acS.2 ⟨t,ht,rfl⟩)).2.1
  have s1:=fun aD aF gm=>Qg (dG:=lx) (bN := .ptr H.next 0) (cG:=dx) (cF := .int .i64 (ts.length:Nat)) (cp := .int .i64 (i:Nat)) hF a2 a1 (q2.out0 o1) hD1 oL aD aF gm t.after 0 t.name (acD _) acI (by omega)
  rw[show (((0:Nat):Int))=0 from rfl] at s1
  have WH:((0:Nat)==0)=true:=rfl
  rw[WH] at s1
  have aC:=yS t x q1 H
  obtain⟨H2,t1,o2⟩:=OV (key:=[32,114,101,116,114,121,61]) (p:=0) (by decide) n1 (by omega) (hg.out0 o1)
  obtain⟨H3,t2,o3⟩:=OV (key:=[32,119,97,105,116,61]) (p:=10) (by decide) (show 0<=t.wait by omega) n4 (hg.out0 (o1.trans o2))
  obtain⟨H4,t3,o4⟩:=OV (key:=[32,98,97,115,101,61]) (p:=1) (by decide) (show 0<=t.base by omega) n6 (hg.out0 ((o1.trans o2).trans o3))
  have c2:=cT.out o2 (by simp)
  have c3:=c2.out o3 (by simp)
  have c4:=c3.out o4 (by simp)
  have k1:cellAt (al H (aL t x) 99 0) H.next 3=some (.int .i64 t.wait):=cT.cellAt e3
  have k2:cellAt (al H (aL t x) 99 0) H.next 4=some (.int .i64 t.base):=cT.cellAt e4
  have k3:cellAt H2 H.next 3=some (.int .i64 t.wait):=c2.cellAt e3
  have k4:cellAt H2 H.next 4=some (.int .i64 t.base):=c2.cellAt e4
  have k5:cellAt H3 H.next 4=some (.int .i64 t.base):=c3.cellAt e4
  have k6:cellAt H4 H.next 5=some (.str t.on):=c4.cellAt e5
  have b1:=CE (key:=[32,114,101,116,114,121,61]) (p:=0) n1 (by omega)
  have b2:=CE (key:=[32,119,97,105,116,61]) (p:=10) (show 0<=t.wait by omega) n4
  have b3:=CE (key:=[32,98,97,115,101,61]) (p:=1) (show 0<=t.base by omega) n6
  simp only[aaL,acG] at b1 b2 b3
  have u1:=tR (a:=iT [32,114,101,116,114,121,61] t.retry 0) (b:=iT [32,119,97,105,116,61] t.wait 10) (by omega)
  have u2:=tR (a:=iT [32,114,101,116,114,121,61] t.retry 0++iT [32,119,97,105,116,61] t.wait 10) (b:=iT [32,98,97,115,101,61] t.base 1) (by rw[aaX];omega)
  have u3:=tR (a:=t.name++ik ts true t.after) (b:=iT [32,114,101,116,114,121,61] t.retry 0++iT [32,119,97,105,116,61] t.wait 10++iT [32,98,97,115,101,61] t.base 1) (by simp only[aaX] at l1 ⊢;omega)
  have mF:Out [] H H4:=((o1.trans o2).trans o3).trans o4
  have aqC:=mF.nx
  have ql:(ts.take (i+1)).map (eJ ts)=(ts.take i).map (eJ ts)++[eJ ts t]:=by rw[agZ,h2];simp
  obtain⟨lx1,H5,p1,p2,p3,p4,p5⟩:=uE (fH:=9) (z:=[(.str [])]) (vs:=[.str (eJ ts t)]) (hO.out mF (by simp)) rfl rfl (by decide) (by simp[strs];omega)
  have pX:strs ((ts.take i).map (eJ ts))++[.str (eJ ts t)]=strs ((ts.take (i+1)).map (eJ ts)):=by rw[ql];simp[strs]
  rw[pX] at p2
  have o5:Out (ak lx) H H5:=(mF.mono fun j hj=>by cases hj).trans p3
  have hn5:=p3.nx
  have ff:=hR.lt
  have zk:∀ j∈ak lx1,j≠D/\j∉kX dx xs/\11<=j:=fun j hj=>(p4 j hj).elim (hd j) fun z=>⟨by omega,fun y=>by have:=ff j y;omega,by omega⟩
  obtain⟨tC,H',i1,i2,i3⟩:=abe hF hn Hc r (i+1) H5 lx1 h1 h3 (hg.out o5 fun j hj=>(hd j hj).2.2) (by rw[o5.cellAt vX fun z=>(hd D z).1 rfl];exact hD) (by omega) (hR.out o5 fun j hj z=>(hd j z).2.1 hj) p2 zk
  have iQ:=p1 _ rfl
  refine⟨tC,H',fun aD => ?_,i2,o5.then i3 fun j hj=>(p4 j hj).imp id fun z=>by omega⟩
  have YI:eJ ts t=((t.name++ik ts true t.after)++((iT [32,114,101,116,114,121,61] t.retry 0++iT [32,119,97,105,116,61] t.wait 10)++iT [32,98,97,115,101,61] t.base 1))++(if t.on=[] then [] else [32,111,110,61]++t.on):=rfl
  generalize iT [32,114,101,116,114,121,61] t.retry 0=T1 at *
  generalize iT [32,119,97,105,116,61] t.wait 10=T2 at *
  generalize iT [32,98,97,115,101,61] t.base 1=T3 at *
  generalize t.name++ik ts true t.after=s0 at *
  generalize eJ ts t=sT at *
  by_cases tO:t.on=[]
  ·have d:(t.on==([]:aq))=true:=by rw[tO];rfl
   have nR:s0++(T1++T2++T3)=sT:=by
    rw[YI,if_pos tO,ag8]
   rw[nR] at u3
   rw[Pn]
   simp(disch:=first|exact zqq|fail)only[Gh,bI h1,q3,q5,aC,e0,e1,e2,hl,s1,t1,t2,t3,k1,k2,k3,k4,k5,k6,u1,u2,u3,lT (Vr _ _),d,iQ,es,i1,av,au,Nat.reduceAdd,ai,aj,Int.reduceBEq,Int.reduceBNe,Int.reduceLT,Int.reduceLE,Int.reduceGT,Int.reduceGE,Int.reduceNeg]
  ·have d:(t.on==([]:aq))=false:=by simp[tO]
   have jf:t.on.length<=16:=(hF.on t ht).elim (fun q=>absurd q tO) fun q=>q.1
   have u4:=tR (a:=[32,111,110,61]) (b:=t.on) (by simp;omega)
   have u5:=tR (a:=s0++(T1++T2++T3)) (b:=[32,111,110,61]++t.on) (by simp only[aaX,aaL,acG] at l1 ⊢;omega)
   have nR:s0++(T1++T2++T3)++([32,111,110,61]++t.on)=sT:=by
    rw[YI,if_neg tO]
   rw[nR] at u5
   rw[Pn]
   simp(disch:=first|exact zqq|fail)only[Gh,bI h1,q3,q5,aC,e0,e1,e2,hl,s1,t1,t2,t3,k1,k2,k3,k4,k5,k6,u1,u2,u3,u4,u5,lT (Vr _ _),d,iQ,es,i1,av,au,Nat.reduceAdd,ai,aj,Int.reduceBEq,Int.reduceBNe,Int.reduceLT,Int.reduceLE,Int.reduceGT,Int.reduceGE,Int.reduceNeg]
theorem aiE {ts:List Tk}{dx:AV}{xs:List AV}{H:Hp}(hg:Gl H)(hF:Fit ts)(h1:1<=ts.length)(hn:ts.length<=16)(Vz:iY ts=0)(hR:RD H dx xs ts) :
  ∃ H',cK (.func (.func 55) [] []) [dv dx] H=some (.str (oZ ts),H')/\Out [] H H':=by
 have gy:=hR.row.one
 have fO:=hR.bq
 have o1:=aI H [dx] 72 0
 have I8:=hg.nx
 have hc:ar (al H [dx] 72 0) H.next 0 1=some [dx]:=Fg rfl (by simp)
 obtain⟨H2,g1,o2⟩:=Nn (ts:=ts) (by omega) (fun t ht=>by have:=(hF.jn t ht).2;omega) (hR.out0 o1)
 rw[Vz] at g1
 have gL:=o2.nx
 rw[bK] at gL
 have Zh:cellAt H2 H.next 0=some dx:=by rw[o2.cellAt (by rw[bK];omega) (by simp),vP rfl];rfl
 have gI:=(hR.out0 o1).out0 o2
 have aW:bx 72 (.agg [dx]) H=some (H.next,al H [dx] 72 0):=ji (by simp)
 obtain⟨lx,H3,l1,l2,l3⟩:=abe (D:=H.next) hF hn (by omega) ts 0 H2 .ah (acD _) acI (hg.out0 (o1.trans o2)) Zh (by omega) gI .nil (fun j hj=>by cases hj)
 rw[show (((0:Nat):Int))=0 from rfl] at l1
 have l3':Out [] H2 H3:=l3
 have ru:∀ us:List Tk,(∀ t∈us,t∈ts)->cN (us.map (eJ ts))<=600*us.length:=by
  intro us
  induction us with
  | nil=>intro _;simp[cN]
  | cons u us ih=>
   intro h
   have a:=ih fun t ht=>h t (.tail _ ht)
   have b:=(Md hF (h u (.head _))).2
   simp only[cN,acW,aiv,aaL] at a ⊢
   omega
 have hs:=ru ts fun t ht=>ht
 obtain⟨H4,j1,j2⟩:=Wf (sep:=[59]) rfl l2 (by rw[ads];omega) (fun s hs=>by
  obtain⟨t,ht,rfl⟩:=acS.1 hs
  have:=(Md hF ht).2;omega) (by omega) (fun s hs b hb=>by
  rcases aaD.1 hs with rfl | hs
  ·rw[No] at hb;subst hb;decide
  ·obtain⟨t,ht,rfl⟩:=acS.1 hs
   exact (YX hF ht b hb).2)
 rw[XW] at j1
 have mS:oZ ts=jm 59 (ts.map (eJ ts)):=by unfold oZ;rw[if_pos Vz]
 rw[<-mS] at j1
 refine⟨H4,alc ?_,((o1.trans o2).trans l3').trans j2⟩
 have d:((0:Int) != 0)=false:=rfl
 unfold OC
 simp(disch:=first|exact zqq|fail)only[aW,hc,g1,d,Zh,fO,l1,j1,av,au,Nat.reduceAdd,ai,aj,Int.reduceBEq,Int.reduceBNe,Int.reduceLT,Int.reduceLE,Int.reduceGT,Int.reduceGE,Int.reduceNeg]
end Go.Proofs.YtodfajmihkagnaaGreatDoor.DfK
