/- What def.Parse does, as a contract over the symbolic heap. Conditions: the listed variables hold what the row says. -/
import Derived.Test.YtodfajmihkagnaaGreatDoorDfM
set_option linter.unusedVariables false
set_option linter.unusedSimpArgs false
set_option maxRecDepth 10000
set_option maxHeartbeats 1000000
namespace Go.Proofs.YtodfajmihkagnaaGreatDoor.DfK
open Go Am Am.K mf og lH qz
theorem BR (c:Nat):∀ s:aq,dB (cW c s)+(cW c s).length=s.length+1
 | []=>rfl
 | b::s=>by
  have ih:=BR c s
  unfold cW
  by_cases h:b=c
  ·rw[if_pos h];simp only[dB,acJ,List.sum_cons,acm,abx] at *;omega
  ·rw[if_neg h]
   cases hs:cW c s with
   | nil=>exact absurd hs (wO c s)
   | cons x y=>rw[hs] at ih;simp only[dB,acJ,List.sum_cons,abx] at *;omega
abbrev ka (s:aq):List aq:=cW 32 s
abbrev om (s:aq):aq:=(ka s).headD []
structure PS (H:Hp) (rx nx:AV) (rws:List AV) (ps:List aq):Prop where
 r:Ow H 46 1 rx rws
 n:Ow H 9 1 nx (strs (ps.map om))
 len:rws.length=ps.length
 w:∀ (i:Nat) (wx:AV) (s:aq),rws[i]? = some wx->ps[i]? = some s->Rw H 1 wx (strs (ka s))
 dw:∀ wx∈rws,∀ j∈ak wx,j∉ak rx/\j∉ak nx
 dn:∀ j∈ak rx,j∉ak nx
theorem VV {R:AV} {px:AV} {ps:List aq} {B:Nat} (lB:ps.length<=5000) (la:∀ s∈ps,s.length<=5000):∀ (r:List aq) (i:Nat) (H:Hp) (rx nx:AV) (rws:List AV),i<=ps.length->ps.drop i=r->Rw H 1 px (strs ps)->PS H rx nx rws (ps.take i)->(∀ j∈ak px,j∉ak rx/\j∉ak nx)->B<=H.next->(∀ j,j∈ak rx\/j∈ak nx->B<=j)->(∀ wx∈rws,∀ j∈ak wx,B<=j)->
  ∃ eF gg K1 H' S,(∀ fZ:K.Fn 3,D9 JN GO cK fZ R rx nx px (.int .i64 (ps.length:Nat)) (.int .i64 (i:Nat)) H=fZ R eF gg H')/\PS H' eF gg K1 ps/\Out S H H'/\(∀ j∈S,B<=j)/\(∀ j,j∈ak eF\/j∈ak gg->B<=j)/\(∀ wx∈K1,∀ j∈ak wx,B<=j)
 | [],i,H,rx,nx,rws,hi,h,Kj,hP,hd,hB,hr,hw=>by
  obtain rfl:=drop_nil hi h
  rw[aer (abe _)] at hP
  refine⟨rx,nx,rws,H,[],fun fZ => ?_,hP,Out.refl _ _,(fun j hj=>by cases hj),hr,hw⟩
  rw[Vk]
  simp only[J9,fw,aj,ai,simprocAttr]
 | s::r,i,H,rx,nx,rws,hi,h,Kj,hP,hd,hB,hr,hw=>by
  obtain⟨h1,h2,h3⟩:=fC h
  obtain⟨q,q1,q2⟩:=Kj.jy (tB h2) .i64
  have es:=fF h1 (by omega)
  have oI:=la s (aa2 h2)
  have pR:ps.take (i+1)=ps.take i++[s]:=by rw[agf,h2];rfl
  have bE:(ps.take i).length=i:=by rw[adA];omega
  obtain⟨wx,H1,s1,s2,s3,s4⟩:=Nu (c:=32) (by decide) (s:=s) (by omega) H
  have kg:=s3.nx
  have Ah:=s2.lt
  have gE:=hP.r.rw.lt
  have iv:=hP.n.rw.lt
  obtain⟨IJ,H2,p1,p2,p3,p4,p5⟩:=vP (fU:=46) (z:=[.ah]) (vs:=[wx]) (hP.r.out s3 (by simp)) (by simp[s2.one]) rfl (by decide) (by rw[hP.len,bE];simp;omega)
  have gT:=p3.nx
  have GF:Rw H2 1 wx (strs (ka s)):=s2.out p3 fun j hj z=>by have:=s4 j hj;have:=gE j z;omega
  have hN2:Ow H2 9 1 nx (strs ((ps.take i).map om)):=(hP.n.out s3 (by simp)).out p3 fun j hj z=>hP.dn j z hj
  obtain⟨w0,w1,VL⟩:∃ a b,ka s=a::b:=by
   cases hs:ka s with
   | nil=>exact absurd hs (wO 32 s)
   | cons a b=>exact⟨a,b,rfl⟩
  obtain⟨y,y1,y2⟩:=GF.jy (i:=0) (v := .str w0) (by rw[VL];rfl) .i64
  rw[show (((0:Nat):Int))=0 from rfl] at y1
  obtain⟨Qg,H3,n1,n2,n3,n4,n5⟩:=vP (fU:=9) (z:=[.str []]) (vs:=[.str w0]) hN2 rfl rfl (by decide) (by rw[iP,ac7,bE];simp;omega)
  have zg:=n3.nx
  have hh:om s=w0:=by show (ka s).headD []=w0;rw[VL];rfl
  have anb:strs ((ps.take i).map om)++[.str w0]=strs ((ps.take (i+1)).map om):=by rw[pR,adu,Iy,acJ,List.map_nil,hh];rfl
  rw[anb] at n2
  have iY:=p1 _ rfl
  have n1':=n1 _ rfl
  have BV:∀ j∈ak IJ,j∈ak rx\/H1.next<=j:=p4
  have Ay:∀ j∈ak Qg,j∈ak nx\/H2.next<=j:=n4
  have aen:∀ j∈ak IJ,j<H2.next:=p2.rw.lt
  have aes:∀ wy∈rws,∀ j∈ak wy,j<H.next:=fun wy mg j hj=>by
   obtain⟨k,hk⟩:=ac1 mg
   have jV:=(aaK.1 hk).1
   rw[hP.len] at jV
   exact (hP.w k wy _ hk (aaM jV)).lt j hj
  have o2:Out (ak rx) H H2:=(s3.mono fun j hj=>by cases hj).trans p3
  have o3:Out (ak rx++ak nx) H H3:=(o2.mono fun j hj=>abG _ hj).trans (n3.mono fun j hj=>abB _ hj)
  have ug:PS H3 IJ Qg (rws++[wx]) (ps.take (i+1)):=by
   refine⟨p2.out n3 fun j hj z => ?_,n2,by rw[aby,hP.len,pR,aby];rfl,fun k wy t hk ht => ?_,fun wy mg j hj => ?_,fun j hj z => ?_⟩
   ·rcases BV j hj with y | y
    ·exact hP.dn j y z
    ·have:=iv j z;omega
   ·rw[pR] at ht
    by_cases Tq:k<i
    ·rw[abN (by rw[hP.len,bE];exact Tq)] at hk
     rw[abN (by rw[bE];exact Tq)] at ht
     have hm:=aa2 hk
     exact (hP.w k wy t hk ht).out o3 fun j hj z=>(abP.1 z).elim (hP.dw wy hm j hj).1 (hP.dw wy hm j hj).2
    ·have fV:=(aaK.1 ht).1
     rw[aby,bE] at fV
     obtain rfl:k=i:=by simp at fV;omega
     rw[abQ (by rw[hP.len,bE];exact abe _),hP.len,bE,agi] at hk
     rw[abQ (by rw[bE];exact abe _),bE,agi] at ht
     cases hk;cases ht
     exact GF.out n3 fun j hj z=>by have:=s4 j hj;have:=iv j z;omega
   ·rcases abP.1 mg with mg | mg
    ·have hjo:=aes wy mg j hj
     exact⟨fun z=>(BV j z).elim (hP.dw wy mg j hj).1 fun y=>by omega,fun z=>(Ay j z).elim (hP.dw wy mg j hj).2 fun y=>by omega⟩
    ·rw[aan] at mg
     subst mg
     have:=s4 j hj
     have:=Ah j hj
     exact⟨fun z=>(BV j z).elim (fun y=>by have:=gE j y;omega) fun y=>by omega,fun z=>(Ay j z).elim (fun y=>by have:=iv j y;omega) fun y=>by omega⟩
   ·rcases Ay j z with y | y
    ·rcases BV j hj with x | x
     ·exact hP.dn j x y
     ·have:=iv j y;omega
    ·have:=aen j hj;omega
  have YJ:=Kj.lt
  obtain⟨eF,gg,K1,H',S,i1,i2,i3,i4,i5,i6⟩:=VV (R:=R) (B:=B) lB la r (i+1) H3 IJ Qg (rws++[wx]) h1 h3 (Kj.out o3 fun j hj z=>(abP.1 z).elim (hd j hj).1 (hd j hj).2) ug (fun j hj=>⟨fun z=>(BV j z).elim (hd j hj).1 fun y=>by have:=YJ j hj;omega,fun z=>(Ay j z).elim (hd j hj).2 fun y=>by have:=YJ j hj;omega⟩) (by omega) (fun j hj=>by
   rcases hj with hj | hj
   ·exact (BV j hj).elim (fun z=>hr j (.inl z)) fun z=>by omega
   ·exact (Ay j hj).elim (fun z=>hr j (.inr z)) fun z=>by omega) (fun wy mg j hj=>by
   rcases abP.1 mg with mg | mg
   ·exact hw wy mg j hj
   ·rw[aan] at mg;subst mg;have:=s4 j hj;omega)
  refine⟨eF,gg,K1,H',(ak rx++ak nx)++S,fun fZ => ?_,i2,(o3.mono fun j hj=>abG _ hj).trans (i3.mono fun j hj=>abB _ hj),fun j hj => ?_,i5,i6⟩
  ·have aoc:=s2.one
   rw[Vk]
   simp(disch:=(first|assumption|omega|(simp only[ag,af,simprocAttr]<;>fail)|(simp only[af];omega)|(simp only[ag,af,simprocAttr, *]<;>fail)|fail))only[J9,bN h1,q1,q2,s1,iY,y1,y2,n1',es,i1,au,ar,aj,ai,simprocAttr]
  ·rcases abP.1 hj with hj | hj
   ·exact hr j (abP.1 hj)
   ·exact i4 j hj
noncomputable def ns (names:List aq):List aq->Option (List Tk)
 | []=>some []
 | s::r=>match uQ names (ka s) with
  | none=>none
  | some t=>(ns names r).map fun l=>t::l
noncomputable def aS (text:aq):List Tk × Int:=
 if 1024<text.length then ([],14) else match ns ((cW 59 text).map om) (cW 59 text) with
  | none=>([],2)
  | some ts=>if js ts=0 then (ts,0) else ([],js ts)
theorem Tg {names:List aq}:∀ {r:List aq} {t t':Tk} {ks:List aq},mi names r t ks=some t'->t'.after.length<=t.after.length+dB r+r.length
 | [],t,t',ks,h=>by cases h;simp[dB]
 | s::r,t,t',ks,h=>by
  unfold mi at h
  split at h
  ·cases h
  ·split at h
   ·cases h
   ·split at h
    ·cases h
    ·rename_i t1 h1
     have h2:=Zj h1
     have h3:=Tg h
     have:=(X9 61 s).2
     have hs:dB (s::r)=s.length+dB r:=by simp[dB]
     rw[hs];simp only[abx];omega
theorem Zn {names:List aq} {s:aq} {t:Tk} (h:uQ names (ka s)=some t):t.after.length<=s.length+1:=by
 unfold uQ at h
 have h1:=Tg h
 have h2:dB (ka s)+(ka s).length=s.length+1:=BR 32 s
 have h3:dB (ka s).tail+(ka s).tail.length<=dB (ka s)+(ka s).length:=by
  cases ka s with
  | nil=>simp
  | cons a b=>simp[dB];omega
 simp only[acm] at h1
 omega
theorem TG {names:List aq}:∀ {r:List aq} {ts:List Tk},ns names r=some ts->ts.length=r.length/\∀ B,(∀ s∈r,s.length<=B)->∀ t∈ts,t.after.length<=B+1
 | [],ts,h=>by cases h;exact⟨rfl,fun B _ t ht=>by cases ht⟩
 | s::r,ts,h=>by
  unfold ns at h
  split at h
  ·cases h
  ·rename_i t ht
   rw[aaF] at h
   obtain⟨l,h1,rfl⟩:=h
   obtain⟨i1,i2⟩:=TG h1
   refine⟨by simp[i1],fun B hB u hu => ?_⟩
   rcases abn.1 hu with rfl | hu
   ·have:=Zn ht
    have:=hB s (.head _)
    omega
   ·exact i2 B (fun s hs=>hB s (.tail _ hs)) u hu
theorem RD.nil (H:Hp):RD H .ah [] []:=⟨rfl,RL.nil H 6,fun i x t h=>by simp at h⟩
theorem XH {nx rx:AV} {rws:List AV} {ps:List aq} {R D:Nat} (lB:ps.length<=2000) (la:∀ s∈ps,s.length<=1100) (hRD:R≠D):∀ (r:List aq) (i:Nat) (H:Hp) (dx:AV) (xs:List AV) (ts:List Tk),i<=ps.length->ps.drop i=r->Gl H->11<=D->(∀ j∈ak dx,11<=j)->PS H rx nx rws ps->Cs H R [.ah] 72 0->Cs H D [dx] 72 0->OL H 99 6 dx (List.zipWith aK ts xs)->RD H dx xs ts->ts.length=i->(∀ x∈xs,∀ j∈ak x,j∉ak dx/\j≠D)->D∉ak dx->(∀ j,j∈ak rx\/j∈ak nx\/(∃ wx∈rws,j∈ak wx)\/j=R->j∉ak dx/\j≠D)->
  ∃ H' S,Out S H H'/\(∀ j∈S,j=D\/j=R\/j∈ak dx\/H.next<=j)/\((∃ ay bC l,ns (ps.map om) r=some l/\(∀ kG:K.Fn 2,Ca JN GO cK kG (.ptr R 0) nx (.ptr D 0) rx (.int .i64 (ps.length:Nat)) (.int .i64 (i:Nat)) H=kG (.ptr R 0) (.ptr D 0) H')/\Cs H' D [ay] 72 0/\Cs H' R [.ah] 72 0/\RD H' ay bC (ts++l)/\∀ j∈lE ay bC,j∈lE dx xs\/H.next<=j)\/
   (ns (ps.map om) r=none/\∀ kG:K.Fn 2,Ca JN GO cK kG (.ptr R 0) nx (.ptr D 0) rx (.int .i64 (ps.length:Nat)) (.int .i64 (i:Nat)) H=some (.tuple [.agg [.ah],.int .i64 2],H')))
 | [],i,H,dx,xs,ts,hi,h,hg,Eg,Qk,hP,hR,hD,hO,hT,AF,FC,Pv,hd=>by
  obtain rfl:=drop_nil hi h
  refine⟨H,[],Out.refl _ _,(fun j hj=>by cases hj),.inl ⟨dx,xs,[],rfl,fun kG => ?_,hD,hR,by simpa using hT,fun j hj => .inl hj⟩⟩
  rw[Ll]
  simp only[C6,fw,aj,ai,simprocAttr]
 | s::r,i,H,dx,xs,ts,hi,h,hg,Eg,Qk,hP,hR,hD,hO,hT,AF,FC,Pv,hd=>by
  obtain⟨h1,h2,h3⟩:=fC h
  have es:=fF h1 (by omega)
  have oI:=la s (aa2 h2)
  have zJ:rws[i]? = some (rws[i]'(by rw[hP.len];exact h1)):=aaM _
  generalize xa:rws[i]'(by rw[hP.len];exact h1)=wx at zJ
  have hwm:=aa2 zJ
  have hw:=hP.w i wx s zJ h2
  obtain⟨q,q1,q2⟩:=hP.r.rw.jy zJ .i64
  have qT:=BR 32 s
  have Ah:(ka s).length<=5000:=by have:(ka s).length=(cW 32 s).length:=rfl;omega
  have B3:∀ a∈ka s,a.length<=80000:=fun a ha=>by have:=(Ea ha).2.2;omega
  obtain⟨H1,t1,t2⟩:=aiO (names:=ps.map om) hg (by rw[ac7];omega) (wO 32 s) Ah B3 (by show dB (cW 32 s)+(cW 32 s).length<=_;omega) hP.n.rw hw
  have kg:=t1.nx
  have Jq:=hg.nx
  unfold ns
  rcases t2 with⟨t,x,u1,u2,u3,u4⟩ | ⟨u1,v,u2,u3,u4⟩
  ·rw[u1]
   simp only
   have kR:=u3.one
   have aoU:=Zn u1
   have uc:st 6 (.ptr H1.next 0) (.agg (aK t x)) (al H1 [(.str []),.ah,(.int .i64 0),(.int .i64 0),(.int .i64 0),(.str [])] 99 0)=some (al H1 (aK t x) 99 0):=wG t x kR H1
   have o2:=aN H1 (aK t x) 99 0
   have bU:Out [] H (al H1 (aK t x) 99 0):=t1.trans o2
   have ao3:=hD.1
   have AU:cellAt (al H1 (aK t x) 99 0) D 0=some dx:=(hD.out bU (by simp)).cellAt rfl
   obtain⟨Gx,H2,p1,p2,p3,p4,p5⟩:=(hO.out bU (by simp)).push (fU:=99) (z:=[(.str []),.ah,(.int .i64 0),(.int .i64 0),(.int .i64 0),(.str [])]) (vs:=aK t x) (by simp[aK,Df,lU,kR]) rfl (by decide) (by rw[aeP,hT.len,Nat.min_self];omega)
   have gT:=p3.nx
   rw[cj] at gT
   have hDD:=(hD.out bU (by simp)).out p3 Pv
   obtain⟨H3,w1,w2,w3,w4⟩:=fR hDD (by decide) (o:=0) (by simp) (v:=Gx) p5
   have Ec:List.zipWith aK ts xs++[aK t x]=List.zipWith aK (ts++[t]) (xs++[x]):=by
    rw[List.zipWith_append (by rw[hT.len])];rfl
   rw[Ec] at p2
   have wM:∀ j∈ak Gx,j∈ak dx\/H1.next+1<=j:=fun j hj=>(p4 j hj).imp id fun z=>by rw[cj] at z;exact z
   have fX:=hO.1.rw.lt
   have TM:D∉ak Gx:=fun z=>(wM D z).elim Pv fun y=>by omega
   have o3:Out (D::ak dx) H H3:=((bU.mono fun j hj=>by cases hj).trans (p3.mono fun j hj => .tail _ hj)).trans (w3.mono fun j hj=>by rw[aan] at hj;subst hj;exact .head _)
   have zg:=o3.nx
   have abV:=u3.lt
   have EM:=p2.out w3 fun j hj=>by rw[aan];intro e;subst e;exact TM hj
   have anH:∀ y∈xs,∀ j∈ak y,j<H.next:=fun y hy j hj=>hT.lt j (abB _ (agl.2 ⟨y,hy,hj⟩))
   have uq:RD H3 Gx (xs++[x]) (ts++[t]):=by
    refine⟨by simp[hT.len],EM.rl,fun k y t' hy pQ => ?_⟩
    by_cases hk:k<xs.length
    ·rw[abN hk] at hy
     rw[abN (by rw[<-hT.len];exact hk)] at pQ
     have VT:=aa2 hy
     exact (hT.jm k y t' hy pQ).out o3 fun j hj=>by rw[abn,not_or];exact⟨(FC y VT j hj).2,(FC y VT j hj).1⟩
    ·have fV:=(aaK.1 hy).1
     rw[aby] at fV
     obtain rfl:k=xs.length:=by simp at fV;omega
     rw[abQ (abe _),agi] at hy
     rw[abQ (by rw[hT.len];exact abe _),hT.len,agi] at pQ
     cases hy;cases pQ
     refine ((u3.aw o2).out p3 fun j hj z => ?_).out w3 fun j hj => ?_
     ·have:=u4 j hj;have:=fX j z;omega
     ·rw[aan];have:=u4 j hj;omega
   have hPo:∀ {A B:Hp} {S:List Nat},PS A rx nx rws ps->Out S A B->(∀ j,j∈ak rx\/j∈ak nx\/(∃ wx∈rws,j∈ak wx)->j∉S)->PS B rx nx rws ps:=fun hp ho hs=>
    ⟨hp.r.out ho fun j hj=>hs j (.inl hj),hp.n.out ho fun j hj=>hs j (.inr (.inl hj)),hp.len,fun k wy s' hk ur=>(hp.w k wy s' hk ur).out ho fun j hj=>hs j (.inr (.inr ⟨wy,aa2 hk,hj⟩)),hp.dw,hp.dn⟩
   have vV:∀ j,j∈ak rx\/j∈ak nx\/(∃ wx∈rws,j∈ak wx)\/j=R->j∉D::ak dx:=fun j hj=>by rw[abn,not_or];exact⟨(hd j hj).2,(hd j hj).1⟩
   have Ef:∀ j,j∈ak rx\/j∈ak nx\/(∃ wx∈rws,j∈ak wx)\/j=R->j<H.next:=fun j hj=>by
    rcases hj with hj | hj | ⟨wy,mg,hj⟩ | rfl
    ·exact hP.r.rw.lt j hj
    ·exact hP.n.rw.lt j hj
    ·obtain⟨k,hk⟩:=ac1 mg
     have jV:=(aaK.1 hk).1
     rw[hP.len] at jV
     exact (hP.w k wy _ hk (aaM jV)).lt j hj
    ·exact hR.1
   obtain⟨H',S,i1,i2,i3⟩:=XH lB la hRD r (i+1) H3 Gx (xs++[x]) (ts++[t]) h1 h3 (hg.out o3 fun j hj=>by
    rcases abn.1 hj with rfl | hj
    ·exact Eg
    ·exact Qk j hj) Eg (fun j hj=>(wM j hj).elim (Qk j) fun z=>by omega) (hPo hP o3 fun j hj=>vV j (hj.imp id fun z=>z.imp id .inl)) (hR.out o3 (vV R (.inr (.inr (.inr rfl))))) w2 EM uq (by simp[AF]) (fun y hy j hj=>by
     rcases abP.1 hy with hy | hy
     ·have:=anH y hy j hj
      exact⟨fun z=>(wM j z).elim (FC y hy j hj).1 fun w=>by omega,(FC y hy j hj).2⟩
     ·rw[aan] at hy
      subst hy
      have:=u4 j hj
      have:=abV j hj
      exact⟨fun z=>(wM j z).elim (fun w=>by have:=fX j w;omega) fun w=>by omega,by omega⟩) TM (fun j hj=>⟨fun z=>(wM j z).elim (hd j hj).1 fun w=>by have:=Ef j hj;omega,(hd j hj).2⟩)
   refine⟨H',(D::ak dx)++S,(o3.mono fun j hj=>abG _ hj).trans (i1.mono fun j hj=>abB _ hj),fun j hj => ?_,?_⟩
   ·rcases abP.1 hj with hj | hj
    ·rcases abn.1 hj with rfl | hj
     ·exact .inl rfl
     ·exact .inr (.inr (.inl hj))
    ·rcases i2 j hj with z | z | z | z
     ·exact .inl z
     ·exact .inr (.inl z)
     ·exact .inr (.inr ((wM j z).imp id fun y=>by omega))
     ·exact .inr (.inr (.inr (by omega)))
   ·have Sl:aL (al H1 (aK t x) 99 0) (aK t x) 99 0=some (H1.next+1,al (al H1 (aK t x) 99 0) (aK t x) 99 0):=iy (by rw[uf];omega)
    have DJ:fl [(.str []),.ah,(.int .i64 0),(.int .i64 0),(.int .i64 0),(.str [])] [(0,6,.agg (aK t x))]=some (aK t x):=rfl
    have Tz:=Wm t x
    have V7:=uf t x
    have iY:=p1 _ rfl
    rw[cj] at iY
    rcases i3 with⟨ay,bC,l,k1,k2,k3,k4,k5,k6⟩ | ⟨k1,k2⟩
    ·refine .inl ⟨ay,bC,t::l,by rw[k1];rfl,fun kG => ?_,k3,k4,by simpa[aea] using k5,fun j hj=>(k6 j hj).elim (fun z => ?_) fun z => .inr (by omega)⟩
     ·rw[Ll]
      simp(disch:=(first|assumption|omega|(simp only[ag,af,simprocAttr]<;>fail)|(simp only[af];omega)|(simp only[ag,af,simprocAttr, *]<;>fail)|fail))only[C6,bN h1,q1,q2,u2,uc,AU,V7,Tz,DJ,Sl,iY,w1,es,k2,au,ar,aj,ai,simprocAttr]
     ·rcases abP.1 z with z | z
      ·exact (wM j z).imp (fun y=>abG _ y) fun y=>by omega
      ·rw[List.flatMap_append,abP] at z
       rcases z with z | z
       ·exact .inl (abB _ z)
       ·have:j∈ak x:=by simpa using z
        exact .inr (u4 j this)
    ·refine .inr ⟨by rw[k1];rfl,fun kG => ?_⟩
     rw[Ll]
     simp(disch:=(first|assumption|omega|(simp only[ag,af,simprocAttr]<;>fail)|(simp only[af];omega)|(simp only[ag,af,simprocAttr, *]<;>fail)|fail))only[C6,bN h1,q1,q2,u2,uc,AU,V7,Tz,DJ,Sl,iY,w1,es,k2,au,ar,aj,ai,simprocAttr]
  ·rw[u1]
   have uc:st 6 (.ptr H1.next 0) (.agg v) (al H1 [(.str []),.ah,(.int .i64 0),(.int .i64 0),(.int .i64 0),(.str [])] 99 0)=some (al H1 v 99 0):=kq u4 u3.symm rfl (by decide) u3.symm
   have o2:=aN H1 v 99 0
   have gJ:=hR.out (t1.trans o2) (by simp)
   obtain⟨H3,w1,w2,w3,w4⟩:=ir (n:=1) (vs:=[AV.ah]) gJ rfl rfl rfl
   have qt:av H3 R 0 1=some [.ah]:=w2.av 1 0 (by simp)
   refine⟨H3,[R],((t1.trans o2).mono fun j hj=>by cases hj).trans w3,fun j hj=>by rw[aan] at hj;exact .inr (.inl hj),.inr ⟨rfl,fun kG => ?_⟩⟩
   rw[Ll]
   simp(disch:=(first|assumption|omega|(simp only[ag,af,simprocAttr]<;>fail)|(simp only[af];omega)|(simp only[ag,af,simprocAttr, *]<;>fail)|fail))only[C6,bN h1,q1,q2,u2,uc,w1,qt,au,ar,aj,ai,simprocAttr]
theorem ael {text:aq} {H:Hp} (hg:Gl H) (hl:text.length<=4294967296):∃ dx xs H',cK (.func (.func 53) [] []) [.str text] H=some (.tuple [dv dx,.int .i64 (aS text).2],H')/\RD H' dx xs (aS text).1/\Out [] H H'/\∀ j∈lE dx xs,H.next<=j:=by
 have Jq:=hg.nx
 have o1:=aN H [.ah] 72 0
 have c1:=bD H [.ah] 72 0
 unfold aS
 by_cases Ak:1024<text.length
 ·rw[if_pos Ak]
  have d:decide ((1024:Int)<(text.length:Int))=true:=decide_eq_true (by omega)
  refine⟨.ah,[],al H [.ah] 72 0,HG ?_,RD.nil _,o1,fun j hj=>by cases hj⟩
  have aD:st 1 (.ptr H.next 0) (.agg [.ah]) (al H [.ah] 72 0)=some (al H [.ah] 72 0):=kq rfl rfl rfl (by decide) rfl
  unfold Ai
  simp(disch:=(first|assumption|omega|(simp only[ag,af,simprocAttr]<;>fail)|(simp only[af];omega)|(simp only[ag,af,simprocAttr, *]<;>fail)|fail))only[d,aD,au,ar,aj,ai,simprocAttr]
 rw[if_neg Ak]
 have d:decide ((1024:Int)<(text.length:Int))=false:=decide_eq_false (by omega)
 obtain⟨px,H1,s1,s2,s3,s4⟩:=Nu (c:=59) (by decide) (s:=text) (by omega) (al H [.ah] 72 0)
 have kg:=s3.nx
 rw[cj] at kg
 have qT:=BR 59 text
 have lB:=s2.kC
 rw[iP] at lB
 have la:∀ s∈cW 59 text,s.length<=1100:=fun s hs=>by have:=(Ea hs).2.2;omega
 have c2:=c1.out s3 (by simp)
 obtain⟨rx,nx,rws,H2,S2,i1,i2,i3,i4,i5,i6⟩:=VV (R := .ptr H.next 0) (B:=H1.next) (ps:=cW 59 text) (by omega) (fun s hs=>by have:=la s hs;omega) (cW 59 text) 0 H1 .ah .ah [] (ab2 _) abJ s2 ⟨.nil,.nil,by rw[agv];rfl,fun i wx s h=>by simp at h,(fun wx h=>by cases h),fun j h=>by cases h⟩ (fun j hj=>⟨by simp[ak],by simp[ak]⟩) (abe _) (fun j hj=>by rcases hj with hj | hj<;>cases hj) (fun wx h=>by cases h)
 rw[show (((0:Nat):Int))=0 from rfl] at i1
 have gT:=i3.nx
 have nF:Out [] H H2:=(o1.trans s3).then i3 fun j hj=>by have:=i4 j hj;exact .inr (by omega)
 have c3:=c2.out i3 fun z=>by have:=i4 _ z;omega
 have o3:=aN H2 [.ah] 72 0
 have cD:=bD H2 [.ah] 72 0
 have ug:PS (al H2 [.ah] 72 0) rx nx rws (cW 59 text):=⟨i2.r.out o3 (by simp),i2.n.out o3 (by simp),i2.len,fun k wx s h1 h2=>(i2.w k wx s h1 h2).aw o3,i2.dw,i2.dn⟩
 have Ef:∀ j,j∈ak rx\/j∈ak nx\/(∃ wx∈rws,j∈ak wx)->j<H2.next:=fun j hj=>by
  rcases hj with hj | hj | ⟨wy,mg,hj⟩
  ·exact i2.r.rw.lt j hj
  ·exact i2.n.rw.lt j hj
  ·obtain⟨k,hk⟩:=ac1 mg
   have jV:=(aaK.1 hk).1
   rw[i2.len] at jV
   exact (i2.w k wy _ hk (aaM jV)).lt j hj
 obtain⟨H3,S3,k1,k2,k3⟩:=XH (R:=H.next) (D:=H2.next) (by omega) la (by omega) (cW 59 text) 0 (al H2 [.ah] 72 0) .ah [] [] (ab2 _) abJ (hg.aw (nF.trans o3)) (by omega) (fun j hj=>by cases hj) ug (c3.out o3 (by simp)) cD (OL.nil _ _ _) (RD.nil _) rfl (fun x hx=>by cases hx) (by simp[ak]) (fun j hj=>⟨by simp[ak],by
  rcases hj with hj | hj | hj | rfl
  ·have:=Ef j (.inl hj);omega
  ·have:=Ef j (.inr (.inl hj));omega
  ·have:=Ef j (.inr (.inr hj));omega
  ·omega⟩)
 rw[show (((0:Nat):Int))=0 from rfl] at k3
 have hS3:∀ j∈S3,H.next<=j:=fun j hj=>by
  rcases k2 j hj with z | z | z | z
  ·omega
  ·omega
  ·cases z
  ·rw[cj] at z;omega
 have vJ:Out [] H H3:=(nF.trans o3).then k1 fun j hj => .inr (hS3 j hj)
 have gE:=i2.r.rw.kC
 rw[i2.len] at gE
 have eW:aV rx=some (.int .i64 ((cW 59 text).length:Nat)):=gE
 have zg:=k1.nx
 rw[cj] at zg
 rcases k3 with⟨dx,xs,ts,m1,m2,m3,m4,m5,m6⟩ | ⟨m1,m2⟩
 ·rw[ahr] at m5
  rw[m1]
  simp only
  obtain⟨tl1,tl2⟩:=TG m1
  have vq:∀ j∈lE dx xs,H2.next+1<=j:=fun j hj=>(m6 j hj).elim (fun z=>by cases z) fun z=>by rw[cj] at z;exact z
  obtain⟨H4,g1,g2⟩:=NI (ts:=ts) (by rw[tl1];omega) (fun t ht=>by have:=tl2 1100 la t ht;omega) m5
  have ZV:=g2.nx
  have AU:av H3 H2.next 0 1=some [dx]:=m3.av 1 0 (by simp)
  have Sc:av H4 H2.next 0 1=some [dx]:=(m3.out g2 (by simp)).av 1 0 (by simp)
  have cR:=m4.out g2 (by simp)
  have wM:=m5.row.one
  by_cases h0:js ts=0
  ·rw[if_pos h0]
   have d0:((js ts) != 0)=false:=by rw[h0];rfl
   obtain⟨H5,w1,w2,w3,w4⟩:=ir (n:=1) (vs:=[dx]) cR rfl rfl (by simp[wM])
   have zk:av H5 H.next 0 1=some [dx]:=w2.av 1 0 (by simp)
   refine⟨dx,xs,H5,HG ?_,(m5.aw g2).out w3 fun j hj=>by rw[aan];have:=vq j hj;omega,(vJ.trans g2).then w3 fun j hj=>by rw[aan] at hj;exact .inr (by omega),fun j hj=>by have:=vq j hj;omega⟩
   unfold Ai
   simp(disch:=(first|assumption|omega|(simp only[ag,af,simprocAttr]<;>fail)|(simp only[af];omega)|(simp only[ag,af,simprocAttr, *]<;>fail)|fail))only[d,s1,lB,i1,eW,m2,AU,Sc,g1,d0,w1,zk,au,ar,aj,ai,simprocAttr]
  ·rw[if_neg h0]
   have d0:((js ts) != 0)=true:=by simp[h0]
   obtain⟨H5,w1,w2,w3,w4⟩:=ir (n:=1) (vs:=[AV.ah]) cR rfl rfl rfl
   have zk:av H5 H.next 0 1=some [.ah]:=w2.av 1 0 (by simp)
   refine⟨.ah,[],H5,HG ?_,RD.nil _,(vJ.trans g2).then w3 fun j hj=>by rw[aan] at hj;exact .inr (by omega),fun j hj=>by cases hj⟩
   unfold Ai
   simp(disch:=(first|assumption|omega|(simp only[ag,af,simprocAttr]<;>fail)|(simp only[af];omega)|(simp only[ag,af,simprocAttr, *]<;>fail)|fail))only[d,s1,lB,i1,eW,m2,AU,Sc,g1,d0,w1,zk,au,ar,aj,ai,simprocAttr]
 ·rw[m1]
  simp only
  refine⟨.ah,[],H3,HG ?_,RD.nil _,vJ,fun j hj=>by cases hj⟩
  unfold Ai
  simp(disch:=(first|assumption|omega|(simp only[ag,af,simprocAttr]<;>fail)|(simp only[af];omega)|(simp only[ag,af,simprocAttr, *]<;>fail)|fail))only[d,s1,lB,i1,eW,m2,au,ar,aj,ai,simprocAttr]
theorem Mg {text:aq} (h:(aS text).2=0):js (aS text).1=0/\1<=(aS text).1.length/\(aS text).1.length<=16/\um (aS text).1/\zj (aS text).1.length (jx 0 (aS text).1)/\(∀ t∈(aS text).1,vz t=false/\tH t=false):=by
 have key:∀ ts:List Tk,js ts=0->1<=ts.length/\ts.length<=16/\um ts/\zj ts.length (jx 0 ts)/\∀ t∈ts,vz t=false/\tH t=false:=by
  intro ts h
  unfold js at h
  split at h
  ·cases h
  ·rename_i h1
   split at h
   ·cases h
   ·rename_i h2
    split at h
    ·cases h
    ·split at h
     ·cases h
     ·rename_i h3
      split at h
      ·cases h
      ·rename_i h4
       split at h
       ·rename_i h5
        have h1:=agt.1 h1
        refine⟨h1.1,h1.2,K2 (by simpa using h4),h5,fun t ht => ?_⟩
        obtain⟨i,hi⟩:=ac1 ht
        have bE:=(aaK.1 hi).1
        rw[afq,ahh] at h2 h3
        have a:=h2 i (ais.2 bE)
        have b:=h3 i (ais.2 bE)
        unfold p1 at a
        unfold p3 at b
        rw[hi] at a b
        exact⟨by simpa using a,by simpa using b⟩
       ·cases h
 have hg:js (aS text).1=0:=by
  unfold aS at h ⊢
  by_cases hb:1024<text.length
  ·rw[if_pos hb] at h;cases h
  ·rw[if_neg hb] at h ⊢
   cases ry:ns ((cW 59 text).map om) (cW 59 text) with
   | none=>rw[ry] at h;cases h
   | some ts=>
    rw[ry] at h
    simp only at h ⊢
    by_cases h0:js ts=0
    ·rw[if_pos h0];exact h0
    ·rw[if_neg h0] at h;exact absurd h h0
 exact⟨hg,key _ hg⟩
end Go.Proofs.YtodfajmihkagnaaGreatDoor.DfK
namespace Go.Proofs.YtodfajmihkagnaaGreatDoor.Am.K
open Go
theorem aao:∀ (vs c r:List AV) (k:Nat),k+vs.length<=c.length->iU (c++r) k vs=iU c k vs++r
 | [],c,r,k,h=>rfl
 | v::vs,c,r,k,h=>by
  simp only[abx] at h
  show iU ((c++r).set k v) (k+1) vs=iU (c.set k v) (k+1) vs++r
  rw[List.set_append_left _ _ (by omega)]
  exact aao vs _ _ _ (by rw[acT];omega)
theorem Ya:∀ (vs a r:List AV) (k:Nat),iU (a++r) (a.length+k) vs=a++iU r k vs
 | [],a,r,k=>rfl
 | v::vs,a,r,k=>by
  show iU ((a++r).set (a.length+k) v) (a.length+k+1) vs=a++iU (r.set k v) (k+1) vs
  rw[aib _ _ (by omega),adG,ag0]
  exact Ya vs _ _ _
theorem ZA {es:Nat} {vs:List AV} {k:Nat} (hk:k+vs.length<=es):∀ {L:List (List AV)} {i:Nat} {c:List AV},(∀ c∈L,c.length=es)->L[i]? = some c->(L.set i (iU c k vs)).flatten=iU L.flatten (i*es+k) vs
 | [],i,c,_,h=>by simp at h
 | a::L,0,c,hl,h=>by
  simp only[acP,acu] at h
  subst h
  have:=hl a (.head _)
  rw[af4,adt]
  show iU a k vs++L.flatten=iU (a++L.flatten) k vs
  rw[aao _ _ _ _ (by omega)]
 | a::L,i+1,c,hl,h=>by
  simp only[acM] at h
  have ha:=hl a (.head _)
  show a++(L.set i (iU c k vs)).flatten=iU (a++L.flatten) ((i+1)*es+k) vs
  rw[ZA hk (fun d hd=>hl d (.tail _ hd)) h,aeT,ahd,show i*es+es+k=a.length+(i*es+k) by omega,Ya]
theorem OL.L4 {H:Hp} {el es:Nat} {x:AV} {L:List (List AV)} (h:OL H el es x L) {i k b o:Nat} {c vs:List AV} (hi:L[i]? = some c) (nJ:∀ kd,ia es x (.int kd i)=some (.ptr b o)) (hv:∀ v∈vs,bq v=true) (hk:k+vs.length<=es) (dK:0<es) :
  ∃ H',setCells H b (o+k) vs=some H'/\OL H' el es x (L.set i (iU c k vs))/\Out (ak x) H H'/\H'.next=H.next:=by
 obtain⟨ho,hl⟩:=h
 have bE:=(aaK.1 hi).1
 have ll:=xS hl
 have hfs:=ZA hk hl hi
 have hc:=hl c (aa2 hi)
 have DZ:i*es+es<=L.flatten.length:=by
  rw[ll]
  have:=adY es (show i+1<=L.length by omega)
  rw[aeT,ahd] at this
  exact this
 have Oa:∀ d∈L.set i (iU c k vs),d.length=es:=fun d hd=>by
  rcases afK hd with hd | rfl
  ·exact hl d hd
  ·rw[Hm];exact hc
 generalize hF:L.flatten=F at *
 cases ho with
 | nil=>simp at DZ;omega
 | emp=>simp at DZ;omega
 | @mk i0 off n cap ex _ ct lo xX fl jh hg hf gY jA ic hn ik hs h1 he=>
  have gU:i<n:=by
   rw[ll] at hn
   exact Nat.eq_of_mul_eq_mul_right dK hn▸bE
  have e:=nJ .i64
  rw[yL gU] at e
  injection e with e
  injection e with eb eo
  subst eb
  subst eo
  have hcn:n*es<=cap*es:=adY _ ic
  obtain⟨H',c',q1,q2,q3,q4,q5⟩:=IV vs H i0 (off+i*es+k) ct lo xX el fl hg hf (by omega) (by omega) (fun m hm=>by
   have:=hs (i*es+k+m) (by omega)
   rw[show off+i*es+k+m=off+(i*es+k+m) by omega]
   exact this) hv
  refine⟨H',q1,⟨?_,Oa⟩,⟨by omega,fun j hj Gj=>q4 j fun e=>Gj (by subst e;rw[mr he];exact .head _)⟩,q2⟩
  rw[hfs]
  refine .mk (by omega) q3 hf gY jA ic (by rw[Hm];exact hn) (fun m w hm => ?_) (fun m hm => ?_) (fun w hw => ?_) he
  ·rw[q5]
   rw[zG _ _ _ _ (by omega)] at hm
   split at hm
   ·rw[if_pos (by omega),show off+m-(off+i*es+k)=m-(i*es+k) by omega];exact hm
   ·rw[if_neg (by omega)];exact ik m w hm
  ·rw[q5]
   split
   ·rename_i hb
    rw[aaM (by omega)];rfl
   ·exact hs m hm
  ·obtain⟨m,hm⟩:=ac1 hw
   rw[zG _ _ _ _ (by omega)] at hm
   split at hm
   ·exact hv w (aa2 hm)
   ·exact h1 w (aa2 hm)
theorem OL.fR {H:Hp} {el es:Nat} {x:AV} {L:List (List AV)} (h:OL H el es x L) {i k b o:Nat} {c:List AV} {v:AV} (hi:L[i]? = some c) (nJ:∀ kd,ia es x (.int kd i)=some (.ptr b o)) (hv:bq v=true) (hk:k<es) :
  ∃ H',st 1 (.ptr b (o+k)) v H=some H'/\OL H' el es x (L.set i (c.set k v))/\Out (ak x) H H'/\H'.next=H.next:=by
 obtain⟨H',h1,h2⟩:=h.L4 (k:=k) (vs:=[v]) hi nJ (fun u hu=>by rw[aan] at hu;subst hu;exact hv) (by simp only[abx,acm];omega) (by omega)
 refine⟨H',?_,h2⟩
 unfold st
 simp only[K3 hv]
 exact h1
theorem OL.stN {H:Hp} {el es:Nat} {x:AV} {L:List (List AV)} (h:OL H el es x L) {i b o:Nat} {vs:List AV} (hi:i<L.length) (nJ:∀ kd,ia es x (.int kd i)=some (.ptr b o)) (hv:vs.all bq=true) (hn:vs.length=es) (dK:0<es) :
  ∃ H',st es (.ptr b o) (.agg vs) H=some H'/\OL H' el es x (L.set i vs)/\Out (ak x) H H'/\H'.next=H.next:=by
 have jh:L[i]? = some L[i]:=aaM hi
 obtain⟨H',h1,h2⟩:=h.L4 (k:=0) (vs:=vs) jh nJ (adn.1 hv) (by omega) dK
 rw[Vh vs _ (by rw[hn,h.2 _ (aa2 jh)])] at h2
 refine⟨H',?_,h2⟩
 unfold st
 have:Nat.beq es vs.length=true:=by rw[hn];exact afB _
 simp only[z7,this,cond_true]
 exact h1
end Go.Proofs.YtodfajmihkagnaaGreatDoor.Am.K
namespace Go.Proofs.YtodfajmihkagnaaGreatDoor.DfK
open Go Am Am.K mf og lH qz
structure RT where
 ph:Int
 tr:Int
 jo:Int
 rE:aq
 deriving DecidableEq
def eR (t:RT):List AV:=[.int .i64 t.ph,.int .i64 t.tr,.int .i64 t.jo,.str t.rE]
def fS (l:List RT):List (List AV):=l.map eR
structure Rn where
 ts:List Tk
 st:Int
 rs:List RT
 sg:List aq
abbrev rv (dx:AV) (st:Int) (tx sx:AV):List AV:=[dx,.int .i64 st,tx,sx]
structure RV (H:Hp) (dx:AV) (xs:List AV) (tx sx:AV) (R:Rn):Prop where
 d:RD H dx xs R.ts
 t:RL H 4 tx (fS R.rs)
 s:Rw H 1 sx (strs R.sg)
def nA (dx:AV) (xs:List AV) (tx sx:AV):List Nat:=lE dx xs++(ak tx++ak sx)
theorem RV.out {H H':Hp} {dx tx sx:AV} {xs:List AV} {R:Rn} {S:List Nat} (h:RV H dx xs tx sx R) (k:Out S H H') (hs:∀ j∈nA dx xs tx sx,j∉S):RV H' dx xs tx sx R:=
 ⟨h.d.out k fun j hj=>hs j (abG _ hj),h.t.out k fun j hj=>hs j (abB _ (abG _ hj)),h.s.out k fun j hj=>hs j (abB _ (abB _ hj))⟩
theorem RV.aw {H H':Hp} {dx tx sx:AV} {xs:List AV} {R:Rn} (h:RV H dx xs tx sx R) (k:Out [] H H'):RV H' dx xs tx sx R:=h.out k fun _ _ q=>by cases q
theorem RV.lt {H:Hp} {dx tx sx:AV} {xs:List AV} {R:Rn} (h:RV H dx xs tx sx R):∀ j∈nA dx xs tx sx,j<H.next:=fun j hj=>by
 rcases abP.1 hj with hj | hj
 ·exact h.d.lt j hj
 ·rcases abP.1 hj with hj | hj
  ·exact h.t.1.lt j hj
  ·exact h.s.lt j hj
theorem Bb (l:List RT):(fS l).length=l.length:=by simp[fS]
theorem rz {l:List RT} {i:Nat} {t:RT} (h:l[i]? = some t):(fS l)[i]? = some (eR t):=by simp[fS,h]
theorem RV.Va {H:Hp} {dx tx sx:AV} {xs:List AV} {R:Rn} (h:RV H dx xs tx sx R):aV tx=some (.int .i64 (R.rs.length:Nat)):=by
 have:=h.t.len (by decide)
 rw[Bb] at this;exact this
theorem I8 (t:RT):(eR t).length=4:=rfl
theorem za (t:RT):(eR t)[0]? = some (.int .i64 t.ph)/\(eR t)[1]? = some (.int .i64 t.tr)/\(eR t)[2]? = some (.int .i64 t.jo)/\(eR t)[3]? = some (.str t.rE):=⟨rfl,rfl,rfl,rfl⟩
theorem Ym (t:RT) (H:Hp):st 4 (.ptr H.next 0) (.agg (eR t)) (al H [(.int .i64 0),(.int .i64 0),(.int .i64 0),(.str [])] 132 0)=some (al H (eR t) 132 0):=
 kq rfl rfl rfl (by decide) rfl
def oe (R:Rn) (task:Int):Int:=if task<0\/(R.rs.length:Int)<=task then 1 else if R.st=0 then 0 else 9
theorem Zr {H:Hp} {dx tx sx:AV} {xs:List AV} {R:Rn} (h:RV H dx xs tx sx R) (task:Int) :
  cK (.func (.func 108) [] []) [.agg (rv dx R.st tx sx),.int .i64 task] H=some (.int .i64 (oe R task),al H (rv dx R.st tx sx) 75 0):=by
 refine aed ?_
 have hl:=h.Va
 have c:=bD H (rv dx R.st tx sx) 75 0
 have bg:bx 75 (.agg (rv dx R.st tx sx)) H=some (H.next,al H (rv dx R.st tx sx) 75 0):=iE (by simp)
 have k1:cellAt (al H (rv dx R.st tx sx) 75 0) H.next 1=some (.int .i64 R.st):=c.cellAt rfl
 have k2:cellAt (al H (rv dx R.st tx sx) 75 0) H.next 2=some tx:=c.cellAt rfl
 generalize al H (rv dx R.st tx sx) 75 0=H1 at *
 unfold ZQ oe
 by_cases h1:task<0
 ·have d1:decide (task<0)=true:=decide_eq_true h1
  rw[if_pos (.inl h1)]
  simp(disch:=(first|assumption|omega|(simp only[ag,af,simprocAttr]<;>fail)|(simp only[af];omega)|(simp only[ag,af,simprocAttr, *]<;>fail)|fail))only[bg,d1,au,ar,aj,ai,simprocAttr]
 ·have d1:decide (task<0)=false:=decide_eq_false h1
  by_cases h2:(R.rs.length:Int)<=task
  ·have d2:decide ((R.rs.length:Int)<=task)=true:=decide_eq_true h2
   rw[if_pos (.inr h2)]
   simp(disch:=(first|assumption|omega|(simp only[ag,af,simprocAttr]<;>fail)|(simp only[af];omega)|(simp only[ag,af,simprocAttr, *]<;>fail)|fail))only[bg,d1,d2,k1,k2,hl,au,ar,aj,ai,simprocAttr]
  ·have d2:decide ((R.rs.length:Int)<=task)=false:=decide_eq_false h2
   rw[if_neg (fun q=>q.elim h1 h2)]
   by_cases h3:R.st=0
   ·have d3:(R.st != 0)=false:=by simp[h3]
    rw[if_pos h3]
    simp(disch:=(first|assumption|omega|(simp only[ag,af,simprocAttr]<;>fail)|(simp only[af];omega)|(simp only[ag,af,simprocAttr, *]<;>fail)|fail))only[bg,d1,d2,d3,k1,k2,hl,au,ar,aj,ai,simprocAttr]
   ·have d3:(R.st != 0)=true:=by simp[h3]
    rw[if_neg h3]
    simp(disch:=(first|assumption|omega|(simp only[ag,af,simprocAttr]<;>fail)|(simp only[af];omega)|(simp only[ag,af,simprocAttr, *]<;>fail)|fail))only[bg,d1,d2,d3,k1,k2,hl,au,ar,aj,ai,simprocAttr]
theorem HP {R:Rn} {task:Int} (h:oe R task=0):∃ (i:Nat) (t:RT),task=i/\R.rs[i]? = some t/\R.st=0:=by
 unfold oe at h
 split at h
 ·cases h
 ·rename_i h1
  rw[not_or] at h1
  split at h
  ·rename_i h2
   exact⟨task.toNat,R.rs[task.toNat]'(by omega),by omega,aaM _,h2⟩
  ·cases h
def mN (R:Rn) (task bH:Int):Int:=if oe R task=0 then (match R.rs[task.toNat]? with | some t=>if t.ph=2/\t.tr=bH then 0 else 8 | none=>0) else oe R task
theorem VP {H:Hp} {dx tx sx:AV} {xs:List AV} {R:Rn} (h:RV H dx xs tx sx R) (task bH:Int) :
  ∃ H',cK (.func (.func 109) [] []) [.agg (rv dx R.st tx sx),.int .i64 task,.int .i64 bH] H=some (.int .i64 (mN R task bH),H')/\Out [] H H':=by
 have c:=bD H (rv dx R.st tx sx) 75 0
 have o1:=aN H (rv dx R.st tx sx) 75 0
 have bg:bx 75 (.agg (rv dx R.st tx sx)) H=some (H.next,al H (rv dx R.st tx sx) 75 0):=iE (by simp)
 have k0:av (al H (rv dx R.st tx sx) 75 0) H.next 0 4=some (rv dx R.st tx sx):=c.av 4 0 (by simp)
 have hm:=Zr (h.aw o1) task
 have o2:=aN (al H (rv dx R.st tx sx) 75 0) (rv dx R.st tx sx) 75 0
 have c2:=c.out o2 (by simp)
 have bU:=o1.trans o2
 generalize al H (rv dx R.st tx sx) 75 0=H1 at *
 generalize al H1 (rv dx R.st tx sx) 75 0=H2 at *
 have k2:cellAt H2 H.next 2=some tx:=c2.cellAt rfl
 by_cases h0:oe R task=0
 ·obtain⟨i,t,rfl,ht,aD⟩:=HP h0
  have d0:(oe R (i:Int) != 0)=false:=by simp[h0]
  obtain⟨b,o,q1,q2,q3,q4,q5⟩:=(h.t.aw bU).at (by decide) (rz ht)
  have zr:=Ym t H2
  obtain⟨e0,e1,e2,e3⟩:=za t
  have o3:=aN H2 (eR t) 132 0
  refine⟨al H2 (eR t) 132 0,Zc ?_,bU.trans o3⟩
  unfold I5 mN
  rw[if_pos h0,ab9,ht]
  simp only
  by_cases p1:t.ph=2
  ·have d1:(t.ph != 2)=false:=by simp[p1]
   by_cases p2:t.tr=bH
   ·have d2:(t.tr != bH)=false:=by simp[p2]
    rw[if_pos ⟨p1,p2⟩]
    simp(disch:=(first|assumption|omega|(simp only[ag,af,simprocAttr]<;>fail)|(simp only[af];omega)|(simp only[ag,af,simprocAttr, *]<;>fail)|fail))only[bg,k0,hm,d0,k2,q1,q4,zr,e0,e1,d1,d2,au,ar,aj,ai,simprocAttr]
   ·have d2:(t.tr != bH)=true:=by simp[p2]
    rw[if_neg (fun q=>p2 q.2)]
    simp(disch:=(first|assumption|omega|(simp only[ag,af,simprocAttr]<;>fail)|(simp only[af];omega)|(simp only[ag,af,simprocAttr, *]<;>fail)|fail))only[bg,k0,hm,d0,k2,q1,q4,zr,e0,e1,d1,d2,au,ar,aj,ai,simprocAttr]
  ·have d1:(t.ph != 2)=true:=by simp[p1]
   rw[if_neg (fun q=>p1 q.1)]
   simp(disch:=(first|assumption|omega|(simp only[ag,af,simprocAttr]<;>fail)|(simp only[af];omega)|(simp only[ag,af,simprocAttr, *]<;>fail)|fail))only[bg,k0,hm,d0,k2,q1,q4,zr,e0,e1,d1,au,ar,aj,ai,simprocAttr]
 ·have d0:(oe R task != 0)=true:=by simp[h0]
  refine⟨H2,Zc ?_,bU⟩
  unfold I5 mN
  rw[if_neg h0]
  simp(disch:=(first|assumption|omega|(simp only[ag,af,simprocAttr]<;>fail)|(simp only[af];omega)|(simp only[ag,af,simprocAttr, *]<;>fail)|fail))only[bg,k0,hm,d0,au,ar,aj,ai,simprocAttr]
theorem Ir {R:Rn} {task bH:Int} (h:mN R task bH=0):∃ (i:Nat) (t:RT),task=i/\R.rs[i]? = some t/\R.st=0/\t.ph=2/\t.tr=bH:=by
 unfold mN at h
 split at h
 ·rename_i h1
  obtain⟨i,t,rfl,ht,aD⟩:=HP h1
  rw[ab9,ht] at h
  simp only at h
  split at h
  ·rename_i h2;exact⟨i,t,rfl,ht,aD,h2.1,h2.2⟩
  ·cases h
 ·rename_i h1;exact absurd h h1
theorem am3 {H:Hp} {es:Nat} {x:AV} {l:List AV} (h:Rw H es x l):p9 x x=true:=by
 cases h<;>simp[p9]
theorem Dl {H:Hp} {es:Nat} {x:AV} {l:List AV} (h:Rw H es x l):same x x=true:=by
 cases h<;>simp[same,p9]
theorem af5 (k:IntKind) (a:Int):same (.int k a) (.int k a)=true:=by cases k<;>simp[same,p9]
theorem adB {t:Tk} {x:AV} (hx:bq x=true):∀ v∈aK t x,bq v=true:=by
 intro v hv
 simp only[aK,abn,List.not_mem_nil,or_false] at hv
 rcases hv with rfl | rfl | rfl | rfl | rfl | rfl<;>first | rfl | exact hx
theorem RD.sO {H:Hp} {dx:AV} {xs:List AV} {ts:List Tk} (h:RD H dx xs ts):∀ v∈(List.zipWith aK ts xs).flatten,bq v=true:=by
 intro v hv
 obtain⟨c,hc,hv⟩:=af9.1 hv
 obtain⟨i,hi⟩:=ac1 hc
 rw[adE] at hi
 cases ht:ts[i]? with
 | none=>rw[ht] at hi;simp at hi
 | some t=>
  cases hx:xs[i]? with
  | none=>rw[ht,hx] at hi;simp at hi
  | some x=>
   rw[ht,hx] at hi
   simp only[acu] at hi
   subst hi
   exact adB (h.jm i x t hx ht).one v hv
theorem abO (l:List RT):∀ v∈(fS l).flatten,bq v=true:=by
 intro v hv
 obtain⟨c,hc,hv⟩:=af9.1 hv
 obtain⟨t,_,rfl⟩:=acI.1 hc
 simp only[eR,abn,List.not_mem_nil,or_false] at hv
 rcases hv with rfl | rfl | rfl | rfl<;>rfl
theorem Ol {ts:List Tk} {xs:List AV}:∀ c∈List.zipWith aK ts xs,c.length=6:=by
 intro c hc
 obtain⟨i,hi⟩:=ac1 hc
 rw[adE] at hi
 cases ht:ts[i]? with
 | none=>rw[ht] at hi;simp at hi
 | some t=>
  cases hx:xs[i]? with
  | none=>rw[ht,hx] at hi;simp at hi
  | some x=>
   rw[ht,hx] at hi
   simp only[acu] at hi
   subst hi;rfl
theorem HX (l:List RT):∀ c∈fS l,c.length=4:=fun c hc=>by
 obtain⟨t,_,rfl⟩:=acI.1 hc;rfl
theorem ag6 {ts:List Tk} {xs:List AV} {i:Nat} {t:Tk} {x y:AV} (ht:ts[i]? = some t) (hx:xs[i]? = some x):(List.zipWith aK ts xs).set i ((aK t x).set 1 y)=List.zipWith aK ts (xs.set i y):=by
 apply agM
 intro k
 rw[afp,adE,adE,afp]
 have bE:=(aaK.1 ht).1
 have eC:=(aaK.1 hx).1
 by_cases e:i=k
 ·subst e
  rw[if_pos rfl,if_pos rfl,if_pos eC,if_pos (by rw[aeP];omega),ht];rfl
 ·rw[if_neg e,if_neg e]
theorem Yu {ts:List Tk} {dx bO:AV} {P B:Nat} (hn:ts.length<=1000) (dq:∀ t∈ts,t.after.length<=1000):∀ (r:List Tk) (i:Nat) (H:Hp) (xk:List AV),i<=ts.length->ts.drop i=r->RD H dx xk ts->OL H 99 6 dx (List.zipWith aK ts xk)->cellAt H P 0=some dx->P<H.next->B<=H.next->P∉ak dx->(∀ x∈xk,∀ j∈ak x,j∉ak dx)->(∀ (m:Nat) (x:AV),m<i->xk[m]? = some x->∀ j∈ak x,B<=j)->
  ∃ Jt H',(∀ iC:K.Fn 2,EA JN GO cK iC (.ptr P 0) bO dx (.int .i64 (ts.length:Nat)) (.int .i64 (i:Nat)) H=iC (.ptr P 0) bO H')/\RD H' dx Jt ts/\(∀ x∈Jt,∀ j∈ak x,B<=j/\j∉ak dx)/\Out (ak dx) H H'
 | [],i,H,xk,hi,h,hR,hO,hP,MY,hB,ym,hd,hb=>by
  obtain rfl:=drop_nil hi h
  refine⟨xk,H,fun iC => ?_,hR,fun x hx j hj=>⟨?_,hd x hx j hj⟩,Out.refl _ _⟩
  ·rw[WY]
   simp only[Ig,fw,aj,ai,simprocAttr]
  ·obtain⟨m,hm⟩:=ac1 hx
   have:=(aaK.1 hm).1
   rw[hR.len] at this
   exact hb m x this hm j hj
 | t::r,i,H,xk,hi,h,hR,hO,hP,MY,hB,ym,hd,hb=>by
  obtain⟨h1,h2,h3⟩:=fC h
  have ht:=aa2 h2
  obtain⟨x,b,o,q0,q1,q2,q3,q4,q5,q6⟩:=hR.at h2
  have es:=fF h1 (by omega)
  have o1:=aN H (aK t x) 99 0
  have aD:=wG t x q1 H
  obtain⟨e0,e1,e2,e3,e4,e5⟩:=sA t x
  obtain⟨y,H2,y1,y2,y3,y4,y5⟩:=agn (q2.aw o1) (fun v hv=>by obtain⟨z,_,rfl⟩:=acI.1 hv;rfl) (by rw[kU];have:=dq t ht;omega)
  have o2:=o1.trans y3
  have gT:=o2.nx
  have fX:=hR.row.1.lt
  have yp:=hO.out o2 (by simp)
  have hzi:(List.zipWith aK ts xk)[i]? = some (aK t x):=by rw[adE,h2,q0]
  obtain⟨H3,w1,w2,w3,w4⟩:=yp.fR (k:=1) hzi q3 y2.kf (by decide)
  rw[ag6 h2 q0] at w2
  have hP1:cellAt (al H (aK t x) 99 0) P 0=some dx:=by rw[tX MY];exact hP
  have Su:cellAt H2 P 0=some dx:=by rw[o2.cellAt MY (by simp)];exact hP
  have ug:cellAt H3 P 0=some dx:=by rw[w3.cellAt (by omega) ym];exact Su
  have aos:=(aaK.1 q0).1
  have XS:∀ j∈ak y,j∉ak dx:=fun j hj z=>by have:=y4 j hj;rw[cj] at this;have:=fX j z;omega
  have hyb:∀ j∈ak y,B<=j:=fun j hj=>by have:=y4 j hj;rw[cj] at this;omega
  have qt:RD H3 dx (xk.set i y) ts:=by
   refine⟨by rw[acT];exact hR.len,w2.rl,fun m z u hz hu => ?_⟩
   rw[afp] at hz
   split at hz
   ·rename_i e
    subst e
    cases hz
    rw[h2] at hu;cases hu
    exact y2.rw.out w3 XS
   ·exact ((hR.jm m z u hz hu).aw o2).out w3 (hd z (aa2 hz))
  obtain⟨Jt,H',i1,i2,i3,i4⟩:=Yu (bO:=bO) (P:=P) (B:=B) hn dq r (i+1) H3 (xk.set i y) h1 h3 qt w2 ug (by omega) (by omega) ym (fun z hz=>by
   rcases afK hz with hz | rfl
   ·exact hd z hz
   ·exact XS) (fun m z hm hz=>by
   rw[afp] at hz
   split at hz
   ·cases hz
    exact hyb
   ·exact hb m z (by omega) hz)
  refine⟨Jt,H',fun iC => ?_,i2,i3,((o2.mono fun j hj=>by cases hj).trans w3).trans i4⟩
  rw[WY]
  simp(disch:=(first|assumption|omega|(simp only[ag,af,simprocAttr]<;>fail)|(simp only[af];omega)|(simp only[ag,af,simprocAttr, *]<;>fail)|fail))only[Ig,bN h1,q3,q5,aD,hP1,e1,y1,w1,Su,nH (Dl hR.row.1),es,i1,au,ar,aj,ai,simprocAttr]
structure RO (H:Hp) (dx:AV) (xs:List AV) (tx sx:AV) (R:Rn):Prop where
 v:RV H dx xs tx sx R
 t:OL H 132 4 tx (fS R.rs)
 s:Ow H 9 1 sx (strs R.sg)
 dt:∀ j∈ak tx,j∉lE dx xs/\j∉ak sx
 ds:∀ j∈ak sx,j∉lE dx xs
structure Sm (R:Rn):Prop where
 n:R.ts.length<=1000
 a:∀ t∈R.ts,t.after.length<=1000
 r:R.rs.length<=1000
 s:R.sg.length<=1000
theorem AD {H:Hp} {dx tx sx:AV} {xs:List AV} {R:Rn} (h:RV H dx xs tx sx R) (hs:Sm R) :
  ∃ ay bC az aB H',cK (.func (.func 97) [] []) [.agg (rv dx R.st tx sx)] H=some (.agg (rv ay R.st az aB),H')/\RO H' ay bC az aB R/\Out [] H H'/\∀ j∈nA ay bC az aB,H.next<=j:=by
 have bg:bx 75 (.agg (rv dx R.st tx sx)) H=some (H.next,al H (rv dx R.st tx sx) 75 0):=iE (by simp)
 have o1:=aN H (rv dx R.st tx sx) 75 0
 have c1:=bD H (rv dx R.st tx sx) 75 0
 have n1:(al H (rv dx R.st tx sx) 75 0).next=H.next+1:=rfl
 generalize al H (rv dx R.st tx sx) 75 0=H1 at *
 have eh:aL H1 [.ah,(.int .i64 0),.ah,.ah] 75 0=some (H.next+1,al H1 [.ah,(.int .i64 0),.ah,.ah] 75 0):=by rw[<-n1];exact iy (by simp)
 have o2:=aN H1 [.ah,(.int .i64 0),.ah,.ah] 75 0
 have c2:=bD H1 [.ah,(.int .i64 0),.ah,.ah] 75 0
 have n2:(al H1 [.ah,(.int .i64 0),.ah,.ah] 75 0).next=H.next+2:=by rw[cj,n1]
 rw[n1] at c2
 generalize c8:al H1 [.ah,(.int .i64 0),.ah,.ah] 75 0=H2 at *
 have bU:=o1.trans o2
 have jF:=c1.out o2 (by simp)
 have wu:=h.aw bU
 have k1:cellAt H2 H.next 0=some dx:=jF.cellAt rfl
 have gJ:=wu.d
 have ll:(List.zipWith aK R.ts xs).flatten.length<=6000:=by
  rw[xS Ol,aeP]
  have:=hs.n
  have:min R.ts.length xs.length<=1000:=afo (Nat.min_le_left _ _) hs.n
  omega
 obtain⟨ay,H3,a1,a2,a3,a4,a5⟩:=alk gJ.row.1 gJ.sO (by omega)
 have oh:=jF.out a3 (by simp)
 have gr:bq ay=true:=a2.kf
 obtain⟨H4,b1,b2,b3,b4⟩:=fR oh (by decide) (o:=0) (by simp) (v:=ay) gr
 have Dn:(rv dx R.st tx sx).set 0 ay=rv ay R.st tx sx:=rfl
 rw[Dn] at b2
 have n3:=a3.nx
 have ym:H.next∉ak ay:=fun z=>by have:=a4 _ z;omega
 have hP4:cellAt H4 H.next 0=some ay:=b2.cellAt rfl
 have qt:=gJ.aw a3
 have aod:=gJ.lt
 have ai4:=h.d.lt
 have kY:RD H4 ay xs R.ts:=⟨qt.len,(show OL H3 99 6 ay (List.zipWith aK R.ts xs) from⟨a2,Ol⟩).rl.out b3 (fun j hj=>by rw[aan];intro e;subst e;exact ym hj),fun m z u hz hu=>(qt.jm m z u hz hu).out b3 fun j hj=>by
  rw[aan]
  have:=(h.d.jm m z u hz hu).lt j hj
  omega⟩
 have hO4:OL H4 99 6 ay (List.zipWith aK R.ts xs):=(show OL H3 99 6 ay (List.zipWith aK R.ts xs) from⟨a2,Ol⟩).out b3 (fun j hj=>by rw[aan];intro e;subst e;exact ym hj)
 have fX:=kY.aV
 obtain⟨bC,H5,l1,l2,l3,l4⟩:=Yu (bO := .ptr (H.next+1) 0) (P:=H.next) (B:=H.next+2) hs.n hs.a R.ts 0 H4 xs (ab2 _) abJ kY hO4 hP4 b2.1 (by omega) ym (fun x hx j hj z=>by
  obtain⟨m,hm⟩:=ac1 hx
  have xL:=(aaK.1 hm).1
  rw[h.d.len] at xL
  have:=(h.d.jm m x _ hm (aaM xL)).lt j hj
  have:=a4 j z
  omega) (fun m x hm=>by omega)
 rw[show (((0:Nat):Int))=0 from rfl] at l1
 have S0:=b2.out l4 ym
 have n5:=l4.nx
 have aoz:∀ {S:List Nat} {A B:Hp},Out S A B->True:=fun _=>trivial
 have YL:Out (H.next::ak ay) H2 H5:=((a3.mono (S':=H.next::ak ay) fun j hj=>by cases hj).trans (b3.mono fun j hj=>by rw[aan] at hj;subst hj;exact .head _)).trans (l4.mono fun j hj => .tail _ hj)
 have St:∀ j,j<H.next->j∉H.next::ak ay:=fun j hj z=>by
  rcases abn.1 z with e | z
  ·omega
  ·have:=a4 j z;omega
 have ht5:RL H5 4 tx (fS R.rs):=wu.t.out YL fun j hj=>St j (h.t.1.lt j hj)
 have hs5:Rw H5 1 sx (strs R.sg):=wu.s.out YL fun j hj=>St j (h.s.lt j hj)
 have k2:cellAt H5 H.next 2=some tx:=S0.cellAt rfl
 obtain⟨az,H6,t1,t2,t3,t4,t5⟩:=acw ht5.1 (abO R.rs) (by rw[xS (HX _),Bb];have:=hs.r;omega)
 have cP6:=S0.out t3 (by simp)
 obtain⟨H7,u1,u2,u3,u4⟩:=fR cP6 (by decide) (o:=2) (by simp) (v:=az) t2.kf
 have qc:(rv ay R.st tx sx).set 2 az=rv ay R.st az sx:=rfl
 rw[qc] at u2
 have n6:=t3.nx
 have k3:cellAt H7 H.next 3=some sx:=u2.cellAt rfl
 have HR:∀ j,H.next+2<=j\/j<H.next->j∉[H.next]:=fun j hj=>by rw[aan];omega
 have hs7:Rw H7 1 sx (strs R.sg):=(hs5.aw t3).out u3 fun j hj=>HR j (.inr (h.s.lt j hj))
 obtain⟨aB,H8,v1,v2,v3,v4,v5⟩:=Us hs7 (fun v hv=>by obtain⟨z,_,rfl⟩:=acI.1 hv;rfl) (by rw[iP];have:=hs.s;omega)
 have cP8:=u2.out v3 (by simp)
 obtain⟨H9,w1,w2,w3,w4⟩:=fR cP8 (by decide) (o:=3) (by simp) (v:=aB) v2.kf
 have Db:(rv ay R.st az sx).set 3 aB=rv ay R.st az aB:=rfl
 rw[Db] at w2
 have n8:=v3.nx
 have k4:av H9 H.next 0 4=some (rv ay R.st az aB):=w2.av 4 0 (by simp)
 have hQd:H.next+1∉ak ay:=fun z=>by have:=a4 _ z;omega
 have hQ:∀ S:List Nat,S=[H.next]->H.next+1∉S:=fun S e=>by rw[e,aan];omega
 have cQ9:=(((((((c2.out a3 (by simp)).out b3 (hQ _ rfl)).out l4 hQd).out t3 (by simp)).out u3 (hQ _ rfl)).out v3 (by simp)).out w3 (hQ _ rfl))
 obtain⟨wz,z1,z2,z3,z4⟩:=ir (n:=4) (vs:=rv ay R.st az aB) cQ9 rfl rfl (by simp[gr,t2.kf,v2.kf,lU])
 have k5:av wz (H.next+1) 0 4=some (rv ay R.st az aB):=z2.av 4 0 (by simp)
 have AY:OL H6 132 4 az (fS R.rs):=⟨t2,HX _⟩
 have n7:=u3.nx
 have n9:=w3.nx
 have oM:∀ j,H.next+2<=j->j∉[H.next]/\j∉[H.next+1]:=fun j hj=>by rw[aan,aan];omega
 have fc:∀ j∈lE ay bC,H.next+2<=j/\j<H5.next:=fun j hj=>⟨by
  rcases abP.1 hj with hj | hj
  ·have:=a4 j hj;omega
  ·obtain⟨x,hx,hj⟩:=agl.1 hj
   exact (l3 x hx j hj).1,l2.lt j hj⟩
 have pQ:∀ j∈ak az,H5.next<=j/\j<H6.next:=fun j hj=>⟨t4 j hj,t2.rw.lt j hj⟩
 have ur:∀ j∈ak aB,H7.next<=j:=v4
 have n45:H.next+2<=H5.next:=by omega
 have WO:OL wz 132 4 az (fS R.rs):=(((AY.out u3 fun j hj=>(oM j (by have:=pQ j hj;omega)).1).out v3 (by simp)).out w3 fun j hj=>(oM j (by have:=pQ j hj;omega)).1).out z3 fun j hj=>(oM j (by have:=pQ j hj;omega)).2
 have Ru:Ow wz 9 1 aB (strs R.sg):=(v2.out w3 fun j hj=>(oM j (by have:=ur j hj;omega)).1).out z3 fun j hj=>(oM j (by have:=ur j hj;omega)).2
 have alP:RD wz ay bC R.ts:=((((l2.aw t3).out u3 fun j hj=>(oM j (fc j hj).1).1).aw v3).out w3 fun j hj=>(oM j (fc j hj).1).1).out z3 fun j hj=>(oM j (fc j hj).1).2
 have key:∀ {S:List Nat} {A B:Hp},Out [] H A->Out S A B->(∀ j∈S,H.next<=j)->Out [] H B:=fun h k hS=>h.then k fun j hj => .inr (hS j hj)
 have one:∀ (m:Nat),H.next<=m->∀ j∈[m],H.next<=j:=fun m hm j hj=>by rw[aan] at hj;omega
 have out:Out [] H wz:=key (key (key (key (key (key (key (key bU a3 (fun j hj=>by cases hj)) b3 (one _ (abe _))) l4 fun j hj=>by have:=a4 j hj;omega) t3 (fun j hj=>by cases hj)) u3 (one _ (abe _))) v3 (fun j hj=>by cases hj)) w3 (one _ (abe _))) z3 (one _ (afe _))
 refine⟨ay,bC,az,aB,wz,aeY ?_,⟨⟨alP,WO.rl,Ru.rw⟩,WO,Ru,fun j hj=>⟨fun z => ?_,fun z => ?_⟩,fun j hj z => ?_⟩,out,fun j hj => ?_⟩
 ·unfold P9
  simp(disch:=(first|assumption|omega|(simp only[ag,af,simprocAttr]<;>fail)|(simp only[af];omega)|(simp only[ag,af,simprocAttr, *]<;>fail)|fail))only[bg,eh,n1,c8,k1,a1,b1,hP4,fX,l1,k2,t1,u1,k3,v1,w1,k4,z1,k5,au,ar,aj,ai,simprocAttr]
 ·have:=pQ j hj;have:=fc j z;omega
 ·have:=pQ j hj;have:=ur j z;omega
 ·have:=ur j hj;have:=fc j z;omega
 ·rcases abP.1 hj with hj | hj
  ·have:=fc j hj;omega
  ·rcases abP.1 hj with hj | hj
   ·have:=pQ j hj;omega
   ·have:=ur j hj;omega
def xO (rs:List RT) (a:Int):Int:=((rs[a.toNat]?).map (·.ph)).getD 0
def cz (rs:List RT) (t:Tk):Bool:=t.after.any (fun a=>xO rs a != 3)
def yx (rs:List RT) (sg:List aq) (t:Tk) (r:RT):Bool:=(r.ph==0)&&(!(cz rs t)&&((t.on==[])||sg.any (fun a=>t.on==a)))
def jW (rs:List RT) (sg:List aq) (t:Tk) (r:RT):RT:=if yx rs sg t r then { r with ph:=1 } else r
def ij (R:Rn):Rn:={ R with rs:=List.zipWith (jW R.rs R.sg) R.ts R.rs,st:=if R.rs.all (fun r=>r.ph==3) then 1 else R.st }
theorem Nj (rs:List RT) (sg:List aq) (t:Tk) (r:RT):((jW rs sg t r).ph==3)=(r.ph==3):=by
 unfold jW
 split
 ·rename_i h
  unfold yx at h
  rw[aa9,beq_iff_eq] at h
  rw[h.1];rfl
 ·rfl
theorem NJ {α:Type} {p q:α->Bool}:∀ {l:List α},(∀ a∈l,p a=q a)->l.any p=l.any q
 | [],_=>rfl
 | a::l,h=>by rw[List.any_cons,List.any_cons,h a (.head _),NJ fun b hb=>h b (.tail _ hb)]
theorem anj {H:Hp} {p G:Nat} {tx:AV} {rk:List RT} (hG:cellAt H G 0=some (.ptr p 0)) (hC:cellAt H p 2=some tx) (hT:RL H 4 tx (fS rk)) {a:Int} (h0:0<=a) (h1:a<rk.length) :
  cK (.func (.func 144) [] [.ptr G 0]) [.int .i64 a] H=some (.bool (xO rk a != 3),H):=by
 obtain⟨m,rfl⟩:∃ m:Nat,a=m:=⟨a.toNat,by omega⟩
 have hm:rk[m]? = some (rk[m]'(by omega)):=aaM _
 obtain⟨b,o,q1,q2,q3,q4,q5⟩:=hT.at (by decide) (rz hm)
 have e0:=q5 0 _ (za _).1
 rw[adx] at e0
 have hp:xO rk (m:Int)=(rk[m]'(by omega)).ph:=by unfold xO;rw[ab9,hm];rfl
 refine afQ ?_
 unfold aav
 rw[hp]
 simp(disch:=(first|assumption|omega|(simp only[ag,af,simprocAttr]<;>fail)|(simp only[af];omega)|(simp only[ag,af,simprocAttr, *]<;>fail)|fail))only[hG,hC,q1,e0,au,ar,aj,ai,simprocAttr]
theorem Kq (l:List RT) (i:Nat) (t:RT):(fS l).set i (eR t)=fS (l.set i t):=by simp[fS,List.map_set]
theorem aaA {ts:List Tk} {dx tx sx:AV} {xs:List AV} {st:Int} {p G:Nat} {sg:List aq} {eE:List RT} (hn:ts.length<=1000) (dq:∀ t∈ts,t.after.length<=1000) (xQ:sg.length<=1000) (Ac:eE.length=ts.length) (ha:∀ t∈ts,∀ a∈t.after,0<=a/\a<(ts.length:Int)) (wV:p∉ak tx) (Vd:G∉ak tx) (hd:∀ j∈ak tx,j∉lE dx xs/\j∉ak sx) :
  ∀ (r:List Tk) (i:Nat) (H:Hp) (rk:List RT) (all:Bool),i<=ts.length->ts.drop i=r->Cs H p (rv dx st tx sx) 75 0->cellAt H G 0=some (.ptr p 0)->G<H.next->RD H dx xs ts->OL H 132 4 tx (fS rk)->Rw H 1 sx (strs sg)->rk.length=ts.length->(∀ k,i<=k->rk[k]? = eE[k]?)->(∀ k,k<i->rk[k]? = (List.zipWith (jW eE sg) ts eE)[k]?)->
  ∃ H',(∀ aR:K.Fn 2,uW JN GO cK aR (.ptr G 0) (.bool all) dx (.int .i64 (ts.length:Nat)) (.int .i64 (i:Nat)) H=aR (.ptr G 0) (.bool (all&&(eE.drop i).all (fun r=>r.ph==3))) H')/\Cs H' p (rv dx st tx sx) 75 0/\cellAt H' G 0=some (.ptr p 0)/\OL H' 132 4 tx (fS (List.zipWith (jW eE sg) ts eE))/\Out (ak tx) H H'
 | [],i,H,rk,all,hi,h,hC,hG,MF,hR,hO,hS,hl,h1,h2=>by
  obtain rfl:=drop_nil hi h
  have BF:rk=List.zipWith (jW eE sg) ts eE:=by
   apply agM
   intro k
   by_cases hk:k<ts.length
   ·exact h2 k hk
   ·rw[afj (by omega),afj (by rw[aeP];omega)]
  refine⟨H,fun aR => ?_,hC,hG,by rw[<-BF];exact hO,Out.refl _ _⟩
  rw[Qp,afX (by omega),List.all_nil,Bool.and_true]
  simp only[yf,fw,aj,ai,simprocAttr]
 | t::r,i,H,rk,all,hi,h,hC,hG,MF,hR,hO,hS,hl,h1,h2=>by
  obtain⟨g1,g2,g3⟩:=fC h
  have ht:=aa2 g2
  obtain⟨x,b,o,q0,q1,q2,q3,q4,q5,q6⟩:=hR.at g2
  have es:=fF g1 (by omega)
  have aD:=wG t x q1 H
  obtain⟨e0,e1,e2,e3,e4,e5⟩:=sA t x
  have o1:=aN H (aK t x) 99 0
  have cT:=bD H (aK t x) 99 0
  have xg:∀ H':Hp,Out [] H H'->cellAt H' G 0=some (.ptr p 0)/\cellAt H' p 2=some tx/\cellAt H' p 3=some sx:=fun H' k=>⟨by rw[k.cellAt MF (by simp)];exact hG,(hC.out k (by simp)).cellAt rfl,(hC.out k (by simp)).cellAt rfl⟩
  obtain⟨H2,f1,f2⟩:=akM (fv := .func (.func 144) [] [.ptr G 0]) (p:=fun a=>xO rk a != 3) (q2.aw o1) (by have:=dq t ht;omega) (fun H' k a hm=>by
   obtain⟨c1,c2,c3⟩:=xg H' (o1.trans k)
   exact⟨H',anj c1 c2 (hO.rl.aw (o1.trans k)) (ha t ht a hm).1 (by rw[hl];exact (ha t ht a hm).2),Out.refl _ _⟩)
  have o2:=o1.trans f2
  have gT:=o2.nx
  obtain⟨c1,c2,c3⟩:=xg H2 o2
  have cT2:=cT.out f2 (by simp)
  have k5:cellAt H2 H.next 5=some (.str t.on):=cT2.cellAt e5
  have kx:cellAt (al H (aK t x) 99 0) H.next 1=some x:=cT.cellAt e1
  have bE:i<eE.length:=by omega
  have zJ:eE[i]? = some (eE[i]'bE):=aaM _
  have BF:rk[i]? = some (eE[i]'bE):=by rw[h1 i (abe _),zJ]
  have ze:eE.drop i=(eE[i]'bE)::eE.drop (i+1):=(List.getElem_cons_drop bE).symm
  generalize eE[i]'bE=u at *
  obtain⟨b',o',p1,p2,p3,p4,p5⟩:=(hO.rl.aw o2).at (by decide) (rz BF)
  have u0:=p5 0 _ (za u).1
  rw[adx] at u0
  have G4:(t.after.any fun a=>xO rk a != 3)=cz eE t:=by
   unfold cz
   refine NJ fun a hm => ?_
   obtain⟨a0,a1⟩:=ha t ht a hm
   unfold xO
   by_cases hk:a.toNat<i
   ·have hz:=h2 _ hk
    rw[adE,aaM (show a.toNat<ts.length by omega),aaM (show a.toNat<eE.length by omega)] at hz
    rw[hz,aaM (show a.toNat<eE.length by omega)]
    simp only[ady,ae0]
    have:=Nj eE sg (ts[a.toNat]'(by omega)) (eE[a.toNat]'(by omega))
    simp only[bne,this]
   ·rw[h1 _ (by omega)]
  rw[G4] at f1
  have hz:(List.zipWith (jW eE sg) ts eE)[i]? = some (jW eE sg t u):=by rw[adE,g2,zJ]
  have oQ:=Yb (hS.aw o2) (by omega) t.on
  rw[ze,List.all_cons]
  have fin:∀ (H3:Hp) (Dh:List RT),Out (ak tx) H2 H3->OL H3 132 4 tx (fS Dh)->Dh.length=ts.length->(∀ k,k≠i->Dh[k]? = rk[k]?)->Dh[i]? = some (jW eE sg t u)->
    (∀ H':Hp,(∀ aR:K.Fn 2,uW JN GO cK aR (.ptr G 0) (.bool (all&&(u.ph==3))) dx (.int .i64 (ts.length:Nat)) (.int .i64 ((i+1:Nat):Int)) H3=aR (.ptr G 0) (.bool ((all&&(u.ph==3))&&(eE.drop (i+1)).all (fun r=>r.ph==3))) H')->(∀ b3 o3,ia 4 tx (.int .i64 (i:Nat))=some (.ptr b3 o3)->cellAt H3 b3 o3=some (.int .i64 (jW eE sg t u).ph))->cellAt H3 G 0=some (.ptr p 0)->cellAt H3 p 2=some tx->∀ aR:K.Fn 2,uW JN GO cK aR (.ptr G 0) (.bool all) dx (.int .i64 (ts.length:Nat)) (.int .i64 (i:Nat)) H=aR (.ptr G 0) (.bool ((all&&(u.ph==3))&&(eE.drop (i+1)).all (fun r=>r.ph==3))) H')->
    ∃ H',(∀ aR:K.Fn 2,uW JN GO cK aR (.ptr G 0) (.bool all) dx (.int .i64 (ts.length:Nat)) (.int .i64 (i:Nat)) H=aR (.ptr G 0) (.bool (all&&((u.ph==3)&&(eE.drop (i+1)).all (fun r=>r.ph==3)))) H')/\Cs H' p (rv dx st tx sx) 75 0/\cellAt H' G 0=some (.ptr p 0)/\OL H' 132 4 tx (fS (List.zipWith (jW eE sg) ts eE))/\Out (ak tx) H H':=by
   intro H3 Dh k3 EM AP aH SR iV
   have o3:Out (ak tx) H H3:=(o2.mono fun j hj=>by cases hj).trans k3
   have wX:cellAt H3 G 0=some (.ptr p 0):=by rw[o3.cellAt MF Vd];exact hG
   have Gt:=hC.out o3 wV
   have zg:=k3.nx
   obtain⟨H',i1,i2,i3,i4,i5⟩:=aaA hn dq xQ Ac ha wV Vd hd r (i+1) H3 Dh (all&&(u.ph==3)) g1 g3 Gt wX (by omega) (hR.out o3 fun j hj z=>(hd j z).1 hj) EM (hS.out o3 fun j hj z=>(hd j z).2 hj) AP (fun k hk=>by rw[aH k (by omega)];exact h1 k (by omega)) (fun k hk=>by
    by_cases e:k=i
    ·subst e;rw[SR,hz]
    ·rw[aH k e];exact h2 k (by omega))
   refine⟨H',fun aR => ?_,i2,i3,i4,o3.trans i5⟩
   rw[<-Bool.and_assoc]
   refine iV H' i1 (fun b3 o3' hb => ?_) wX (Gt.cellAt rfl) aR
   obtain⟨b4,o4,r1,r2,r3,r4,r5⟩:=EM.rl.at (by decide) (rz SR)
   have e4:=r1 .i64
   rw[hb] at e4
   cases e4
   have:=r5 0 _ (za (jW eE sg t u)).1
   rwa[adx] at this
  have mC:=Nj eE sg t u
  have ae3:jW eE sg t u=u->(∀ H':Hp,(∀ aR:K.Fn 2,uW JN GO cK aR (.ptr G 0) (.bool (all&&(u.ph==3))) dx (.int .i64 (ts.length:Nat)) (.int .i64 ((i+1:Nat):Int)) H2=aR (.ptr G 0) (.bool ((all&&(u.ph==3))&&(eE.drop (i+1)).all (fun r=>r.ph==3))) H')->∀ aR:K.Fn 2,uW JN GO cK aR (.ptr G 0) (.bool all) dx (.int .i64 (ts.length:Nat)) (.int .i64 (i:Nat)) H=aR (.ptr G 0) (.bool ((all&&(u.ph==3))&&(eE.drop (i+1)).all (fun r=>r.ph==3))) H')->
    ∃ H',(∀ aR:K.Fn 2,uW JN GO cK aR (.ptr G 0) (.bool all) dx (.int .i64 (ts.length:Nat)) (.int .i64 (i:Nat)) H=aR (.ptr G 0) (.bool (all&&((u.ph==3)&&(eE.drop (i+1)).all (fun r=>r.ph==3)))) H')/\Cs H' p (rv dx st tx sx) 75 0/\cellAt H' G 0=some (.ptr p 0)/\OL H' 132 4 tx (fS (List.zipWith (jW eE sg) ts eE))/\Out (ak tx) H H':=by
   intro e iV
   exact fin H2 rk (Out.refl _ _) (hO.out o2 (by simp)) hl (fun k hk=>rfl) (by rw[BF,e]) fun H' z _ _ _=>iV H' z
  have d3:∀ z:Bool,(u.ph==3)=z->(u.ph==3)=z:=fun z h=>h
  by_cases hr:yx eE sg t u=true
  ·have hs:jW eE sg t u={ u with ph:=1 }:=by unfold jW;rw[if_pos hr]
   obtain⟨H3,w1,w2,w3,w4⟩:=(hO.out o2 (by simp)).fR (k:=0) (v := .int .i64 1) (rz BF) p1 rfl (by decide)
   have fg:(eR u).set 0 (.int .i64 1)=eR { u with ph:=1 }:=rfl
   rw[fg,Kq] at w2
   rw[adx] at w1
   have jV:=(aaK.1 BF).1
   refine fin H3 (rk.set i { u with ph:=1 }) w3 w2 (by rw[acT];exact hl) (fun k hk=>by rw[ahK (fun e=>hk e.symm)]) (by rw[aeS jV,hs]) fun H' z hb wX Gt aR => ?_
   have qw:=hb b' o' (p1 .i64)
   rw[hs] at qw
   have Xr:cellAt H3 b' o'=some (.int .i64 1):=qw
   unfold yx at hr
   simp only[aa9,af0,ain] at hr
   obtain⟨r1,r2,r3⟩:=hr
   have r0:u.ph=0:=by simpa using r1
   have r13:(u.ph==3)=false:=by rw[r0];rfl
   rw[r13,Bool.and_false] at z ⊢
   rw[Qp]
   cases tj:(t.on==[]) with
   | true=>cases all<;>simp(disch:=(first|assumption|omega|(simp only[ag,af,simprocAttr]<;>fail)|(simp only[af];omega)|(simp only[ag,af,simprocAttr, *]<;>fail)|fail))only[yf,bN g1,q3,q5,aD,kx,f1,c1,c2,c3,p1,u0,r1,r2,k5,tj,w1,wX,Gt,Xr,es,z,au,ar,aj,ai,simprocAttr]
   | false=>
    have r3':=r3.resolve_left (by rw[tj];simp)
    rw[r3'] at oQ
    cases all<;>simp(disch:=(first|assumption|omega|(simp only[ag,af,simprocAttr]<;>fail)|(simp only[af];omega)|(simp only[ag,af,simprocAttr, *]<;>fail)|fail))only[yf,bN g1,q3,q5,aD,kx,f1,c1,c2,c3,p1,u0,r1,r2,k5,tj,oQ,w1,wX,Gt,Xr,es,z,au,ar,aj,ai,simprocAttr]
  ·have hs:jW eE sg t u=u:=by unfold jW;rw[if_neg hr]
   refine ae3 hs fun H' z aR => ?_
   rw[Qp]
   unfold yx at hr
   cases r1:(u.ph==0) with
   | false=>cases all<;>simp only[ac2,ac5] at z ⊢ <;> simp(disch:=(first|assumption|omega|(simp only[ag,af,simprocAttr]<;>fail)|(simp only[af];omega)|(simp only[ag,af,simprocAttr, *]<;>fail)|fail))only[yf,bN g1,q3,q5,aD,kx,f1,c1,c2,c3,p1,u0,r1,k5,es,z,au,ar,aj,ai,simprocAttr]
   | true=>
    cases r2:cz eE t with
    | true=>
     rw[r2] at f1
     cases all<;>simp only[ac2,ac5] at z ⊢ <;> simp(disch:=(first|assumption|omega|(simp only[ag,af,simprocAttr]<;>fail)|(simp only[af];omega)|(simp only[ag,af,simprocAttr, *]<;>fail)|fail))only[yf,bN g1,q3,q5,aD,kx,f1,c1,c2,c3,p1,u0,r1,r2,k5,es,z,au,ar,aj,ai,simprocAttr]
    | false=>
     rw[r2] at f1
     rw[r1,r2] at hr
     have tj:(t.on==[])=false:=by
      cases hq:(t.on==[]) with
      | false=>rfl
      | true=>rw[hq] at hr;simp at hr
     have hno:(sg.any fun a=>t.on==a)=false:=by
      rw[tj] at hr
      cases hq:(sg.any fun a=>t.on==a) with
      | false=>rfl
      | true=>rw[hq] at hr;simp at hr
     rw[hno] at oQ
     cases all<;>simp only[ac2,ac5] at z ⊢ <;> simp(disch:=(first|assumption|omega|(simp only[ag,af,simprocAttr]<;>fail)|(simp only[af];omega)|(simp only[ag,af,simprocAttr, *]<;>fail)|fail))only[yf,bN g1,q3,q5,aD,kx,f1,c1,c2,c3,p1,u0,r1,r2,k5,tj,oQ,es,z,au,ar,aj,ai,simprocAttr]
theorem Q5 {H:Hp} {p:Nat} {dx tx sx:AV} {xs:List AV} {R:Rn} (hC:Cs H p (rv dx R.st tx sx) 75 0) (hO:RO H dx xs tx sx R) (hp:p∉nA dx xs tx sx) (hs:Sm R) (hl:R.rs.length=R.ts.length) (ha:∀ t∈R.ts,∀ a∈t.after,0<=a/\a<(R.ts.length:Int)) :
  ∃ H',cK (.func (.func 106) [] []) [.ptr p 0] H=some (.tuple [],H')/\Cs H' p (rv dx (ij R).st tx sx) 75 0/\RO H' dx xs tx sx (ij R)/\Out (p::ak tx) H H':=by
 have bg:bx 146 (.ptr p 0) H=some (H.next,al H [.ptr p 0] 146 0):=Fx rfl
 have o1:=aN H [.ptr p 0] 146 0
 have wV:p∉ak tx:=fun z=>hp (abB _ (abG _ z))
 have QI:cellAt (al H [.ptr p 0] 146 0) H.next 0=some (.ptr p 0):=by rw[vQ rfl];rfl
 have Ei:=hC.out o1 (by simp)
 have k0:cellAt (al H [.ptr p 0] 146 0) p 0=some dx:=Ei.cellAt rfl
 have oO:=hO.v.d.aw o1
 have fX:=oO.aV
 have AF:=hO.v.t.1.lt
 obtain⟨H2,i1,i2,i3,i4,i5⟩:=aaA (G:=H.next) hs.n hs.a hs.s hl ha wV (fun z=>by have:=AF _ z;omega) hO.dt R.ts 0 (al H [.ptr p 0] 146 0) R.rs true (ab2 _) abJ Ei QI (by rw[cj];omega) oO (hO.t.out o1 (by simp)) (hO.s.rw.aw o1) hl (fun k _=>rfl) (fun k hk=>by omega)
 rw[abJ,ac2,show (((0:Nat):Int))=0 from rfl] at i1
 have gJ:=oO.out i5 fun j hj z=>(hO.dt j z).1 hj
 have Qj:=(hO.s.out o1 (by simp)).out i5 fun j hj z=>(hO.dt j z).2 hj
 have o2:Out (ak tx) H H2:=(o1.mono fun j hj=>by cases hj).trans i5
 cases kD:R.rs.all (fun r=>r.ph==3) with
 | true=>
  rw[kD] at i1
  obtain⟨H3,w1,w2,w3,w4⟩:=fR i2 (by decide) (o:=1) (by simp) (v := .int .i64 1) rfl
  have aD:(ij R).st=1:=by unfold ij;rw[kD];rfl
  have fg:(rv dx R.st tx sx).set 1 (.int .i64 1)=rv dx 1 tx sx:=rfl
  rw[fg] at w2
  have tZ:∀ {x:AV},(∀ j∈ak x,j∈nA dx xs tx sx)->∀ j∈ak x,j∉[p]:=fun hx j hj=>by rw[aan];intro e;subst e;exact hp (hx j hj)
  have vV:RD H3 dx xs R.ts:=gJ.out w3 fun j hj=>by rw[aan];intro e;subst e;exact hp (abG _ hj)
  have I7:=i4.out w3 (tZ fun j hj=>abB _ (abG _ hj))
  have Db:=Qj.out w3 (tZ fun j hj=>abB _ (abB _ hj))
  refine⟨H3,X5 ?_,by rw[aD];exact w2,⟨⟨vV,I7.rl,Db.rw⟩,I7,Db,hO.dt,hO.ds⟩,(o2.mono fun j hj => .tail _ hj).trans (w3.mono fun j hj=>by rw[aan] at hj;subst hj;exact .head _)⟩
  unfold Iv
  simp(disch:=(first|assumption|omega|(simp only[ag,af,simprocAttr]<;>fail)|(simp only[af];omega)|(simp only[ag,af,simprocAttr, *]<;>fail)|fail))only[bg,QI,k0,fX,i1,i3,w1,au,ar,aj,ai,simprocAttr]
 | false=>
  rw[kD] at i1
  have aD:(ij R).st=R.st:=by unfold ij;rw[kD];rfl
  refine⟨H2,X5 ?_,by rw[aD];exact i2,⟨⟨gJ,i4.rl,Qj.rw⟩,i4,Qj,hO.dt,hO.ds⟩,o2.mono fun j hj => .tail _ hj⟩
  unfold Iv
  simp(disch:=(first|assumption|omega|(simp only[ag,af,simprocAttr]<;>fail)|(simp only[af];omega)|(simp only[ag,af,simprocAttr, *]<;>fail)|fail))only[bg,QI,k0,fX,i1,i3,au,ar,aj,ai,simprocAttr]
abbrev iI (n:Int):Int:=IntKind.wrap .i64 n
theorem RO.out {H H':Hp} {dx tx sx:AV} {xs:List AV} {R:Rn} {S:List Nat} (h:RO H dx xs tx sx R) (k:Out S H H') (hs:∀ j∈nA dx xs tx sx,j∉S):RO H' dx xs tx sx R:=
 ⟨h.v.out k hs,h.t.out k fun j hj=>hs j (abB _ (abG _ hj)),h.s.out k fun j hj=>hs j (abB _ (abB _ hj)),h.dt,h.ds⟩
theorem RO.aw {H H':Hp} {dx tx sx:AV} {xs:List AV} {R:Rn} (h:RO H dx xs tx sx R) (k:Out [] H H'):RO H' dx xs tx sx R:=h.out k fun _ _ q=>by cases q
theorem aeh (t:RT):(eR t).all bq=true:=rfl
theorem RO.set {H:Hp} {dx tx sx:AV} {xs:List AV} {R:Rn} {i b o:Nat} (h:RO H dx xs tx sx R) (hi:i<R.rs.length) (nJ:∀ kd,ia 4 tx (.int kd i)=some (.ptr b o)) (t:RT) :
  ∃ H',st 4 (.ptr b o) (.agg (eR t)) H=some H'/\RO H' dx xs tx sx { R with rs:=R.rs.set i t }/\Out (ak tx) H H'/\H'.next=H.next:=by
 obtain⟨H',h1,h2,h3,h4⟩:=h.t.stN (vs:=eR t) (by rw[Bb];exact hi) nJ (aeh t) rfl (by decide)
 rw[Kq] at h2
 exact⟨H',h1,⟨⟨h.v.d.out h3 fun j hj z=>(h.dt j z).1 hj,h2.rl,h.v.s.out h3 fun j hj z=>(h.dt j z).2 hj⟩,h2,h.s.out h3 fun j hj z=>(h.dt j z).2 hj,h.dt,h.ds⟩,h3,h4⟩
theorem RD.VE {H:Hp} {dx:AV} {xs:List AV} {ts:List Tk} (h:RD H dx xs ts) {i:Nat} {t:Tk} (ht:ts[i]? = some t) :
  ∃ x b o,(∀ k,ia 6 dx (.int k i)=some (.ptr b o))/\b∈ak dx/\b<H.next/\bq x=true/\av H b o 6=some (aK t x)/\∀ k v,(aK t x)[k]? = some v->cellAt H b (o+k)=some v:=by
 have hi:=(aaK.1 ht).1
 have hx:xs[i]? = some (xs[i]'(by rw[h.len];exact hi)):=aaM _
 have hw:=h.jm i _ t hx ht
 have hz:(List.zipWith aK ts xs)[i]? = some (aK t (xs[i]'(by rw[h.len];exact hi))):=by rw[adE,ht,hx]
 obtain⟨b,o,h1,h2,h3,h4,h5⟩:=h.row.at (by decide) hz
 exact⟨_,b,o,h1,h2,h3,hw.one,h4,h5⟩
abbrev zR:List AV:=[.ah,.int .i64 0,.ah,.ah]
abbrev ri:Rn:=⟨[],0,[],[]⟩
theorem RO.zero (H:Hp):RO H .ah [] .ah .ah ri:=
 ⟨⟨RD.nil H,RL.nil H 4,.nil⟩,OL.nil H _ 4,.nil,fun j hj=>(by cases hj),fun j hj=>by cases hj⟩
structure lS (R:Rn):Prop where
 sm:Sm R
 len:R.rs.length=R.ts.length
 jm:∀ t∈R.ts,∀ a∈t.after,0<=a/\a<(R.ts.length:Int)
def mS (f:AV) (args:List AV) (H:Hp) (R:Rn) (e:Int):Prop:=
 ∃ dx xs tx sx H',cK f args H=some (.tuple [.agg (rv dx R.st tx sx),.int .i64 e],H')/\RO H' dx xs tx sx R/\Out [] H H'/\∀ j∈nA dx xs tx sx,H.next<=j
theorem mS.err {f:AV} {args:List AV} {H H1 H':Hp} {e:Int} {m:Nat} (h:cK f args H=some (.tuple [.agg zR,.int .i64 e],H')) (k:Out [] H H1) (k2:Out [m] H1 H') (hm:H.next<=m):mS f args H ri e:=
 ⟨.ah,[],.ah,.ah,H',h,RO.zero H',k.then k2 (fun j hj=>by rw[aan] at hj;exact .inr (by omega)),fun j hj=>by cases hj⟩
theorem kP {n m:Nat} (h:n<=m):∀ j∈[m],n<=j:=fun j hj=>by rw[aan] at hj;omega
theorem gB {H A B:Hp} {S:List Nat} (h:Out [] H A) (k:Out S A B) (hS:∀ j∈S,H.next<=j):Out [] H B:=h.then k fun j hj => .inr (hS j hj)
def oc (R:Rn) (task bH now:Int):Rn × Int:=
 if oe R task=0 then (match R.rs[task.toNat]?,R.ts[task.toNat]? with
  | some t,some d=>if t.ph=1 then (if bH=iI (t.tr+1) then ({ R with rs:=R.rs.set task.toNat ⟨2,bH,iI (now+d.wait),t.rE⟩ },0) else (ri,8)) else (ri,4)
  | _,_=>(ri,4)) else (ri,oe R task)
theorem ajP {H:Hp} {dx tx sx:AV} {xs:List AV} {R:Rn} (h:RV H dx xs tx sx R) (hk:lS R) (task bH now:Int) :
  mS (.func (.func 78) [] []) [.agg (rv dx R.st tx sx),.int .i64 task,.int .i64 bH,.int .i64 now] H (oc R task bH now).1 (oc R task bH now).2:=by
 have bg:bx 75 (.agg (rv dx R.st tx sx)) H=some (H.next,al H (rv dx R.st tx sx) 75 0):=iE (by simp)
 have o1:=aN H (rv dx R.st tx sx) 75 0
 have c1:=bD H (rv dx R.st tx sx) 75 0
 have n1:(al H (rv dx R.st tx sx) 75 0).next=H.next+1:=rfl
 generalize al H (rv dx R.st tx sx) 75 0=H1 at *
 have o2:=aN H1 zR 75 0
 have c2:=bD H1 zR 75 0
 have n2:(al H1 zR 75 0).next=H.next+2:=by rw[cj,n1]
 rw[n1] at c2
 generalize c8:al H1 zR 75 0=H2 at *
 have bU:=o1.trans o2
 have jF:=c1.out o2 (by simp)
 have k1:av H2 H.next 0 4=some (rv dx R.st tx sx):=jF.av 4 0 (by simp)
 have hm:=Zr (h.aw bU) task
 have o3:=aN H2 (rv dx R.st tx sx) 75 0
 have n3:(al H2 (rv dx R.st tx sx) 75 0).next=H.next+3:=by rw[cj,n2]
 generalize al H2 (rv dx R.st tx sx) 75 0=H3 at *
 have gX:=bU.trans o3
 have oh:=jF.out o3 (by simp)
 have qL:=c2.out o3 (by simp)
 unfold oc
 by_cases h0:oe R task=0
 ·obtain⟨i,t,rfl,ht,aD⟩:=HP h0
  have bE:=(aaK.1 ht).1
  have hd:R.ts[i]? = some (R.ts[i]'(by rw[<-hk.len];exact bE)):=aaM _
  have d0:(oe R (i:Int) != 0)=false:=by simp[h0]
  rw[if_pos h0,ab9,ht,hd]
  simp only
  generalize R.ts[i]'(by rw[<-hk.len];exact bE)=d at *
  have k2:cellAt H3 H.next 2=some tx:=oh.cellAt rfl
  obtain⟨b,o,q1,q2,q3,q4,q5⟩:=(h.t.aw gX).at (by decide) (rz ht)
  have zr:=Ym t H3
  rw[n3] at zr
  obtain⟨e0,e1,e2,e3⟩:=za t
  have o4:=aN H3 (eR t) 132 0
  have Ku:=bD H3 (eR t) 132 0
  rw[n3] at Ku
  have n4:(al H3 (eR t) 132 0).next=H.next+4:=by rw[cj,n3]
  generalize al H3 (eR t) 132 0=H4 at *
  have hz4:aL H3 [(.int .i64 0),(.int .i64 0),(.int .i64 0),(.str [])] 132 0=some (H.next+3,al H3 [(.int .i64 0),(.int .i64 0),(.int .i64 0),(.str [])] 132 0):=by rw[<-n3];exact iy (by simp)
  have mX:=gX.trans o4
  have Xz:=oh.out o4 (by simp)
  have ND:=qL.out o4 (by simp)
  have t0:cellAt H4 (H.next+3) 0=some (.int .i64 t.ph):=Ku.cellAt e0
  have t1:cellAt H4 (H.next+3) 1=some (.int .i64 t.tr):=Ku.cellAt e1
  by_cases h1:t.ph=1
  ·have d1:(t.ph != 1)=false:=by simp[h1]
   rw[if_pos h1]
   by_cases h2:bH=iI (t.tr+1)
   ·have d2:(bH != IntKind.wrap .i64 (t.tr+1))=false:=by simp[h2]
    rw[if_pos h2]
    have k4:av H4 H.next 0 4=some (rv dx R.st tx sx):=Xz.av 4 0 (by simp)
    obtain⟨ay,bC,az,aB,H5,r1,r2,r3,r4⟩:=AD (h.aw mX) hk.sm
    have n5:=r3.nx
    obtain⟨H6,s1,s2,s3,s4⟩:=ir (n:=4) (vs:=rv ay R.st az aB) (Xz.out r3 (by simp)) rfl rfl (by simp[r2.v.d.row.one,r2.t.rl.one,r2.s.kf,lU])
    have fr:∀ m,m<H.next+4->∀ j∈nA ay bC az aB,j∉[m]:=fun m hm j hj=>by rw[aan];have:=r4 j hj;omega
    have R6:=r2.out s3 (fr _ (by omega))
    obtain⟨x,b2,Jm,p1,p2,p3,p4,p5,p6⟩:=R6.v.d.VE hd
    have Ry:cellAt H6 b2 (Jm+3)=some (.int .i64 d.wait):=p6 3 _ rfl
    have kd6:cellAt H6 H.next 0=some ay:=s2.cellAt rfl
    have cT6:=(Ku.out r3 (by simp)).out s3 (by rw[aan];omega)
    have iz:b2≠H.next+3:=by have:=r4 b2 (abG _ (abG _ p2));omega
    obtain⟨H7,u1,u2,u3,u4⟩:=fR cT6 (by decide) (o:=0) (by rw[I8];omega) (v := .int .i64 2) rfl
    obtain⟨H8,v1,v2,v3,v4⟩:=fR u2 (by decide) (o:=1) (by rw[acT,I8];omega) (v := .int .i64 bH) rfl
    obtain⟨H9,w1,w2,w3,w4⟩:=fR v2 (by decide) (o:=2) (by rw[acT,acT,I8];omega) (v := .int .i64 (iI (now+d.wait))) rfl
    have fg:(((eR t).set 0 (.int .i64 2)).set 1 (.int .i64 bH)).set 2 (.int .i64 (iI (now+d.wait)))=eR ⟨2,bH,iI (now+d.wait),t.rE⟩:=rfl
    rw[fg] at w2
    have TX:cellAt H7 b2 (Jm+3)=some (.int .i64 d.wait):=by rw[u3.cellAt p3 (by rw[aan];exact iz)];exact Ry
    have kw8:cellAt H8 b2 (Jm+3)=some (.int .i64 d.wait):=by rw[v3.cellAt (by omega) (by rw[aan];exact iz)];exact TX
    have uq:H.next∉[H.next+3]:=by rw[aan];omega
    have s7:=s2.out u3 uq
    have s8:=s7.out v3 uq
    have s9:=s8.out w3 uq
    have kd7:cellAt H7 H.next 0=some ay:=s7.cellAt rfl
    have kd8:cellAt H8 H.next 0=some ay:=s8.cellAt rfl
    have kt9:cellAt H9 H.next 2=some az:=s9.cellAt rfl
    have kT9:av H9 (H.next+3) 0 4=some (eR ⟨2,bH,iI (now+d.wait),t.rE⟩):=w2.av 4 0 (by rw[I8];omega)
    have R9:=((R6.out u3 (fr _ (by omega))).out v3 (fr _ (by omega))).out w3 (fr _ (by omega))
    obtain⟨b3,o3',y1,y2,y3,y4,y5⟩:=R9.v.t.at (by decide) (rz ht)
    obtain⟨wz,z1,z2,z3,z4⟩:=R9.set bE y1 ⟨2,bH,iI (now+d.wait),t.rE⟩
    have wi:∀ m,m<H.next+4->m∉ak az:=fun m hm z=>by have:=r4 m (abB _ (abG _ z));omega
    have s10:=s9.out z3 (wi _ (by omega))
    have aj4:av wz H.next 0 4=some (rv ay R.st az aB):=s10.av 4 0 (by simp)
    have hQ:∀ m,m≠H.next+1->H.next+1∉[m]:=fun m hm=>by rw[aan];omega
    have abo:=((((((ND.out r3 (by simp)).out s3 (hQ _ (by omega))).out u3 (hQ _ (by omega))).out v3 (hQ _ (by omega))).out w3 (hQ _ (by omega))).out z3 (wi _ (by omega)))
    obtain⟨WS,g1,g2,g3,g4⟩:=ir (n:=4) (vs:=rv ay R.st az aB) abo rfl rfl (by simp[r2.v.d.row.one,r2.t.rl.one,r2.s.kf,lU])
    have kQ:av WS (H.next+1) 0 4=some (rv ay R.st az aB):=g2.av 4 0 (by simp)
    have out:=gB (gB (gB (gB (gB (gB (mX.trans r3) s3 (kP (abe _))) u3 (kP (by omega))) v3 (kP (by omega))) w3 (kP (by omega))) z3 (fun j hj=>by have:=r4 j (abB _ (abG _ hj));omega)) g3 (kP (by omega))
    refine⟨ay,bC,az,aB,WS,IP ?_,z2.out g3 (fr _ (by omega)),out,fun j hj=>by have:=r4 j hj;omega⟩
    unfold BG
    simp(disch:=(first|assumption|omega|(simp only[ag,af,simprocAttr]<;>fail)|(simp only[af];omega)|(simp only[ag,af,simprocAttr, *]<;>fail)|fail))only[bg,n1,c8,k1,hm,d0,k2,q1,q4,n3,zr,t0,t1,d1,d2,k4,r1,s1,kd6,p1,Ry,u1,v1,w1,kd7,kd8,TX,kw8,nH (Dl r2.v.d.row.1),nH (af5 _ _),kt9,kT9,y1,z1,aj4,g1,kQ,au,ar,aj,ai,simprocAttr]
   ·have d2:(bH != IntKind.wrap .i64 (t.tr+1))=true:=by simp[h2]
    rw[if_neg h2]
    obtain⟨H5,w1,w2,w3,w4⟩:=ir (n:=4) (vs:=zR) ND rfl rfl rfl
    have k5:av H5 (H.next+1) 0 4=some zR:=w2.av 4 0 (by simp)
    refine mS.err (IP (?_:_=some (_,H5))) mX w3 (afe _)
    unfold BG
    simp(disch:=(first|assumption|omega|(simp only[ag,af,simprocAttr]<;>fail)|(simp only[af];omega)|(simp only[ag,af,simprocAttr, *]<;>fail)|fail))only[bg,n1,c8,k1,hm,d0,k2,q1,q4,n3,zr,t0,t1,d1,d2,w1,k5,au,ar,aj,ai,simprocAttr]
  ·have d1:(t.ph != 1)=true:=by simp[h1]
   rw[if_neg h1]
   obtain⟨H5,w1,w2,w3,w4⟩:=ir (n:=4) (vs:=zR) ND rfl rfl rfl
   have k5:av H5 (H.next+1) 0 4=some zR:=w2.av 4 0 (by simp)
   refine mS.err (IP (?_:_=some (_,H5))) mX w3 (afe _)
   unfold BG
   simp(disch:=(first|assumption|omega|(simp only[ag,af,simprocAttr]<;>fail)|(simp only[af];omega)|(simp only[ag,af,simprocAttr, *]<;>fail)|fail))only[bg,n1,c8,k1,hm,d0,k2,q1,q4,n3,zr,t0,d1,w1,k5,au,ar,aj,ai,simprocAttr]
 ·have d0:(oe R task != 0)=true:=by simp[h0]
  rw[if_neg h0]
  obtain⟨H4,w1,w2,w3,w4⟩:=ir (n:=4) (vs:=zR) qL rfl rfl rfl
  have k5:av H4 (H.next+1) 0 4=some zR:=w2.av 4 0 (by simp)
  refine mS.err (IP (?_:_=some (_,H4))) gX w3 (afe _)
  unfold BG
  simp(disch:=(first|assumption|omega|(simp only[ag,af,simprocAttr]<;>fail)|(simp only[af];omega)|(simp only[ag,af,simprocAttr, *]<;>fail)|fail))only[bg,n1,c8,k1,hm,d0,w1,k5,au,ar,aj,ai,simprocAttr]
theorem aew {H:Hp} {z:List AV} {el n s:Nat} (k j:IntKind) (hn:n<=1048576) (hl:n*z.length<=16777216):xc z el s (.int k n) (.int j n) H=some (.slice H.next 0 n n true s,al H (List.replicate n z).flatten el 0):=by
 unfold xc
 have hr:rep n z=(List.replicate n z).flatten:=by
  unfold rep
  rfl
 have hlen:(List.replicate n z).flatten.length=n*z.length:=by simp
 simp only
 rw[if_pos ⟨by omega,by omega,by omega⟩,ab9,hr,iy (by rw[hlen];omega)]
 rfl
abbrev mU:RT:=⟨0,0,0,[]⟩
noncomputable def cu (ts:List Tk):Rn × Int:=if js ts=0 then (ij ⟨ts,0,List.replicate ts.length mU,[]⟩,0) else (ri,js ts)
theorem aak {H:Hp} {dx:AV} {xs:List AV} {ts:List Tk} (h:RD H dx xs ts) (hn:ts.length<=1000) (dq:∀ t∈ts,t.after.length<=1000) :
  mS (.func (.func 76) [] []) [dv dx] H (cu ts).1 (cu ts).2:=by
 have gr:=h.row.one
 have bg:bx 72 (.agg [dx]) H=some (H.next,al H [dx] 72 0):=iE (by simp)
 have o1:=aN H [dx] 72 0
 have c1:=bD H [dx] 72 0
 have n1:(al H [dx] 72 0).next=H.next+1:=rfl
 generalize al H [dx] 72 0=H1 at *
 have o2:=aN H1 zR 75 0
 have c2:=bD H1 zR 75 0
 have n2:(al H1 zR 75 0).next=H.next+2:=by rw[cj,n1]
 rw[n1] at c2
 generalize c8:al H1 zR 75 0=H2 at *
 have bU:=o1.trans o2
 have jF:=c1.out o2 (by simp)
 have k1:av H2 H.next 0 1=some [dx]:=jF.av 1 0 (by simp)
 obtain⟨H3,g1,o3⟩:=NI (ts:=ts) (by omega) (fun t ht=>by have:=dq t ht;omega) (h.aw bU)
 have n3:=o3.nx
 have gX:=bU.trans o3
 have oh:=jF.out o3 (by simp)
 have qL:=c2.out o3 (by simp)
 unfold cu
 by_cases h0:js ts=0
 ·rw[if_pos h0]
  have hq:1<=ts.length/\ts.length<=16/\um ts:=by
   have h:=h0
   unfold js at h
   split at h
   ·cases h
   ·rename_i h1
    split at h
    ·cases h
    ·split at h
     ·cases h
     ·split at h
      ·cases h
      ·split at h
       ·cases h
       ·rename_i h4
        have h1:=agt.1 h1
        exact⟨h1.1,h1.2,K2 (by simpa using h4)⟩
  rw[h0] at g1
  have k2:av H3 H.next 0 1=some [dx]:=oh.av 1 0 (by simp)
  have k3:cellAt H3 H.next 0=some dx:=oh.cellAt rfl
  have qt:=h.aw gX
  have fX:=qt.aV
  have ll:(List.replicate ts.length [(AV.int .i64 0),(.int .i64 0),(.int .i64 0),(.str [])]).flatten=(fS (List.replicate ts.length mU)).flatten:=by
   simp[fS,eR]
  have yT:=aew (H:=H3) (z:=[(.int .i64 0),(.int .i64 0),(.int .i64 0),(.str [])]) (el:=132) (s:=4) (n:=ts.length) .i64 .i64 (by omega) (by simp;omega)
  rw[ll] at yT
  have o4:=aN H3 (fS (List.replicate ts.length mU)).flatten 132 0
  have cM:=bD H3 (fS (List.replicate ts.length mU)).flatten 132 0
  have n4:(al H3 (fS (List.replicate ts.length mU)).flatten 132 0).next=H3.next+1:=rfl
  generalize al H3 (fS (List.replicate ts.length mU)).flatten 132 0=H4 at *
  have aaI:(fS (List.replicate ts.length mU)).flatten.length=ts.length*4:=by rw[xS (HX _),Bb,ad6]
  have yt:RL H4 4 (.slice H3.next 0 ts.length ts.length true 4) (fS (List.replicate ts.length mU)):=⟨.mk cM.ro (by rw[aaI]) (abe _) (by rw[ac2,<-afq,Nat.beq_eq];omega),HX _⟩
  have hV4:RV H4 dx xs (.slice H3.next 0 ts.length ts.length true 4) .ah ⟨ts,0,List.replicate ts.length mU,[]⟩:=⟨qt.aw o4,yt,.nil⟩
  have Lr:lS ⟨ts,0,List.replicate ts.length mU,[]⟩:=⟨⟨hn,dq,by rw[ad6];omega,by simp⟩,by simp,fun t ht a ha=>by
   obtain⟨i,hi⟩:=ac1 ht
   have:=(yA hq.2.2 hi).1 a ha
   exact⟨this.1,by show a<(ts.length:Int);omega⟩⟩
  obtain⟨ay,bC,az,aB,H5,r1,r2,r3,r4⟩:=AD hV4 Lr.sm
  have n5:=r3.nx
  have r1':cK (.func (.func 97) [] []) [.agg [dx,.int .i64 0,.slice H3.next 0 ts.length ts.length true 4,.ah]] H4=some (.agg (rv ay 0 az aB),H5):=r1
  have o5:=aN H5 (rv ay 0 az aB) 75 0
  have cA:=bD H5 (rv ay 0 az aB) 75 0
  have stA:st 4 (.ptr H5.next 0) (.agg (rv ay 0 az aB)) (al H5 zR 75 0)=some (al H5 (rv ay 0 az aB) 75 0):=kq (by simp[r2.v.d.row.one,r2.t.rl.one,r2.s.kf,lU]) rfl rfl (by decide) rfl
  have n6:(al H5 (rv ay 0 az aB) 75 0).next=H5.next+1:=rfl
  have aef:aL H5 zR 75 0=some (H5.next,al H5 zR 75 0):=iy (by simp)
  generalize hA6:al H5 (rv ay 0 az aB) 75 0=H6 at *
  have TZ:=r2.v.lt
  obtain⟨H7,s1,s2,s3,s4⟩:=Q5 (R:=⟨ts,0,List.replicate ts.length mU,[]⟩) cA (r2.aw o5) (fun z=>by have:=TZ _ z;omega) Lr.sm Lr.len Lr.jm
  have U9:∀ j∈H5.next::ak az,H4.next<=j:=fun j hj=>by
   rcases abn.1 hj with rfl | hj
   ·exact n5
   ·exact r4 j (abB _ (abG _ hj))
  have hQ7:Cs H7 (H.next+1) zR 75 0:=(((qL.out o4 (by simp)).out r3 (by simp)).out o5 (by simp)).out s4 fun z=>by have:=U9 _ z;omega
  generalize ij ⟨ts,0,List.replicate ts.length mU,[]⟩=R7 at *
  have kA7:av H7 H5.next 0 4=some (rv ay R7.st az aB):=s2.av 4 0 (by simp)
  obtain⟨H8,w1,w2,w3,w4⟩:=ir (n:=4) (vs:=rv ay R7.st az aB) hQ7 rfl rfl (by simp[r2.v.d.row.one,r2.t.rl.one,r2.s.kf,lU])
  have kQ:av H8 (H.next+1) 0 4=some (rv ay R7.st az aB):=w2.av 4 0 (by simp)
  have k4:av H4 H.next 0 1=some [dx]:=(oh.out o4 (by simp)).av 1 0 (by simp)
  have fl1:fl zR [(0,1,.agg [dx]),(2,1,.slice H3.next 0 ts.length ts.length true 4)]=some [dx,.int .i64 0,.slice H3.next 0 ts.length ts.length true 4,.ah]:=by
   rw[zN (l:=[dx]) (n:=1) rfl (by simp),HJ rfl (by simp),tV];rfl
  have smd:same (.agg [dx]) (.agg [dx])=true:=by
   show wF _ _=true
   unfold wF
   rw[am3 h.row.1];rfl
  have d0:((0:Int) != 0)=false:=rfl
  have out:=gB (gB (((gX.trans o4).trans r3).trans o5) s4 fun j hj=>by have:=U9 j hj;omega) w3 (kP (afe _))
  refine⟨ay,bC,az,aB,H8,Yw ?_,s3.out w3 (fun j hj=>by rw[aan];have:=r4 j hj;omega),out,fun j hj=>by have:=r4 j hj;omega⟩
  unfold Kf
  simp(disch:=(first|assumption|omega|(simp only[ag,af,simprocAttr]<;>fail)|(simp only[af];omega)|(simp only[ag,af,simprocAttr, *]<;>fail)|fail))only[bg,n1,c8,k1,g1,d0,k2,k3,fX,yT,fl1,r1',aef,stA,k4,nH smd,s1,kA7,w1,kQ,au,ar,aj,ai,simprocAttr]
 ·rw[if_neg h0]
  have d0:(js ts != 0)=true:=by simp[h0]
  obtain⟨H4,w1,w2,w3,w4⟩:=ir (n:=4) (vs:=zR) qL rfl rfl rfl
  have k5:av H4 (H.next+1) 0 4=some zR:=w2.av 4 0 (by simp)
  refine mS.err (Yw (?_:_=some (_,H4))) gX w3 (afe _)
  unfold Kf
  simp(disch:=(first|assumption|omega|(simp only[ag,af,simprocAttr]<;>fail)|(simp only[af];omega)|(simp only[ag,af,simprocAttr, *]<;>fail)|fail))only[bg,n1,c8,k1,g1,d0,w1,k5,au,ar,aj,ai,simprocAttr]
def pX (R:Rn) (task bH:Int) (data:aq):Rn × Int:=
 if mN R task bH=0 then (ij { R with rs:=R.rs.set task.toNat ⟨3,bH,0,data⟩ },0) else (ri,mN R task bH)
theorem lS.set {R:Rn} (h:lS R) (i:Nat) (t:RT):lS { R with rs:=R.rs.set i t }:=⟨⟨h.sm.n,h.sm.a,by rw[acT];exact h.sm.r,h.sm.s⟩,by rw[acT];exact h.len,h.jm⟩
theorem ae9 {H:Hp} {dx tx sx:AV} {xs:List AV} {R:Rn} (h:RV H dx xs tx sx R) (hk:lS R) (task bH:Int) (data:aq) :
  mS (.func (.func 79) [] []) [.agg (rv dx R.st tx sx),.int .i64 task,.int .i64 bH,.str data] H (pX R task bH data).1 (pX R task bH data).2:=by
 have bg:bx 75 (.agg (rv dx R.st tx sx)) H=some (H.next,al H (rv dx R.st tx sx) 75 0):=iE (by simp)
 have o1:=aN H (rv dx R.st tx sx) 75 0
 have c1:=bD H (rv dx R.st tx sx) 75 0
 have n1:(al H (rv dx R.st tx sx) 75 0).next=H.next+1:=rfl
 generalize al H (rv dx R.st tx sx) 75 0=H1 at *
 have o2:=aN H1 zR 75 0
 have c2:=bD H1 zR 75 0
 have n2:(al H1 zR 75 0).next=H.next+2:=by rw[cj,n1]
 rw[n1] at c2
 generalize c8:al H1 zR 75 0=H2 at *
 have bU:=o1.trans o2
 have jF:=c1.out o2 (by simp)
 have k1:av H2 H.next 0 4=some (rv dx R.st tx sx):=jF.av 4 0 (by simp)
 obtain⟨H3,hm,o3⟩:=VP (h.aw bU) task bH
 have n3:=o3.nx
 have gX:=bU.trans o3
 have oh:=jF.out o3 (by simp)
 have qL:=c2.out o3 (by simp)
 unfold pX
 by_cases h0:mN R task bH=0
 ·obtain⟨i,t,rfl,ht,aD,mC,FV⟩:=Ir h0
  have bE:=(aaK.1 ht).1
  have d0:(mN R (i:Int) bH != 0)=false:=by simp[h0]
  rw[if_pos h0,ab9]
  have k3:av H3 H.next 0 4=some (rv dx R.st tx sx):=oh.av 4 0 (by simp)
  obtain⟨ay,bC,az,aB,H4,r1,r2,r3,r4⟩:=AD (h.aw gX) hk.sm
  have n4:=r3.nx
  have sO:(rv ay R.st az aB).all bq=true:=by simp[r2.v.d.row.one,r2.t.rl.one,r2.s.kf,lU]
  obtain⟨H5,s1,s2,s3,s4⟩:=ir (n:=4) (vs:=rv ay R.st az aB) (oh.out r3 (by simp)) rfl rfl sO
  have fr:∀ m,m<H.next+2->∀ j∈nA ay bC az aB,j∉[m]:=fun m hm j hj=>by rw[aan];have:=r4 j hj;omega
  have R5:=r2.out s3 (fr _ (by omega))
  have k5:cellAt H5 H.next 2=some az:=s2.cellAt rfl
  obtain⟨b,o,q1,q2,q3,q4,q5⟩:=R5.v.t.at (by decide) (rz ht)
  obtain⟨H6,z1,z2,z3,z4⟩:=R5.set bE q1 ⟨3,bH,0,data⟩
  have wi:∀ m,m<H.next+2->m∉ak az:=fun m hm z=>by have:=r4 m (abB _ (abG _ z));omega
  have s6:=s2.out z3 (wi _ (by omega))
  have fV:=hk.set i ⟨3,bH,0,data⟩
  obtain⟨H7,t1,t2,t3,t4⟩:=Q5 (R:={ R with rs:=R.rs.set i ⟨3,bH,0,data⟩ }) s6 z2 (fun z=>by have:=r4 _ z;omega) fV.sm fV.len fV.jm
  have Fy:∀ m,m<H.next+2->m≠H.next->m∉H.next::ak az:=fun m hm aH z=>(abn.1 z).elim aH (wi m hm)
  have Fs:=(((qL.out r3 (by simp)).out s3 (by rw[aan];omega)).out z3 (wi _ (by omega))).out t4 (Fy _ (by omega) (by omega))
  generalize ij { R with rs:=R.rs.set i ⟨3,bH,0,data⟩ }=R7 at *
  have k7:av H7 H.next 0 4=some (rv ay R7.st az aB):=t2.av 4 0 (by simp)
  obtain⟨H8,w1,w2,w3,w4⟩:=ir (n:=4) (vs:=rv ay R7.st az aB) Fs rfl rfl (by simp[r2.v.d.row.one,r2.t.rl.one,r2.s.kf,lU])
  have k8:av H8 (H.next+1) 0 4=some (rv ay R7.st az aB):=w2.av 4 0 (by simp)
  have z1':st 4 (.ptr b o) (.agg [.int .i64 3,.int .i64 bH,.int .i64 0,.str data]) H5=some H6:=z1
  have ru:∀ j∈ak az,H.next<=j:=fun j hj=>by have:=r4 j (abB _ (abG _ hj));omega
  have out:=gB (gB (gB (gB (gX.trans r3) s3 (kP (abe _))) z3 ru) t4 (fun j hj=>(abn.1 hj).elim (fun e=>by omega) (ru j))) w3 (kP (afe _))
  refine⟨ay,bC,az,aB,H8,Xi ?_,t3.out w3 (fr _ (by omega)),out,fun j hj=>by have:=r4 j hj;omega⟩
  unfold Jk
  simp(disch:=(first|assumption|omega|(simp only[ag,af,simprocAttr]<;>fail)|(simp only[af];omega)|(simp only[ag,af,simprocAttr, *]<;>fail)|fail))only[bg,n1,c8,k1,hm,d0,k3,r1,s1,k5,q1,z1',t1,k7,w1,k8,au,ar,aj,ai,simprocAttr]
 ·have d0:(mN R task bH != 0)=true:=by simp[h0]
  rw[if_neg h0]
  obtain⟨H4,w1,w2,w3,w4⟩:=ir (n:=4) (vs:=zR) qL rfl rfl rfl
  have k5:av H4 (H.next+1) 0 4=some zR:=w2.av 4 0 (by simp)
  refine mS.err (Xi (?_:_=some (_,H4))) gX w3 (afe _)
  unfold Jk
  simp(disch:=(first|assumption|omega|(simp only[ag,af,simprocAttr]<;>fail)|(simp only[af];omega)|(simp only[ag,af,simprocAttr, *]<;>fail)|fail))only[bg,n1,c8,k1,hm,d0,w1,k5,au,ar,aj,ai,simprocAttr]
def Bi:Nat->Nat->Nat
 | 0,d=>d
 | n+1,d=>if d<64000 then Bi n (min (2*d) 64000) else d
def EB (base bH:Nat):Nat:=if base=0\/bH=0 then 0 else Bi (bH-1) (min base 64000)
theorem Es (ty:Array TypeId) (x y:Int) (H:Hp):gI P .min ty [.int .i64 x,.int .i64 y] H=some (.int .i64 (if y<x then y else x),H):=aa0 rfl (id rfl)
theorem V0:∀ (n d:Nat),d<=64000->Bi n d<=64000
 | 0,d,h=>h
 | n+1,d,h=>by
  unfold Bi
  split
  ·exact V0 n _ (aiZ _ _)
  ·exact h
theorem ajJ (b t:Nat):EB b t<=64000:=by
 unfold EB
 split
 ·omega
 ·exact V0 _ _ (aiZ _ _)
theorem Tj {t:Nat} (ht:t<=1000000) {H:Hp} (fe:K.Fn 1):∀ (n d k:Nat),k+n=t->d<=64000->EG JN GO cK fe (.int .i64 (t:Nat)) (.int .i64 (d:Nat)) (.int .i64 (k:Nat)) H=fe (.int .i64 (Bi n d:Nat)) H
 | 0,d,k,h,hd=>by
  obtain rfl:k=t:=by omega
  rw[WU]
  simp only[IN,fw,Bi,aj,ai,simprocAttr]
 | n+1,d,k,h,hd=>by
  have h1:k<t:=by omega
  have es:=fF h1 (by omega)
  rw[WU]
  unfold Bi
  by_cases h2:d<64000
  ·have d2:decide (((d:Nat):Int)<64000)=true:=decide_eq_true (by omega)
   have sh:A7 (.int .i64 ((d:Nat):Int)) (.int .u64 1)=some (.int .i64 ((2*d:Nat):Int)):=by
    have:=aj5 (k := .i64) (j := .u64) (a:=d) (b:=1)
    rw[show (((1:Nat):Int))=1 from rfl] at this
    rw[this,show min 1 IntKind.i64.bits=1 from rfl,Nat.pow_one,Nat.mul_comm,wrap_i64 (by omega) (by omega)]
   have hm:(if (64000:Int)<((2*d:Nat):Int) then (64000:Int) else ((2*d:Nat):Int))=((min (2*d) 64000:Nat):Int):=by
    split<;>omega
   have Ep:=Es #[2,2] ((2*d:Nat):Int) 64000 H
   rw[hm] at Ep
   have ih:=Tj ht (H:=H) fe n (min (2*d) 64000) (k+1) (by omega) (aiZ _ _)
   rw[if_pos h2]
   simp only[IN,bN h1,d2,sh,Ep,es,ih,aj,ai,simprocAttr]
  ·have d2:decide (((d:Nat):Int)<64000)=false:=decide_eq_false (by omega)
   rw[if_neg h2]
   simp only[IN,bN h1,d2,aj,ai,simprocAttr]
theorem amI {base t:Nat} (hb:base<=1000000) (ht:t<=1000000) (H:Hp):cK (.func (.func 145) [] []) [.int .i64 (base:Nat),.int .i64 (t:Nat)] H=some (.int .i64 (EB base t:Nat),H):=by
 refine ae7 ?_
 unfold aba EB
 by_cases h0:base=0
 ·have d0:decide (((base:Nat):Int)<1)=true:=decide_eq_true (by omega)
  rw[if_pos (.inl h0)]
  simp only[d0,aj,ai,simprocAttr]<;>rfl
 ·have d0:decide (((base:Nat):Int)<1)=false:=decide_eq_false (by omega)
  by_cases h1:t=0
  ·have d1:decide (((t:Nat):Int)<1)=true:=decide_eq_true (by omega)
   rw[if_pos (.inr h1)]
   simp only[d0,d1,aj,ai,simprocAttr]<;>rfl
  ·have d1:decide (((t:Nat):Int)<1)=false:=decide_eq_false (by omega)
   rw[if_neg (fun q=>q.elim h0 h1)]
   have hm:(if (64000:Int)<((base:Nat):Int) then (64000:Int) else ((base:Nat):Int))=((min base 64000:Nat):Int):=by
    split<;>omega
   have Ep:=Es #[2,2] ((base:Nat):Int) 64000 H
   rw[hm] at Ep
   have ih:=fun fe=>Tj ht (H:=H) fe (t-1) (min base 64000) 1 (by omega) (aiZ _ _)
   rw[show (((1:Nat):Int))=1 from rfl] at ih
   simp only[d0,d1,Ep,ih,aj,ai,simprocAttr]
def dM (base tr:Int):Int:=(EB base.toNat tr.toNat:Nat)
def mj (R:Rn) (i:Nat) (t:RT) (d:Tk) (now:Int):Rn:=
 if t.tr<=d.dG then { R with rs:=R.rs.set i { t with ph:=5,jo:=iI (now+dM d.base t.tr) } } else { R with rs:=R.rs.set i { t with ph:=4,jo:=0 },st:=2 }
theorem RO.bX {H H':Hp} {dx tx sx:AV} {xs:List AV} {R:Rn} {l:List RT} (h:RO H dx xs tx sx R) (hO:OL H' 132 4 tx (fS l)) (k:Out (ak tx) H H'):RO H' dx xs tx sx { R with rs:=l }:=
 ⟨⟨h.v.d.out k fun j hj z=>(h.dt j z).1 hj,hO.rl,h.v.s.out k fun j hj z=>(h.dt j z).2 hj⟩,hO,h.s.out k fun j hj z=>(h.dt j z).2 hj,h.dt,h.ds⟩
theorem XP {H:Hp} {p i:Nat} {dx tx sx:AV} {xs:List AV} {R:Rn} {t:RT} {d:Tk} (hC:Cs H p (rv dx R.st tx sx) 75 0) (hO:RO H dx xs tx sx R) (hp:p∉nA dx xs tx sx) (ht:R.rs[i]? = some t) (hd:R.ts[i]? = some d) (mW:0<=d.base) (hb:d.base<=1000000) (ht0:0<=t.tr) (ht1:t.tr<=1000000) (now:Int) :
  ∃ H',cK (.func (.func 107) [] []) [.ptr p 0,.int .i64 (i:Nat),.int .i64 now] H=some (.tuple [],H')/\Cs H' p (rv dx (mj R i t d now).st tx sx) 75 0/\RO H' dx xs tx sx (mj R i t d now)/\Out (p::ak tx) H H':=by
 have wV:p∉ak tx:=fun z=>hp (abB _ (abG _ z))
 obtain⟨x,b2,Jm,p1,p2,p3,p4,p5,p6⟩:=hO.v.d.VE hd
 have aD:=wG d x p4 H
 have o1:=aN H (aK d x) 99 0
 have cT:=bD H (aK d x) 99 0
 have c2:cellAt H p 2=some tx:=hC.cellAt rfl
 have c0:cellAt H p 0=some dx:=hC.cellAt rfl
 obtain⟨b,o,q1,q2,q3,q4,q5⟩:=(hO.v.t.aw o1).at (by decide) (rz ht)
 have r1:cellAt (al H (aK d x) 99 0) b (o+1)=some (.int .i64 t.tr):=q5 1 _ (za t).2.1
 have m2:cellAt (al H (aK d x) 99 0) H.next 2=some (.int .i64 d.dG):=cT.cellAt (sA d x).2.2.1
 have m4:cellAt (al H (aK d x) 99 0) H.next 4=some (.int .i64 d.base):=cT.cellAt (sA d x).2.2.2.2.1
 have qH:=hO.aw o1
 have Ei:=hC.out o1 (by simp)
 have bE:=(aaK.1 ht).1
 have Bq:cK (.func (.func 145) [] []) [.int .i64 d.base,.int .i64 t.tr] (al H (aK d x) 99 0)=some (.int .i64 (dM d.base t.tr),al H (aK d x) 99 0):=by
  have:=amI (base:=d.base.toNat) (t:=t.tr.toNat) (by omega) (by omega) (al H (aK d x) 99 0)
  rw[show ((d.base.toNat:Nat):Int)=d.base by omega,show ((t.tr.toNat:Nat):Int)=t.tr by omega] at this
  exact this
 generalize hA:al H (aK d x) 99 0=H1 at *
 have two:∀ (a c:Int),∃ H3 H2,st 1 (.ptr b o) (.int .i64 a) H1=some H2/\st 1 (.ptr b (o+2)) (.int .i64 c) H2=some H3/\OL H3 132 4 tx (fS (R.rs.set i { t with ph:=a,jo:=c }))/\Out (ak tx) H1 H3:=by
  intro a c
  obtain⟨H2,w1,w2,w3,w4⟩:=qH.t.fR (k:=0) (v := .int .i64 a) (rz ht) q1 rfl (by decide)
  have e2:((fS R.rs).set i ((eR t).set 0 (.int .i64 a)))[i]? = some ((eR t).set 0 (.int .i64 a)):=aeS (by rw[Bb];exact bE)
  obtain⟨H3,v1,v2,v3,v4⟩:=w2.fR (k:=2) (v := .int .i64 c) e2 q1 rfl (by decide)
  rw[List.set_set] at v2
  have fg:((eR t).set 0 (.int .i64 a)).set 2 (.int .i64 c)=eR { t with ph:=a,jo:=c }:=rfl
  rw[fg,Kq] at v2
  rw[adx] at w1
  exact⟨H3,H2,w1,v1,v2,w3.trans v3⟩
 unfold mj
 by_cases hle:t.tr<=d.dG
 ·have dl:decide (t.tr<=d.dG)=true:=decide_eq_true hle
  obtain⟨H3,H2,v1,v2,v3,v4⟩:=two 5 (iI (now+dM d.base t.tr))
  rw[if_pos hle]
  refine⟨H3,Xt ?_,Ei.out v4 wV,qH.bX v3 v4,(o1.mono fun j hj=>by cases hj).trans (v4.mono fun j hj => .tail _ hj)⟩
  unfold Ic
  simp(disch:=(first|assumption|omega|(simp only[ag,af,simprocAttr]<;>fail)|(simp only[af];omega)|(simp only[ag,af,simprocAttr, *]<;>fail)|fail))only[c2,c0,q1,p1,p5,aD,hA,r1,m2,m4,dl,Bq,v1,v2,au,ar,aj,ai,simprocAttr]
 ·have dl:decide (t.tr<=d.dG)=false:=decide_eq_false hle
  obtain⟨H3,H2,v1,v2,v3,v4⟩:=two 4 0
  rw[if_neg hle]
  obtain⟨H4,w1,w2,w3,w4⟩:=fR (Ei.out v4 wV) (by decide) (o:=1) (by simp) (v := .int .i64 2) rfl
  have fg:(rv dx R.st tx sx).set 1 (.int .i64 2)=rv dx 2 tx sx:=rfl
  rw[fg] at w2
  have kY:=(qH.bX v3 v4).out w3 fun j hj=>by rw[aan];intro e;subst e;exact hp hj
  refine⟨H4,Xt ?_,w2,⟨⟨kY.v.d,kY.v.t,kY.v.s⟩,kY.t,kY.s,kY.dt,kY.ds⟩,((o1.mono fun j hj=>by cases hj).trans (v4.mono fun j hj => .tail _ hj)).trans (w3.mono fun j hj=>by rw[aan] at hj;subst hj;exact .head _)⟩
  unfold Ic
  simp(disch:=(first|assumption|omega|(simp only[ag,af,simprocAttr]<;>fail)|(simp only[af];omega)|(simp only[ag,af,simprocAttr, *]<;>fail)|fail))only[c2,c0,q1,p1,p5,aD,hA,r1,m2,m4,dl,v1,v2,w1,au,ar,aj,ai,simprocAttr]
structure tW (R:Rn):Prop where
 d:∀ t∈R.ts,0<=t.base/\t.base<=1000000
 t:∀ t∈R.rs,0<=t.tr/\t.tr<=1000000
def uX (R:Rn) (task bH now:Int):Rn × Int:=
 if mN R task bH=0 then (match R.rs[task.toNat]?,R.ts[task.toNat]? with
  | some t,some d=>(mj R task.toNat t d now,0)
  | _,_=>(ri,0)) else (ri,mN R task bH)
theorem akT {H:Hp} {dx tx sx:AV} {xs:List AV} {R:Rn} (h:RV H dx xs tx sx R) (hk:lS R) (hb:tW R) (task bH now:Int) :
  mS (.func (.func 80) [] []) [.agg (rv dx R.st tx sx),.int .i64 task,.int .i64 bH,.int .i64 now] H (uX R task bH now).1 (uX R task bH now).2:=by
 have bg:bx 75 (.agg (rv dx R.st tx sx)) H=some (H.next,al H (rv dx R.st tx sx) 75 0):=iE (by simp)
 have o1:=aN H (rv dx R.st tx sx) 75 0
 have c1:=bD H (rv dx R.st tx sx) 75 0
 have n1:(al H (rv dx R.st tx sx) 75 0).next=H.next+1:=rfl
 generalize al H (rv dx R.st tx sx) 75 0=H1 at *
 have o2:=aN H1 zR 75 0
 have c2:=bD H1 zR 75 0
 have n2:(al H1 zR 75 0).next=H.next+2:=by rw[cj,n1]
 rw[n1] at c2
 generalize c8:al H1 zR 75 0=H2 at *
 have bU:=o1.trans o2
 have jF:=c1.out o2 (by simp)
 have k1:av H2 H.next 0 4=some (rv dx R.st tx sx):=jF.av 4 0 (by simp)
 obtain⟨H3,hm,o3⟩:=VP (h.aw bU) task bH
 have n3:=o3.nx
 have gX:=bU.trans o3
 have oh:=jF.out o3 (by simp)
 have qL:=c2.out o3 (by simp)
 unfold uX
 by_cases h0:mN R task bH=0
 ·obtain⟨i,t,rfl,ht,aD,mC,FV⟩:=Ir h0
  have bE:=(aaK.1 ht).1
  have hd:R.ts[i]? = some (R.ts[i]'(by rw[<-hk.len];exact bE)):=aaM _
  have d0:(mN R (i:Int) bH != 0)=false:=by simp[h0]
  rw[if_pos h0,ab9,ht,hd]
  simp only
  generalize R.ts[i]'(by rw[<-hk.len];exact bE)=d at *
  have k3:av H3 H.next 0 4=some (rv dx R.st tx sx):=oh.av 4 0 (by simp)
  obtain⟨ay,bC,az,aB,H4,r1,r2,r3,r4⟩:=AD (h.aw gX) hk.sm
  have n4:=r3.nx
  have sO:∀ z:Int,(rv ay z az aB).all bq=true:=fun z=>by simp[r2.v.d.row.one,r2.t.rl.one,r2.s.kf,lU]
  obtain⟨H5,s1,s2,s3,s4⟩:=ir (n:=4) (vs:=rv ay R.st az aB) (oh.out r3 (by simp)) rfl rfl (sO _)
  have fr:∀ m,m<H.next+2->∀ j∈nA ay bC az aB,j∉[m]:=fun m hm j hj=>by rw[aan];have:=r4 j hj;omega
  have R5:=r2.out s3 (fr _ (by omega))
  have wi:∀ m,m<H.next+2->m∉ak az:=fun m hm z=>by have:=r4 m (abB _ (abG _ z));omega
  have b1:=hb.d d (aa2 hd)
  have b2:=hb.t t (aa2 ht)
  obtain⟨H7,t1,t2,t3,t4⟩:=XP s2 R5 (fun z=>by have:=r4 _ z;omega) ht hd b1.1 b1.2 b2.1 b2.2 now
  have Fy:∀ m,m<H.next+2->m≠H.next->m∉H.next::ak az:=fun m hm aH z=>(abn.1 z).elim aH (wi m hm)
  have Fs:=((qL.out r3 (by simp)).out s3 (by rw[aan];omega)).out t4 (Fy _ (by omega) (by omega))
  generalize mj R i t d now=R7 at *
  have k7:av H7 H.next 0 4=some (rv ay R7.st az aB):=t2.av 4 0 (by simp)
  obtain⟨H8,w1,w2,w3,w4⟩:=ir (n:=4) (vs:=rv ay R7.st az aB) Fs rfl rfl (sO _)
  have k8:av H8 (H.next+1) 0 4=some (rv ay R7.st az aB):=w2.av 4 0 (by simp)
  have ru:∀ j∈ak az,H.next<=j:=fun j hj=>by have:=r4 j (abB _ (abG _ hj));omega
  have out:=gB (gB (gB (gX.trans r3) s3 (kP (abe _))) t4 (fun j hj=>(abn.1 hj).elim (fun e=>by omega) (ru j))) w3 (kP (afe _))
  refine⟨ay,bC,az,aB,H8,Te ?_,t3.out w3 (fr _ (by omega)),out,fun j hj=>by have:=r4 j hj;omega⟩
  unfold O3
  simp(disch:=(first|assumption|omega|(simp only[ag,af,simprocAttr]<;>fail)|(simp only[af];omega)|(simp only[ag,af,simprocAttr, *]<;>fail)|fail))only[bg,n1,c8,k1,hm,d0,k3,r1,s1,t1,k7,w1,k8,au,ar,aj,ai,simprocAttr]
 ·have d0:(mN R task bH != 0)=true:=by simp[h0]
  rw[if_neg h0]
  obtain⟨H4,w1,w2,w3,w4⟩:=ir (n:=4) (vs:=zR) qL rfl rfl rfl
  have k5:av H4 (H.next+1) 0 4=some zR:=w2.av 4 0 (by simp)
  refine mS.err (Te (?_:_=some (_,H4))) gX w3 (afe _)
  unfold O3
  simp(disch:=(first|assumption|omega|(simp only[ag,af,simprocAttr]<;>fail)|(simp only[af];omega)|(simp only[ag,af,simprocAttr, *]<;>fail)|fail))only[bg,n1,c8,k1,hm,d0,w1,k5,au,ar,aj,ai,simprocAttr]
theorem afA {H:Hp} {g:Nat} {name:aq} (hg:cellAt H g 0=some (.str name)) (xF:g<H.next) (t:Tk) (x:AV) :
  ∃ H',cK (.func (.func 110) [] [.ptr g 0]) [.agg (aK t x)] H=some (.bool ((t.on==name)&&!(name==[])),H')/\Out [] H H':=by
 have b1:=tT t x H
 have o1:=aN H (aK t x) 99 0
 have c1:=bD H (aK t x) 99 0
 have yq:cellAt (al H (aK t x) 99 0) g 0=some (.str name):=by rw[tX xF];exact hg
 have k5:=c1.cellAt (sA t x).2.2.2.2.2
 generalize hA:al H (aK t x) 99 0=H1 at *
 refine⟨H1,alV ?_,o1⟩
 unfold aaz
 cases h1:(t.on==name) with
 | false=>simp(disch:=(first|assumption|omega|(simp only[ag,af,simprocAttr]<;>fail)|(simp only[af];omega)|(simp only[ag,af,simprocAttr, *]<;>fail)|fail))only[b1,hA,yq,k5,h1,ac5,au,ar,aj,ai,simprocAttr]
 | true=>
  cases h2:(name==[]) with
  | false=>simp(disch:=(first|assumption|omega|(simp only[ag,af,simprocAttr]<;>fail)|(simp only[af];omega)|(simp only[ag,af,simprocAttr, *]<;>fail)|fail))only[b1,hA,yq,k5,h1,h2,ac2,au,ar,aj,ai,simprocAttr]
  | true=>simp(disch:=(first|assumption|omega|(simp only[ag,af,simprocAttr]<;>fail)|(simp only[af];omega)|(simp only[ag,af,simprocAttr, *]<;>fail)|fail))only[b1,hA,yq,k5,h1,h2,ac2,au,ar,aj,ai,simprocAttr]
def IM (name:aq) (c:List AV):Bool:=match c[5]? with | some (AV.str s)=>(s==name)&&!(name==[]) | _=>false
def Ew (ts:List Tk) (name:aq):Bool:=ts.any fun t=>(t.on==name)&&!(name==[])
def si (R:Rn) (name:aq):Rn × Int:=
 if R.st≠0 then (ri,9) else if R.sg.any (fun s=>name==s) then (ri,5) else if Ew R.ts name then (ij { R with sg:=R.sg++[name] },0) else (ri,1)
theorem acf {ts:List Tk} {name:aq}:∀ {xs:List AV},xs.length=ts.length->(List.zipWith aK ts xs).any (IM name)=Ew ts name:=by
 induction ts with
 | nil=>intro xs _;rfl
 | cons t ts ih=>
  intro xs h
  cases xs with
  | nil=>simp at h
  | cons x xs=>
   simp only[abx,Nat.add_right_cancel_iff] at h
   show (IM name (aK t x)||(List.zipWith aK ts xs).any (IM name))=_
   rw[ih h]
   rfl
theorem agT {H:Hp} {dx tx sx:AV} {xs:List AV} {R:Rn} (h:RV H dx xs tx sx R) (hk:lS R) (xQ:R.sg.length<=900) (name:aq) :
  mS (.func (.func 81) [] []) [.agg (rv dx R.st tx sx),.str name] H (si R name).1 (si R name).2:=by
 have bg:bx 75 (.agg (rv dx R.st tx sx)) H=some (H.next,al H (rv dx R.st tx sx) 75 0):=iE (by simp)
 have o1:=aN H (rv dx R.st tx sx) 75 0
 have c1:=bD H (rv dx R.st tx sx) 75 0
 have n1:(al H (rv dx R.st tx sx) 75 0).next=H.next+1:=rfl
 generalize gf:al H (rv dx R.st tx sx) 75 0=H1 at *
 have oS:=aN H1 [.str name] 9 0
 have cS:=bD H1 [.str name] 9 0
 have nS:(al H1 [.str name] 9 0).next=H.next+2:=by rw[cj,n1]
 rw[n1] at cS
 generalize hAS:al H1 [.str name] 9 0=HS at *
 have o2:=aN HS zR 75 0
 have c2:=bD HS zR 75 0
 have n2:(al HS zR 75 0).next=H.next+3:=by rw[cj,nS]
 rw[nS] at c2
 generalize c8:al HS zR 75 0=H2 at *
 have bU:=(o1.trans oS).trans o2
 have jF:=(c1.out oS (by simp)).out o2 (by simp)
 have Ud:=cS.out o2 (by simp)
 have k0:cellAt H2 H.next 0=some dx:=jF.cellAt rfl
 have k1:cellAt H2 H.next 1=some (.int .i64 R.st):=jF.cellAt rfl
 have k3:cellAt H2 H.next 3=some sx:=jF.cellAt rfl
 have kS:cellAt H2 (H.next+1) 0=some (.str name):=Ud.cellAt rfl
 unfold si
 by_cases h0:R.st≠0
 ·have d0:(R.st != 0)=true:=by simp[h0]
  rw[if_pos h0]
  have k5:av H2 (H.next+2) 0 4=some zR:=c2.av 4 0 (by simp)
  refine mS.err (m:=H.next+2) (IZ (?_:_=some (_,H2))) bU ((Out.refl [] H2).mono fun j hj=>by cases hj) (by omega)
  unfold CZ
  simp(disch:=(first|assumption|omega|(simp only[ag,af,simprocAttr]<;>fail)|(simp only[af];omega)|(simp only[ag,af,simprocAttr, *]<;>fail)|fail))only[bg,gf,n1,hAS,nS,c8,k1,d0,k5,au,ar,aj,ai,simprocAttr]
 have d0:(R.st != 0)=false:=by simpa using h0
 rw[if_neg h0]
 have oQ:=Yb (h.s.aw bU) (by omega) name
 cases h5:R.sg.any (fun s=>name==s) with
 | true=>
  rw[h5] at oQ
  rw[if_pos rfl]
  obtain⟨H4,w1,w2,w3,w4⟩:=ir (n:=4) (vs:=zR) c2 rfl rfl rfl
  have k5:av H4 (H.next+2) 0 4=some zR:=w2.av 4 0 (by simp)
  refine mS.err (IZ (?_:_=some (_,H4))) bU w3 (by omega)
  unfold CZ
  simp(disch:=(first|assumption|omega|(simp only[ag,af,simprocAttr]<;>fail)|(simp only[af];omega)|(simp only[ag,af,simprocAttr, *]<;>fail)|fail))only[bg,gf,n1,hAS,nS,c8,k1,d0,k3,kS,oQ,w1,k5,au,ar,aj,ai,simprocAttr]
 | false=>
  rw[h5] at oQ
  rw[if_neg (by simp)]
  have y7:(List.zipWith aK R.ts xs).length<=1000:=by rw[aeP];exact afo (Nat.min_le_left _ _) hk.sm.n
  obtain⟨H3,f1,f2⟩:=ano (fv := .func (.func 110) [] [.ptr (H.next+1) 0]) (p:=IM name) (h.d.row.aw bU) (by omega) (fun H' k a ha=>by
   obtain⟨i,hi⟩:=ac1 ha
   rw[adE] at hi
   cases ht:R.ts[i]? with
   | none=>rw[ht] at hi;simp at hi
   | some t=>
    cases hx:xs[i]? with
    | none=>rw[ht,hx] at hi;simp at hi
    | some x=>
     rw[ht,hx] at hi
     simp only[acu] at hi
     subst hi
     have o7:=k.nx
     exact afA (g:=H.next+1) (by rw[k.cellAt (by omega) (by simp)];exact kS) (by omega) t x)
  rw[acf h.d.len] at f1
  have gX:=bU.trans f2
  have n3:=f2.nx
  have oh:=jF.out f2 (by simp)
  have cS3:=Ud.out f2 (by simp)
  have qL:=c2.out f2 (by simp)
  cases h6:Ew R.ts name with
  | false=>
   rw[h6] at f1
   rw[if_neg (by simp)]
   obtain⟨H4,w1,w2,w3,w4⟩:=ir (n:=4) (vs:=zR) qL rfl rfl rfl
   have k5:av H4 (H.next+2) 0 4=some zR:=w2.av 4 0 (by simp)
   refine mS.err (IZ (?_:_=some (_,H4))) gX w3 (by omega)
   unfold CZ
   simp(disch:=(first|assumption|omega|(simp only[ag,af,simprocAttr]<;>fail)|(simp only[af];omega)|(simp only[ag,af,simprocAttr, *]<;>fail)|fail))only[bg,gf,n1,hAS,nS,c8,k1,d0,k3,kS,oQ,k0,f1,w1,k5,au,ar,aj,ai,simprocAttr]
  | true=>
   rw[h6] at f1
   rw[if_pos rfl]
   have k4:av H3 H.next 0 4=some (rv dx R.st tx sx):=oh.av 4 0 (by simp)
   obtain⟨ay,bC,az,aB,H4,r1,r2,r3,r4⟩:=AD (h.aw gX) hk.sm
   have n4:=r3.nx
   have sO:∀ z:Int,∀ s:AV,bq s=true->(rv ay z az s).all bq=true:=fun z s hs=>by simp[r2.v.d.row.one,r2.t.rl.one,hs,lU]
   obtain⟨H5,s1,s2,s3,s4⟩:=ir (n:=4) (vs:=rv ay R.st az aB) (oh.out r3 (by simp)) rfl rfl (sO _ _ r2.s.kf)
   have fr:∀ m,m<H.next+3->∀ j∈nA ay bC az aB,j∉[m]:=fun m hm j hj=>by rw[aan];have:=r4 j hj;omega
   have R5:=r2.out s3 (fr _ (by omega))
   have Mc:cellAt H5 H.next 3=some aB:=s2.cellAt rfl
   have kS5:cellAt H5 (H.next+1) 0=some (.str name):=((cS3.out r3 (by simp)).out s3 (by rw[aan];omega)).cellAt rfl
   have TZ:=R5.v.lt
   have n5:=s3.nx
   have VH:∀ m,m<H.next+3->m∉ak aB:=fun m hm z=>by have:=r4 m (abB _ (abB _ z));omega
   obtain⟨vO,H6,p1,p2,p3,p4,p5⟩:=vP (fU:=9) (z:=[(.str [])]) (vs:=[.str name]) R5.s rfl rfl (by decide) (by rw[iP];simp;omega)
   have pW:strs R.sg++[.str name]=strs (R.sg++[name]):=by simp[strs]
   rw[pW] at p2
   have iY:=p1 _ rfl
   have n6:=p3.nx
   have s6:=s2.out p3 (VH _ (by omega))
   obtain⟨H7,v1,v2,v3,v4⟩:=Am.K.fR s6 (by decide) (o:=3) (by simp) (v:=vO) p5
   have fg:(rv ay R.st az aB).set 3 vO=rv ay R.st az vO:=rfl
   rw[fg] at v2
   have n7:=v3.nx
   have qc:∀ j∈ak vO,j∈ak aB\/H5.next<=j:=p4
   have Dv:∀ j∈nA ay bC az vO,H.next+3<=j:=fun j hj=>by
    rcases abP.1 hj with hj | hj
    ·have:=r4 j (abG _ hj);omega
    ·rcases abP.1 hj with hj | hj
     ·have:=r4 j (abB _ (abG _ hj));omega
     ·rcases qc j hj with z | z
      ·have:=r4 j (abB _ (abB _ z));omega
      ·omega
   have HR:∀ j,H.next+3<=j->j∉[H.next]:=fun j hj=>by rw[aan];omega
   have RO7:RO H7 ay bC az vO { R with sg:=R.sg++[name] }:=by
    have BT:=(R5.v.d.out p3 fun j hj z=>R5.ds j z hj).out v3 fun j hj=>HR j (Dv j (abG _ hj))
    have X7:=(R5.t.out p3 fun j hj z=>(R5.dt j hj).2 z).out v3 fun j hj=>HR j (Dv j (abB _ (abG _ hj)))
    have Yn:=p2.out v3 fun j hj=>HR j (Dv j (abB _ (abB _ hj)))
    refine⟨⟨BT,X7.rl,Yn.rw⟩,X7,Yn,fun j hj=>⟨(R5.dt j hj).1,fun z => ?_⟩,fun j hj z => ?_⟩
    ·rcases qc j z with y | y
     ·exact (R5.dt j hj).2 y
     ·have:=R5.t.rl.1.lt j hj;omega
    ·rcases qc j hj with y | y
     ·exact R5.ds j y z
     ·have:=R5.v.d.lt j z;omega
   have fV:lS { R with sg:=R.sg++[name] }:=⟨⟨hk.sm.n,hk.sm.a,hk.sm.r,by show (R.sg++[name]).length<=1000;rw[aby];simp;omega⟩,hk.len,hk.jm⟩
   obtain⟨H8,t1,t2,t3,t4⟩:=Q5 (R:={ R with sg:=R.sg++[name] }) v2 RO7 (fun z=>by have:=Dv _ z;omega) fV.sm fV.len fV.jm
   have J0:∀ j∈ak az,H.next+3<=j:=fun j hj=>by have:=r4 j (abB _ (abG _ hj));omega
   have cQ8:=((((qL.out r3 (by simp)).out s3 (by rw[aan];omega)).out p3 (VH _ (by omega))).out v3 (by rw[aan];omega)).out t4 fun z=>(abn.1 z).elim (fun e=>by omega) fun z=>by have:=J0 _ z;omega
   generalize ij { R with sg:=R.sg++[name] }=R8 at *
   have k8:av H8 H.next 0 4=some (rv ay R8.st az vO):=t2.av 4 0 (by simp)
   obtain⟨H9,w1,w2,w3,w4⟩:=ir (n:=4) (vs:=rv ay R8.st az vO) cQ8 rfl rfl (sO _ _ p5)
   have k9:av H9 (H.next+2) 0 4=some (rv ay R8.st az vO):=w2.av 4 0 (by simp)
   have out:=gB (gB (gB (gB (gB (gX.trans r3) s3 (kP (abe _))) p3 (fun j hj=>by have:=r4 j (abB _ (abB _ hj));omega)) v3 (kP (abe _))) t4 (fun j hj=>(abn.1 hj).elim (fun e=>by omega) fun z=>by have:=J0 _ z;omega)) w3 (kP (by omega))
   refine⟨ay,bC,az,vO,H9,IZ ?_,t3.out w3 (fun j hj=>by rw[aan];have:=Dv j hj;omega),out,fun j hj=>by have:=Dv j hj;omega⟩
   unfold CZ
   simp(disch:=(first|assumption|omega|(simp only[ag,af,simprocAttr]<;>fail)|(simp only[af];omega)|(simp only[ag,af,simprocAttr, *]<;>fail)|fail))only[bg,gf,n1,hAS,nS,c8,k1,d0,k3,kS,oQ,k0,f1,k4,r1,s1,Mc,kS5,iY,v1,t1,k8,w1,k9,au,ar,aj,ai,simprocAttr]
def xx (H:Hp) (i:Nat) (s:List Nat) (pos:Nat):Prop:=i<H.next/\H.h.get i=some (.rB s pos)
def CE (H:Hp) (s:List Nat):Hp:=⟨H.h.put 34 H.next (.rB s 0),H.next+1⟩
theorem UD {t:TypeId} (hu:P.underlying t=some .string) (s:List Nat) (H:Hp):xC P t (.str s) H=some (.ptr H.next 0,CE H s):=by
 unfold xC
 rw[hu];rfl
theorem aaQ (H:Hp) (s:List Nat):xx (CE H s) H.next s 0:=⟨agJ _,by show (Tr.put 34 H.h H.next _).get H.next=_;rw[Tr.put,Tr.fj,if_pos rfl]⟩
theorem RZ (H:Hp) (s:List Nat):Out [] H (CE H s):=⟨afe _,fun j hj _=>by show (Tr.put 34 H.h H.next _).get j=_;rw[Tr.put,Tr.fj,if_neg (by omega)]⟩
theorem xx.out {H H':Hp} {i pos:Nat} {s:List Nat} {S:List Nat} (h:xx H i s pos) (k:Out S H H') (hi:i∉S):xx H' i s pos:=⟨ac8 h.1 k.1,by rw[k.2 i h.1 hi];exact h.2⟩
theorem Zi {H:Hp} {i pos b:Nat} {s:List Nat} (h:xx H i s pos) (hb:s[pos]? = some b) (h7:b<128) :
  ∃ H',vD (.ptr i 0) true H=some (.tuple [.bool true,.int .i64 (pos:Nat),.int .i32 (b:Nat)],H')/\xx H' i s (pos+1)/\Out [i] H H'/\H'.next=H.next:=by
 have hl:=(aaK.1 hb).1
 have hd:s.drop pos=b::s.drop (pos+1):=by
  rw[afD hl]
  rw[aaM hl] at hb
  cases hb;rfl
 refine⟨Am.setObj H i (.rB s (pos+1)),?_,⟨h.1,by rw[K8,if_pos rfl]⟩,⟨abe _,fun j _ hn=>by rw[K8,if_neg (by simpa using hn)]⟩,rfl⟩
 have h8:Nat.blt b 128=true:=by rw[adq];exact h7
 unfold vD
 simp only[h.2,hd,h8,cond_true]
theorem Wk {H:Hp} {i pos:Nat} {s:List Nat} (h:xx H i s pos) (hp:s.length<=pos):vD (.ptr i 0) true H=some (.tuple [.bool false],H):=by
 have hd:s.drop pos=[]:=afX hp
 unfold vD
 simp only[h.2,hd]
structure Ev where
 kd:Int
 rn:Int
 tk:Int
 ty:Int
 n:Int
 nm:aq
 ky:aq
 dt:aq
def bc (e:Ev):List AV:=[.int .i64 e.kd,.int .i64 e.rn,.int .i64 e.tk,.int .i64 e.ty,.int .i64 e.n,.str e.nm,.str e.ky,.str e.dt]
def fieldsM (k:Int):aq:=
 if k=1 then [77,68] else if k=2 then [82,77,75] else if k=3\/k=5 then [82,84,89] else if k=4 then [82,84,89,68] else if k=6\/k=9 then [78] else if k=7 then [82,77] else if k=8 then [82] else []
def vi (n a b:Int):Bool:=decide (a<=n)&&decide (n<=b)
noncomputable def rO (e:Ev) (c:Nat):Bool:=
 if c=82 then vi e.rn 1 64 else if c=84 then vi e.tk 0 15 else if c=89 then vi e.ty 1 9 else if c=78 then vi e.n 1 (if e.kd=9 then 1048575 else 1099511627776)
 else if c=77 then vl e.nm else if c=75 then decide (e.ky.length<=16) else if e.kd=1 then decide (e.dt.length<=900) else decide (e.dt.length<=64)
def Fz (e x:Ev) (c:Nat):Ev:=
 if c=82 then { x with rn:=e.rn } else if c=84 then { x with tk:=e.tk } else if c=89 then { x with ty:=e.ty } else if c=78 then { x with n:=e.n }
 else if c=77 then { x with nm:=e.nm } else if c=75 then { x with ky:=e.ky } else if c=68 then { x with dt:=e.dt } else x
def xn (k:Int):Ev:=⟨k,0,0,0,0,[],[],[]⟩
def zZ (e:Ev) (l:aq):Ev:=l.foldl (Fz e) (xn e.kd)
def I3 (a b:Ev):Bool:=(a.kd==b.kd)&&((a.rn==b.rn)&&((a.tk==b.tk)&&((a.ty==b.ty)&&((a.n==b.n)&&((a.nm==b.nm)&&((a.ky==b.ky)&&(a.dt==b.dt)))))))
noncomputable def xU (e:Ev):Bool := !(fieldsM e.kd==[])&&(I3 (zZ e (fieldsM e.kd)) e&&(fieldsM e.kd).all (rO e))
theorem pE (e:Ev):(bc e).length=8:=rfl
theorem Y3 (e:Ev):(bc e)[0]? = some (.int .i64 e.kd)/\(bc e)[1]? = some (.int .i64 e.rn)/\(bc e)[2]? = some (.int .i64 e.tk)/\(bc e)[3]? = some (.int .i64 e.ty)/\(bc e)[4]? = some (.int .i64 e.n)/\(bc e)[5]? = some (.str e.nm)/\(bc e)[6]? = some (.str e.ky)/\(bc e)[7]? = some (.str e.dt):=⟨rfl,rfl,rfl,rfl,rfl,rfl,rfl,rfl⟩
theorem O1 (k:Int) (H:Hp):cK (.func (.func 48) [] []) [.int .i64 k] H=some (.str (fieldsM k),H):=by
 refine ak8 ?_
 unfold Wo fieldsM
 by_cases h1:k=1
 ·subst h1;simp only[aj,ai,simprocAttr,↓reduceIte]
 have b1:(k==1)=false:=by simp[h1]
 by_cases h2:k=2
 ·subst h2;simp only[b1,aj,ai,simprocAttr]<;>rfl
 have b2:(k==2)=false:=by simp[h2]
 by_cases h3:k=3
 ·subst h3;simp only[b1,b2,aj,ai,simprocAttr]<;>rfl
 have b3:(k==3)=false:=by simp[h3]
 by_cases h5:k=5
 ·subst h5;simp only[b1,b2,b3,aj,ai,simprocAttr]<;>rfl
 have b5:(k==5)=false:=by simp[h5]
 by_cases h4:k=4
 ·subst h4;simp only[b1,b2,b3,b5,aj,ai,simprocAttr]<;>rfl
 have b4:(k==4)=false:=by simp[h4]
 by_cases h6:k=6
 ·subst h6;simp only[b1,b2,b3,b5,b4,aj,ai,simprocAttr]<;>rfl
 have b6:(k==6)=false:=by simp[h6]
 by_cases h9:k=9
 ·subst h9;simp only[b1,b2,b3,b5,b4,b6,aj,ai,simprocAttr]<;>rfl
 have b9:(k==9)=false:=by simp[h9]
 by_cases h7:k=7
 ·subst h7;simp only[b1,b2,b3,b5,b4,b6,b9,aj,ai,simprocAttr]<;>rfl
 have b7:(k==7)=false:=by simp[h7]
 by_cases h8:k=8
 ·subst h8;simp only[b1,b2,b3,b5,b4,b6,b9,b7,aj,ai,simprocAttr]<;>rfl
 have b8:(k==8)=false:=by simp[h8]
 simp only[b1,b2,b3,b5,b4,b6,b9,b7,b8,h1,h2,h3,h4,h5,h6,h7,h8,h9,or_self,↓reduceIte,aj,ai,simprocAttr]
theorem QC (n a b:Int) (H:Hp):cK (.func (.func 87) [] []) [.int .i64 n,.int .i64 a,.int .i64 b] H=some (.bool (vi n a b),H):=by
 refine ag5 ?_
 unfold TV vi
 by_cases h1:a<=n
 ·simp(disch:=(first|assumption|omega|(simp only[ag,af,simprocAttr]<;>fail)|(simp only[af];omega)|(simp only[ag,af,simprocAttr, *]<;>fail)|fail))only[h1,ac2,au,ar,aj,ai,simprocAttr]
 ·simp(disch:=(first|assumption|omega|(simp only[ag,af,simprocAttr]<;>fail)|(simp only[af];omega)|(simp only[ag,af,simprocAttr, *]<;>fail)|fail))only[h1,ac5,au,ar,aj,ai,simprocAttr]
theorem ahN (e:Ev) (c:Nat) (H:Hp):∃ H',cK (.func (.func 52) [] []) [.agg (bc e),.int .i32 (c:Nat)] H=some (.bool (rO e c),H')/\Out [] H H':=by
 have bg:bx 26 (.agg (bc e)) H=some (H.next,al H (bc e) 26 0):=iE (by rw[pE];omega)
 have o1:=aN H (bc e) 26 0
 have c1:=bD H (bc e) 26 0
 generalize al H (bc e) 26 0=H1 at *
 obtain⟨e0,e1,e2,e3,e4,e5,e6,e7⟩:=Y3 e
 have k0:=c1.cellAt e0
 have k1:=c1.cellAt e1
 have k2:=c1.cellAt e2
 have k3:=c1.cellAt e3
 have k4:=c1.cellAt e4
 have k5:=c1.cellAt e5
 have k6:=c1.cellAt e6
 have k7:=c1.cellAt e7
 have hd:∀ n:Nat,c≠n->(((c:Nat):Int)==(n:Nat))=false:=fun n hn=>by rw[beq_eq_false_iff_ne];omega
 refine⟨H1,adV ?_,o1⟩
 unfold LI rO
 by_cases h1:c=82
 ·subst h1;simp(disch:=(first|assumption|omega|(simp only[ag,af,simprocAttr]<;>fail)|(simp only[af];omega)|(simp only[ag,af,simprocAttr, *]<;>fail)|fail))only[bg,k1,QC,↓reduceIte,ad7,au,ar,aj,ai,simprocAttr]
 have b1:(((c:Nat):Int)==82)=false:=hd 82 h1
 rw[if_neg h1]
 by_cases h2:c=84
 ·subst h2;simp(disch:=(first|assumption|omega|(simp only[ag,af,simprocAttr]<;>fail)|(simp only[af];omega)|(simp only[ag,af,simprocAttr, *]<;>fail)|fail))only[bg,k2,QC,↓reduceIte,ad7,au,ar,aj,ai,simprocAttr]
 have b2:(((c:Nat):Int)==84)=false:=hd 84 h2
 rw[if_neg h2]
 by_cases h3:c=89
 ·subst h3;simp(disch:=(first|assumption|omega|(simp only[ag,af,simprocAttr]<;>fail)|(simp only[af];omega)|(simp only[ag,af,simprocAttr, *]<;>fail)|fail))only[bg,k3,QC,↓reduceIte,ad7,au,ar,aj,ai,simprocAttr]
 have b3:(((c:Nat):Int)==89)=false:=hd 89 h3
 rw[if_neg h3]
 by_cases h4:c=78
 ·subst h4
  rw[if_pos rfl]
  by_cases hk:e.kd=9
  ·have bk:(e.kd==9)=true:=by simp[hk]
   rw[if_pos hk]
   unfold vi
   by_cases hn:1<=e.n
   ·simp(disch:=(first|assumption|omega|(simp only[ag,af,simprocAttr]<;>fail)|(simp only[af];omega)|(simp only[ag,af,simprocAttr, *]<;>fail)|fail))only[bg,k0,k4,bk,hn,ac2,ad7,au,ar,aj,ai,simprocAttr]
   ·simp(disch:=(first|assumption|omega|(simp only[ag,af,simprocAttr]<;>fail)|(simp only[af];omega)|(simp only[ag,af,simprocAttr, *]<;>fail)|fail))only[bg,k0,k4,bk,hn,ac5,ad7,au,ar,aj,ai,simprocAttr]
  ·have bk:(e.kd==9)=false:=by simp[hk]
   rw[if_neg hk]
   unfold vi
   by_cases hn:1<=e.n
   ·simp(disch:=(first|assumption|omega|(simp only[ag,af,simprocAttr]<;>fail)|(simp only[af];omega)|(simp only[ag,af,simprocAttr, *]<;>fail)|fail))only[bg,k0,k4,bk,hn,ac2,ad7,au,ar,aj,ai,simprocAttr]
   ·simp(disch:=(first|assumption|omega|(simp only[ag,af,simprocAttr]<;>fail)|(simp only[af];omega)|(simp only[ag,af,simprocAttr, *]<;>fail)|fail))only[bg,k0,k4,bk,hn,ac5,ad7,au,ar,aj,ai,simprocAttr]
 have b4:(((c:Nat):Int)==78)=false:=hd 78 h4
 rw[if_neg h4]
 by_cases h5:c=77
 ·subst h5;simp(disch:=(first|assumption|omega|(simp only[ag,af,simprocAttr]<;>fail)|(simp only[af];omega)|(simp only[ag,af,simprocAttr, *]<;>fail)|fail))only[bg,k5,KZ,↓reduceIte,ad7,au,ar,aj,ai,simprocAttr]
 have b5:(((c:Nat):Int)==77)=false:=hd 77 h5
 rw[if_neg h5]
 have hle:∀ (a n:Nat),decide (((a:Nat):Int)<=((n:Nat):Int))=decide (a<=n):=fun a n=>by simp
 by_cases h6:c=75
 ·subst h6
  have:=hle e.ky.length 16
  rw[show (((16:Nat):Int))=16 from rfl] at this
  simp(disch:=(first|assumption|omega|(simp only[ag,af,simprocAttr]<;>fail)|(simp only[af];omega)|(simp only[ag,af,simprocAttr, *]<;>fail)|fail))only[bg,k6,this,↓reduceIte,ad7,au,ar,aj,ai,simprocAttr]
 have b6:(((c:Nat):Int)==75)=false:=hd 75 h6
 rw[if_neg h6]
 by_cases h7:e.kd=1
 ·have b7:(e.kd==1)=true:=by simp[h7]
  have:=hle e.dt.length 900
  rw[show (((900:Nat):Int))=900 from rfl] at this
  rw[if_pos h7]
  simp(disch:=(first|assumption|omega|(simp only[ag,af,simprocAttr]<;>fail)|(simp only[af];omega)|(simp only[ag,af,simprocAttr, *]<;>fail)|fail))only[bg,k0,k7,b1,b2,b3,b4,b5,b6,b7,this,au,ar,aj,ai,simprocAttr]
 ·have b7:(e.kd==1)=false:=by simp[h7]
  have:=hle e.dt.length 64
  rw[show (((64:Nat):Int))=64 from rfl] at this
  rw[if_neg h7]
  simp(disch:=(first|assumption|omega|(simp only[ag,af,simprocAttr]<;>fail)|(simp only[af];omega)|(simp only[ag,af,simprocAttr, *]<;>fail)|fail))only[bg,k0,k7,b1,b2,b3,b4,b5,b6,b7,this,au,ar,aj,ai,simprocAttr]
theorem W9 {e:Ev} {E X it:Nat} {l:aq} {y:AV} (hl:∀ c∈l,c<128) (h1:E≠X) (h2:E≠it) (h3:X≠it):∀ (r:aq) (i:Nat) (H:Hp) (x:Ev),l.drop i=r->xx H it l i->Cs H E (bc e) 26 0->Cs H X (bc x) 26 0->
  ∃ H',(∀ cG:K.Fn 2,Ci JN GO cK cG (.ptr E 0) y (.ptr X 0) (.ptr it 0) H=cG y (.ptr X 0) H')/\Cs H' X (bc (r.foldl (Fz e) x)) 26 0/\Out [it,X] H H'/\H'.next=H.next
 | [],i,H,x,h,hS,hE,hX=>by
  have hi:l.length<=i:=by
   rcases aiD i l.length with q | q
   ·rw[afD q] at h;cases h
   ·exact q
  refine⟨H,fun cG => ?_,hX,Out.refl _ _,rfl⟩
  rw[xr]
  simp only[uD,Wk hS hi,aj,ai,simprocAttr]
 | c::r,i,H,x,h,hS,hE,hX=>by
  obtain⟨g1,g2,g3⟩:=fC h
  obtain⟨H1,n1,n2,n3,n4⟩:=Zi hS g2 (hl c (aa2 g2))
  have yu:=hE.out n3 (by simpa using h2)
  have SJ:=hX.out n3 (by simpa using h3)
  obtain⟨e0,e1,e2,e3,e4,e5,e6,e7⟩:=Y3 e
  have hd:∀ n:Nat,c≠n->(((c:Nat):Int)==(n:Nat))=false:=fun n hn=>by rw[beq_eq_false_iff_ne];omega
  have fin:∀ (H2:Hp) (x':Ev),Cs H2 X (bc x') 26 0->Out [X] H1 H2->H2.next=H1.next->Fz e x c=x'->∃ H',(∀ cG:K.Fn 2,Ci JN GO cK cG (.ptr E 0) y (.ptr X 0) (.ptr it 0) H2=cG y (.ptr X 0) H')/\Cs H' X (bc ((c::r).foldl (Fz e) x)) 26 0/\Out [it,X] H H'/\H'.next=H.next:=by
   intro H2 x' nQ ho hn hx
   obtain⟨H',i1,i2,i3,i4⟩:=W9 (y:=y) hl h1 h2 h3 r (i+1) H2 x' g3 (n2.out ho (by simpa using fun q=>h3 q.symm)) (yu.out ho (by simpa using h1)) nQ
   refine⟨H',i1,by rw[List.foldl_cons,hx];exact i2,((n3.mono (fun j hj=>by simp at hj;simp[hj])).trans (ho.mono (fun j hj=>by simp at hj;simp[hj]))).trans i3,by omega⟩
  have sv:∀ (o:Nat) (v:AV),o<8->bq v=true->∃ H2,st 1 (.ptr X o) v H1=some H2/\Cs H2 X ((bc x).set o v) 26 0/\Out [X] H1 H2/\H2.next=H1.next:=fun o v ho hv=>fR SJ (by decide) (by rw[pE];exact ho) hv
  by_cases q1:c=82
  ·subst q1
   obtain⟨H2,s1,s2,s3,s4⟩:=sv 1 (.int .i64 e.rn) (by omega) rfl
   obtain⟨H',i1,i2,i3,i4⟩:=fin H2 { x with rn:=e.rn } s2 s3 s4 rfl
   refine⟨H',fun cG => ?_,i2,i3,i4⟩
   rw[xr]
   simp(disch:=(first|assumption|omega|(simp only[ag,af,simprocAttr]<;>fail)|(simp only[af];omega)|(simp only[ag,af,simprocAttr, *]<;>fail)|fail))only[uD,n1,yu.cellAt e1,s1,i1,ad7,au,ar,aj,ai,simprocAttr]
  have b1:(((c:Nat):Int)==82)=false:=hd 82 q1
  by_cases q2:c=84
  ·subst q2
   obtain⟨H2,s1,s2,s3,s4⟩:=sv 2 (.int .i64 e.tk) (by omega) rfl
   obtain⟨H',i1,i2,i3,i4⟩:=fin H2 { x with tk:=e.tk } s2 s3 s4 rfl
   refine⟨H',fun cG => ?_,i2,i3,i4⟩
   rw[xr]
   simp(disch:=(first|assumption|omega|(simp only[ag,af,simprocAttr]<;>fail)|(simp only[af];omega)|(simp only[ag,af,simprocAttr, *]<;>fail)|fail))only[uD,n1,yu.cellAt e2,s1,i1,ad7,au,ar,aj,ai,simprocAttr]
  have b2:(((c:Nat):Int)==84)=false:=hd 84 q2
  by_cases q3:c=89
  ·subst q3
   obtain⟨H2,s1,s2,s3,s4⟩:=sv 3 (.int .i64 e.ty) (by omega) rfl
   obtain⟨H',i1,i2,i3,i4⟩:=fin H2 { x with ty:=e.ty } s2 s3 s4 rfl
   refine⟨H',fun cG => ?_,i2,i3,i4⟩
   rw[xr]
   simp(disch:=(first|assumption|omega|(simp only[ag,af,simprocAttr]<;>fail)|(simp only[af];omega)|(simp only[ag,af,simprocAttr, *]<;>fail)|fail))only[uD,n1,yu.cellAt e3,s1,i1,ad7,au,ar,aj,ai,simprocAttr]
  have b3:(((c:Nat):Int)==89)=false:=hd 89 q3
  by_cases q4:c=78
  ·subst q4
   obtain⟨H2,s1,s2,s3,s4⟩:=sv 4 (.int .i64 e.n) (by omega) rfl
   obtain⟨H',i1,i2,i3,i4⟩:=fin H2 { x with n:=e.n } s2 s3 s4 rfl
   refine⟨H',fun cG => ?_,i2,i3,i4⟩
   rw[xr]
   simp(disch:=(first|assumption|omega|(simp only[ag,af,simprocAttr]<;>fail)|(simp only[af];omega)|(simp only[ag,af,simprocAttr, *]<;>fail)|fail))only[uD,n1,yu.cellAt e4,s1,i1,ad7,au,ar,aj,ai,simprocAttr]
  have b4:(((c:Nat):Int)==78)=false:=hd 78 q4
  by_cases q5:c=77
  ·subst q5
   obtain⟨H2,s1,s2,s3,s4⟩:=sv 5 (.str e.nm) (by omega) rfl
   obtain⟨H',i1,i2,i3,i4⟩:=fin H2 { x with nm:=e.nm } s2 s3 s4 rfl
   refine⟨H',fun cG => ?_,i2,i3,i4⟩
   rw[xr]
   simp(disch:=(first|assumption|omega|(simp only[ag,af,simprocAttr]<;>fail)|(simp only[af];omega)|(simp only[ag,af,simprocAttr, *]<;>fail)|fail))only[uD,n1,yu.cellAt e5,s1,i1,ad7,au,ar,aj,ai,simprocAttr]
  have b5:(((c:Nat):Int)==77)=false:=hd 77 q5
  by_cases q6:c=75
  ·subst q6
   obtain⟨H2,s1,s2,s3,s4⟩:=sv 6 (.str e.ky) (by omega) rfl
   obtain⟨H',i1,i2,i3,i4⟩:=fin H2 { x with ky:=e.ky } s2 s3 s4 rfl
   refine⟨H',fun cG => ?_,i2,i3,i4⟩
   rw[xr]
   simp(disch:=(first|assumption|omega|(simp only[ag,af,simprocAttr]<;>fail)|(simp only[af];omega)|(simp only[ag,af,simprocAttr, *]<;>fail)|fail))only[uD,n1,yu.cellAt e6,s1,i1,ad7,au,ar,aj,ai,simprocAttr]
  have b6:(((c:Nat):Int)==75)=false:=hd 75 q6
  by_cases q7:c=68
  ·subst q7
   obtain⟨H2,s1,s2,s3,s4⟩:=sv 7 (.str e.dt) (by omega) rfl
   obtain⟨H',i1,i2,i3,i4⟩:=fin H2 { x with dt:=e.dt } s2 s3 s4 rfl
   refine⟨H',fun cG => ?_,i2,i3,i4⟩
   rw[xr]
   simp(disch:=(first|assumption|omega|(simp only[ag,af,simprocAttr]<;>fail)|(simp only[af];omega)|(simp only[ag,af,simprocAttr, *]<;>fail)|fail))only[uD,n1,yu.cellAt e7,s1,i1,ad7,au,ar,aj,ai,simprocAttr]
  have b7:(((c:Nat):Int)==68)=false:=hd 68 q7
  obtain⟨H',i1,i2,i3,i4⟩:=fin H1 x SJ (Out.refl _ _) rfl (by unfold Fz;rw[if_neg q1,if_neg q2,if_neg q3,if_neg q4,if_neg q5,if_neg q6,if_neg q7])
  refine⟨H',fun cG => ?_,i2,i3,i4⟩
  rw[xr]
  simp(disch:=(first|assumption|omega|(simp only[ag,af,simprocAttr]<;>fail)|(simp only[af];omega)|(simp only[ag,af,simprocAttr, *]<;>fail)|fail))only[uD,n1,b1,b2,b3,b4,b5,b6,b7,i1,au,ar,aj,ai,simprocAttr]
abbrev zE:List AV:=[(.int .i64 0),(.int .i64 0),(.int .i64 0),(.int .i64 0),(.int .i64 0),(.str []),(.str []),(.str [])]
theorem amQ (e:Ev) {l:aq} (hl:∀ c∈l,c<128) (H:Hp):∃ H',cK (.func (.func 49) [] []) [.agg (bc e),.str l] H=some (.agg (bc (zZ e l)),H')/\Out [] H H':=by
 have bg:bx 26 (.agg (bc e)) H=some (H.next,al H (bc e) 26 0):=iE (by rw[pE];omega)
 have o1:=aN H (bc e) 26 0
 have c1:=bD H (bc e) 26 0
 have n1:(al H (bc e) 26 0).next=H.next+1:=rfl
 generalize al H (bc e) 26 0=H1 at *
 have eh:aL H1 zE 26 0=some (H.next+1,al H1 zE 26 0):=by rw[<-n1];exact iy (by simp)
 have o2:=aN H1 zE 26 0
 have c2:=bD H1 zE 26 0
 have n2:(al H1 zE 26 0).next=H.next+2:=by rw[cj,n1]
 rw[n1] at c2
 generalize c8:al H1 zE 26 0=H2 at *
 have k0:cellAt H2 H.next 0=some (.int .i64 e.kd):=(c1.out o2 (by simp)).cellAt rfl
 have hf:fl zE [(0,1,.int .i64 e.kd)]=some (bc (xn e.kd)):=rfl
 have ao1:aL H2 zE 26 0=some (H.next+2,al H2 zE 26 0):=by rw[<-n2];exact iy (by simp)
 have aD:st 8 (.ptr (H.next+2) 0) (.agg (bc (xn e.kd))) (al H2 zE 26 0)=some (al H2 (bc (xn e.kd)) 26 0):=kq rfl rfl n2.symm (by decide) rfl
 have o3:=aN H2 (bc (xn e.kd)) 26 0
 have c3:=bD H2 (bc (xn e.kd)) 26 0
 have n3:(al H2 (bc (xn e.kd)) 26 0).next=H.next+3:=by rw[cj,n2]
 rw[n2] at c3
 generalize al H2 (bc (xn e.kd)) 26 0=H3 at *
 have zS:xC P 9 (.str l) H3=some (.ptr (H.next+3) 0,CE H3 l):=by rw[<-n3];exact UD Tryz.underlying9 l H3
 have o4:=RZ H3 l
 have s4:=aaQ H3 l
 rw[n3] at s4
 have cE:=((c1.out o2 (by simp)).out o3 (by simp)).out o4 (by simp)
 have cV:=(c2.out o3 (by simp)).out o4 (by simp)
 have cX:=c3.out o4 (by simp)
 obtain⟨H5,i1,i2,i3,i4⟩:=W9 (y := .ptr (H.next+1) 0) hl (by omega) (by omega) (by omega) l 0 (CE H3 l) (xn e.kd) abJ s4 cE cX
 have cV5:=cV.out i3 (by simp)
 have k8:av H5 (H.next+2) 0 8=some (bc (zZ e l)):=i2.av 8 0 (by rw[pE];omega)
 obtain⟨H6,t1,t2,t3,t4⟩:=ir (n:=8) (vs:=bc (zZ e l)) cV5 rfl rfl rfl
 have k9:av H6 (H.next+1) 0 8=some (bc (zZ e l)):=t2.av 8 0 (by rw[pE];omega)
 have out:Out [] H H6:=gB (gB (((o1.trans o2).trans o3).trans o4) i3 (fun j hj=>by simp at hj;omega)) t3 (kP (by omega))
 refine⟨H6,afm ?_,out⟩
 unfold Rr
 simp(disch:=(first|assumption|omega|(simp only[ag,af,simprocAttr]<;>fail)|(simp only[af];omega)|(simp only[ag,af,simprocAttr, *]<;>fail)|fail))only[bg,n1,c8,n2,k0,hf,aD,zS,i1,k8,t1,k9,au,ar,aj,ai,simprocAttr]
theorem afb (a b c d e:Int) (f g h:aq) (a' b' c' d' e':Int) (f' g' h':aq) (H:Hp):dZ P 50 26 (.agg [.int .i64 a,.int .i64 b,.int .i64 c,.int .i64 d,.int .i64 e,.str f,.str g,.str h]) (.agg [.int .i64 a',.int .i64 b',.int .i64 c',.int .i64 d',.int .i64 e',.str f',.str g',.str h']) H=pZ (fun z:Bool=>some z) [a==a',b==b',c==c',d==d',e==e',f==f',g==g',h==h']:=by kernel_rfl
theorem aiG:Program.eqGuardType P P.depth 26=false:=by kernel_rfl
theorem HK:∀ l:List Bool,pZ (fun z:Bool=>some z) l=some (l.all id)
 | []=>rfl
 | b::l=>by
  unfold pZ
  rw[HK l,List.all_cons]
  cases b<;>rfl
theorem abg (a b:Ev) (H:Hp):gA P .eql 26 false (.agg (bc a)) (.agg (bc b))=true/\eS P .eql 26 (.agg (bc a)) (.agg (bc b)) H=some (.bool (I3 a b)):=by
 constructor
 ·show (!(Program.eqGuardType P P.depth 26))=true
  rw[aiG];rfl
 ·show (dZ P 50 26 (.agg (bc a)) (.agg (bc b)) H).map (fun b=>AV.bool b)=_
  have h:dZ P 50 26 (.agg (bc a)) (.agg (bc b)) H=_:=afb a.kd a.rn a.tk a.ty a.n a.nm a.ky a.dt b.kd b.rn b.tk b.ty b.n b.nm b.ky b.dt H
  rw[h,HK]
  simp[I3]
def findF (p:Nat->Bool):aq->Nat->Option Nat
 | [],_=>none
 | c::r,i=>if p c then some i else findF p r (i+1)
theorem Y0 (p:Nat->Bool):∀ (l:aq) (i:Nat),(findF p l i).isSome=l.any p
 | [],i=>rfl
 | c::r,i=>by
  unfold findF
  rw[List.any_cons]
  cases h:p c with
  | true=>rfl
  | false=>rw[Bool.false_or];exact Y0 p r (i+1)
theorem aa1 {fv:AV} {it:Nat} {l:aq} {p:Nat->Bool} {H0:Hp} (hl:∀ c∈l,c<128) (hp:∀ H,Out [] H0 H->∀ c∈l,∃ H',cK fv [.int .i32 (c:Nat)] H=some (.bool (p c),H')/\Out [] H H') (hit:H0.next<=it):∀ (r:aq) (i:Nat) (H:Hp),l.drop i=r->xx H it l i->Out [] H0 H->
  ∃ H',(∀ j3:K.Fn 0,Gu JN GO cK j3 fv (.bool true) (.ptr it 0) H=match findF p r i with | some k=>some (.int .i64 (k:Nat),H') | none=>j3 H')/\Out [] H0 H'
 | [],i,H,h,hS,hO=>by
  have hi:l.length<=i:=by
   rcases aiD i l.length with q | q
   ·rw[afD q] at h;cases h
   ·exact q
  refine⟨H,fun j3 => ?_,hO⟩
  rw[N3]
  simp only[Kt,Wk hS hi,aj,ai,simprocAttr]
  rfl
 | c::r,i,H,h,hS,hO=>by
  obtain⟨g1,g2,g3⟩:=fC h
  obtain⟨H1,n1,n2,n3,n4⟩:=Zi hS g2 (hl c (aa2 g2))
  have qH:Out [] H0 H1:=gB hO n3 (kP hit)
  obtain⟨H2,f1,f2⟩:=hp H1 qH c (aa2 g2)
  have yp:=qH.trans f2
  unfold findF
  cases hc:p c with
  | true=>
   refine⟨H2,fun j3 => ?_,yp⟩
   rw[N3]
   rw[hc] at f1
   have bt:(true==true)=true:=rfl
   simp(disch:=(first|assumption|omega|(simp only[ag,af,simprocAttr]<;>fail)|(simp only[af];omega)|(simp only[ag,af,simprocAttr, *]<;>fail)|fail))only[Kt,n1,f1,bt,↓reduceIte,au,ar,aj,ai,simprocAttr]
  | false=>
   obtain⟨H',i1,i2⟩:=aa1 hl hp hit r (i+1) H2 g3 (n2.out f2 (by simp)) yp
   refine⟨H',fun j3 => ?_,i2⟩
   rw[N3]
   rw[hc] at f1
   have bt:(false==true)=false:=rfl
   simp(disch:=(first|assumption|omega|(simp only[ag,af,simprocAttr]<;>fail)|(simp only[af];omega)|(simp only[ag,af,simprocAttr, *]<;>fail)|fail))only[Kt,n1,f1,bt,i1,abD,↓reduceIte,au,ar,aj,ai,simprocAttr]
theorem akS {fv:AV} {l:aq} {p:Nat->Bool} {H0:Hp} (hl:∀ c∈l,c<128) (hp:∀ H,Out [] H0 H->∀ c∈l,∃ H',cK fv [.int .i32 (c:Nat)] H=some (.bool (p c),H')/\Out [] H H') :
  ∃ H',cK (.func (.func 50) [] []) [.str l,fv] H0=some (.bool (l.any p),H')/\Out [] H0 H':=by
 have zS:=UD Tryz.underlying9 l H0
 have o1:=RZ H0 l
 have s1:=aaQ H0 l
 obtain⟨H',i1,i2⟩:=aa1 hl hp (abe _) l 0 (CE H0 l) abJ s1 o1
 refine⟨H',amJ ?_,i2⟩
 have h1:cK (.func (.func 115) [] []) [.str l,fv,.bool true] H0=some (.int .i64 (lj (findF p l 0)),H'):=by
  refine agb ?_
  unfold XE
  simp only[zS,i1,aj,ai,simprocAttr]
  cases findF p l 0<;>rfl
 have h2:cK (.func (.func 86) [] []) [.str l,fv] H0=some (.int .i64 (lj (findF p l 0)),H'):=by
  refine abZ ?_
  unfold XF
  simp only[h1,aj,ai,simprocAttr]
 unfold ZW
 simp only[h2,GR,Y0,aj,ai,simprocAttr]
theorem aio {e:Ev} {E:Nat} {H:Hp} (hE:Cs H E (bc e) 26 0) (c:Nat):∃ H',cK (.func (.func 51) [] [.ptr E 0]) [.int .i32 (c:Nat)] H=some (.bool (!rO e c),H')/\Out [] H H':=by
 obtain⟨H',h1,h2⟩:=ahN e c H
 have k8:av H E 0 8=some (bc e):=hE.av 8 0 (by rw[pE];omega)
 refine⟨H',anm ?_,h2⟩
 unfold Ys
 simp(disch:=(first|assumption|omega|(simp only[ag,af,simprocAttr]<;>fail)|(simp only[af];omega)|(simp only[ag,af,simprocAttr, *]<;>fail)|fail))only[k8,h1,au,ar,aj,ai,simprocAttr]
theorem Vf (k:Int):∀ c∈fieldsM k,c<128:=by
 unfold fieldsM
 intro c hc
 repeat' split at hc
 all_goals first | (simp at hc;omega) | (simp at hc)
theorem aeg (e:Ev) (H:Hp):∃ H',cK (.func (.func 21) [] []) [.agg (bc e)] H=some (.bool (xU e),H')/\Out [] H H':=by
 have bg:bx 26 (.agg (bc e)) H=some (H.next,al H (bc e) 26 0):=iE (by rw[pE];omega)
 have o1:=aN H (bc e) 26 0
 have c1:=bD H (bc e) 26 0
 generalize al H (bc e) 26 0=H1 at *
 have k0:cellAt H1 H.next 0=some (.int .i64 e.kd):=c1.cellAt rfl
 have k8:av H1 H.next 0 8=some (bc e):=c1.av 8 0 (by rw[pE];omega)
 unfold xU
 cases hf:(fieldsM e.kd==[]) with
 | true=>
  refine⟨H1,QZ ?_,o1⟩
  unfold J3
  simp(disch:=(first|assumption|omega|(simp only[ag,af,simprocAttr]<;>fail)|(simp only[af];omega)|(simp only[ag,af,simprocAttr, *]<;>fail)|fail))only[bg,k0,O1,hf,ac5,au,ar,aj,ai,simprocAttr]
 | false=>
  obtain⟨H2,h1,h2⟩:=amQ e (Vf e.kd) H1
  have c2:=c1.out h2 (by simp)
  have k9:av H2 H.next 0 8=some (bc e):=c2.av 8 0 (by rw[pE];omega)
  obtain⟨q1,q2⟩:=abg (zZ e (fieldsM e.kd)) e H2
  have hs:same (.agg (bc e)) (.agg (bc e))=true:=by
   have hk:(IntKind.i64==IntKind.i64)=true:=rfl
   simp[same,bc,wF,p9]
  cases he:I3 (zZ e (fieldsM e.kd)) e with
  | false=>
   refine⟨H2,QZ ?_,o1.trans h2⟩
   rw[he] at q2
   unfold J3
   simp(disch:=(first|assumption|omega|(simp only[ag,af,simprocAttr]<;>fail)|(simp only[af];omega)|(simp only[ag,af,simprocAttr, *]<;>fail)|fail))only[bg,k0,O1,hf,k8,h1,k9,q1,lL,q2,nH hs,ac5,ac2,au,ar,aj,ai,simprocAttr]
  | true=>
   obtain⟨H3,h3,h4⟩:=akS (fv := .func (.func 51) [] [.ptr H.next 0]) (p:=fun c => !rO e c) (H0:=H2) (Vf e.kd) (fun H' k c _=>aio (c2.out k (by simp)) c)
   refine⟨H3,QZ ?_,(o1.trans h2).trans h4⟩
   rw[he] at q2
   have kD:(!((fieldsM e.kd).any fun c => !rO e c))=(fieldsM e.kd).all (rO e):=by
    rw[List.not_any_eq_all_not]
    simp
   unfold J3
   simp(disch:=(first|assumption|omega|(simp only[ag,af,simprocAttr]<;>fail)|(simp only[af];omega)|(simp only[ag,af,simprocAttr, *]<;>fail)|fail))only[bg,k0,O1,hf,k8,h1,k9,q1,lL,q2,nH hs,h3,kD,ac2,au,ar,aj,ai,simprocAttr]
abbrev Ky:=aq × aq
def cI (k:Ky):List AV:=[.str k.1,.str k.2]
theorem Ye (a b c d:aq) (H:Hp):dZ P 20 80 (.agg [.str a,.str b]) (.agg [.str c,.str d]) H=pZ (fun z:Bool=>some z) [a==c,b==d]:=by kernel_rfl
theorem Ql {k q:Ky} (h:q≠k) (H:Hp):dZ P 20 80 (.agg (cI k)) (.agg (cI q)) H=some false:=by
 have h1:dZ P 20 80 (.agg (cI k)) (.agg (cI q)) H=_:=Ye k.1 k.2 q.1 q.2 H
 rw[h1,HK]
 simp only[List.all_cons,List.all_nil,id,Bool.and_true,acu,Bool.and_eq_false_iff,beq_eq_false_iff_ne]
 by_cases h2:k.1=q.1
 ·exact .inr fun h3=>h (Prod.ext h2.symm h3.symm)
 ·exact .inl h2
theorem abS (k:Ky) (H:Hp):dZ P 20 80 (.agg (cI k)) (.agg (cI k)) H=some true:=by
 have h1:dZ P 20 80 (.agg (cI k)) (.agg (cI k)) H=_:=Ye k.1 k.2 k.1 k.2 H
 rw[h1,HK]
 simp
abbrev Ke:=Ky × Int
def qB (E:List (Ke × Nat)):List ME:=E.map fun x=>⟨.agg (cI x.1.1),.int .i64 x.1.2,x.2⟩
theorem Md {H:Hp} {k:Ky}:∀ (E:List (Ke × Nat)) (i:Nat),(∀ x∈E,x.1.1≠k)->mz P H 80 (.agg (cI k)) (qB E) i=some none
 | [],i,_=>rfl
 | x::E,i,h=>by
  show mz P H _ (.agg (cI k)) (⟨.agg (cI x.1.1),.int .i64 x.1.2,x.2⟩::qB E) i=_
  unfold mz
  simp only[Ql (h x (.head _)) H]
  exact Md E (i+1) fun y hy=>h y (.tail _ hy)
theorem Z1 {H:Hp} {k:Ky}:∀ (E:List (Ke × Nat)),(∀ x∈E,x.1.1≠k)->uZ P H 80 (.agg (cI k)) (qB E)=true
 | [],_=>rfl
 | x::E,h=>by
  show uZ P H _ (.agg (cI k)) (⟨.agg (cI x.1.1),.int .i64 x.1.2,x.2⟩::qB E)=_
  unfold uZ
  simp only[Ql (h x (.head _)) H]
  exact Z1 E fun y hy=>h y (.tail _ hy)
theorem Y8 {H:Hp} {k:Ky} {x:Ke × Nat} {B:List (Ke × Nat)} (hx:x.1.1=k) (hB:∀ y∈B,y.1.1≠k):∀ (A:List (Ke × Nat)) (i:Nat),(∀ y∈A,y.1.1≠k)->
  ∃ j,mz P H 80 (.agg (cI k)) (qB (A++x::B)) i=some (some (j,⟨.agg (cI x.1.1),.int .i64 x.1.2,x.2⟩))
 | [],i,_=>by
  refine⟨i,?_⟩
  show mz P H _ (.agg (cI k)) (⟨.agg (cI x.1.1),.int .i64 x.1.2,x.2⟩::qB B) i=_
  unfold mz
  subst hx
  simp only[abS,Z1 B hB,cond_true]
 | y::A,i,h=>by
  obtain⟨j,hj⟩:=Y8 hx hB A (i+1) fun z hz=>h z (.tail _ hz)
  refine⟨j,?_⟩
  show mz P H _ (.agg (cI k)) (⟨.agg (cI y.1.1),.int .i64 y.1.2,y.2⟩::qB (A++x::B)) i=_
  unfold mz
  simp only[Ql (h y (.head _)) H]
  exact hj
theorem N1 (k:Ky):nc P 20 80 (.agg (cI k))=true:=by kernel_rfl
def me (ks:List Ke) (k:Ky):Option Int:=(ks.find? (fun x=>x.1==k)).map (·.2)
theorem FW {ks:List Ke} {k:Ky} (h:me ks k=none):∀ x∈ks,x.1≠k:=by
 unfold me at h
 rw[Option.map_eq_none_iff,List.find?_eq_none] at h
 intro x hx q
 exact h x hx (by rw[q];exact beq_self_eq_true _)
theorem Qq {ks:List Ke} {k:Ky} {id:Int} (h:me ks k=some id):∃ a b,ks=a++(k,id)::b/\∀ x∈a,x.1≠k:=by
 unfold me at h
 rw[aaF] at h
 obtain⟨x,h1,rfl⟩:=h
 rw[List.find?_eq_some_iff_append] at h1
 obtain⟨h2,a,b,rfl,h3⟩:=h1
 have:x.1=k:=by simpa using h2
 subst this
 exact⟨a,b,rfl,fun y hy q=>by have:=h3 y hy;rw[q] at this;simp at this⟩
abbrev kv (km:Nat) (lx:AV):List AV:=[.int .i64 128,.map km,lx]
structure KO (H:Hp) (kp km:Nat) (lx:AV) (ks:List Ke):Prop where
 c:Cs H kp (kv km lx) 136 0
 m:∃ bs c,bs.length=ks.length/\Mp H km (qB (ks.zip bs)) c
 l:OL H 80 2 lx (ks.map fun x=>cI x.1)
 nd:(ks.map (·.1)).Nodup
 d1:kp≠km
 d2:∀ j∈ak lx,j≠kp/\j≠km
def AB (kp km:Nat) (lx:AV):List Nat:=kp::km::ak lx
theorem KO.out {H H':Hp} {kp km:Nat} {lx:AV} {ks:List Ke} {S:List Nat} (h:KO H kp km lx ks) (k:Out S H H') (hs:∀ j∈AB kp km lx,j∉S):KO H' kp km lx ks:=by
 obtain⟨bs,c,h1,h2⟩:=h.m
 exact⟨h.c.out k (hs _ (.head _)),⟨bs,c,h1,h2.out k (hs _ (.tail _ (.head _)))⟩,h.l.out k fun j hj=>hs j (.tail _ (.tail _ hj)),h.nd,h.d1,h.d2⟩
theorem KO.aw {H H':Hp} {kp km:Nat} {lx:AV} {ks:List Ke} (h:KO H kp km lx ks) (k:Out [] H H'):KO H' kp km lx ks:=h.out k fun _ _ q=>by cases q
theorem KO.lt {H:Hp} {kp km:Nat} {lx:AV} {ks:List Ke} (h:KO H kp km lx ks):∀ j∈AB kp km lx,j<H.next:=by
 intro j hj
 obtain⟨bs,c,h1,h2⟩:=h.m
 rcases abn.1 hj with rfl | hj
 ·exact h.c.1
 ·rcases abn.1 hj with rfl | hj
  ·exact h2.1
  ·exact h.l.1.rw.lt j hj
theorem ajS (H:Hp):∃ kp km H',cK (.func (.func 44) [] []) [.int .i64 128] H=some (.ptr kp 0,H')/\KO H' kp km .ah []/\Out [] H H'/\H.next<=kp/\H.next<=km:=by
 obtain⟨H1,m1,m2,m3,m4⟩:=IT H
 have hf:fl [(.int .i64 0),.jv,.ah] [(0,1,.int .i64 128),(1,1,.map H.next)]=some (kv H.next .ah):=rfl
 have bg:bx 136 (.agg (kv H.next .ah)) H1=some (H1.next,al H1 (kv H.next .ah) 136 0):=iE (by simp)
 have o2:=aN H1 (kv H.next .ah) 136 0
 have c2:=bD H1 (kv H.next .ah) 136 0
 refine⟨H1.next,H.next,al H1 (kv H.next .ah) 136 0,agY ?_,⟨c2,⟨[],0,rfl,m2.out o2 (by simp)⟩,OL.nil _ _ _,by simp,by omega,fun j hj=>by cases hj⟩,m3.trans o2,by omega,abe _⟩
 unfold ZJ
 simp only[anX,Es,Int.reduceLT,if_false,if_true,m1,hf,bg,aj,ai,simprocAttr]
theorem Ja {ks:List Ke} {bs:List Nat} {k:Ky} (h:∀ x∈ks,x.1≠k):∀ y∈ks.zip bs,y.1.1≠k:=fun y hy=>h y.1 (List.of_mem_zip hy).1
theorem aeF {a b:List Ke} {x:Ke} {bs:List Nat} (h:bs.length=(a++x::b).length):∃ b1 c b2,(a++x::b).zip bs=a.zip b1++(x,c)::b.zip b2:=by
 have h1:a.length<bs.length:=by rw[h,aby,abx];omega
 refine⟨bs.take a.length,bs[a.length],bs.drop (a.length+1),?_⟩
 conv=>lhs;rw[show bs=bs.take a.length++bs[a.length]::bs.drop (a.length+1) by rw[List.getElem_cons_drop,agx]]
 rw[List.zip_append (by rw[adA];omega)]
 rfl
theorem Q4 {H:Hp} {km:Nat} {ks:List Ke} (hm:∃ bs c,bs.length=ks.length/\Mp H km (qB (ks.zip bs)) c) (gQ:(ks.map (·.1)).Nodup) (k:Ky) (ok:Bool) :
  qb P 133 (.map km) (.agg (cI k)) ok H=some (bif ok then .tuple [.int .i64 ((me ks k).getD 0),.bool (me ks k).isSome] else .int .i64 ((me ks k).getD 0)):=by
 obtain⟨bs,c,h1,h2⟩:=hm
 have hu:P.underlying 133=some (.map 80 3):=Tryz.underlying133
 have hz:((P.info? 3).bind (·.zero)).bind jB=some (.int .i64 0):=by kernel_rfl
 unfold qb
 cases hg:me ks k with
 | none=>
  simp only[hu,N1,cond_true,F8 h2,Md _ 0 (Ja (bs:=bs) (FW hg)),hz,ady]
  cases ok<;>rfl
 | some id=>
  obtain⟨a,b,rfl,h3⟩:=Qq hg
  obtain⟨b1,c1,b2,h4⟩:=aeF h1
  rw[h4] at h2
  have hb:∀ x∈b,x.1≠k:=by
   intro x hx q
   rw[adu,acJ,aem,agQ] at gQ
   exact gQ.2.1.1 (acI.2 ⟨x,hx,q⟩)
  obtain⟨j,hj⟩:=Y8 (H:=H) (x:=((k,id),c1)) (k:=k) rfl (Ja (bs:=b2) hb) (a.zip b1) 0 (Ja h3)
  simp only[hu,N1,cond_true,F8 h2,hj]
  cases ok<;>rfl
theorem BP (k:Ky):(cI k).length=2:=rfl
theorem anr {H:Hp} {kp km:Nat} {lx:AV} {ks:List Ke} (h:KO H kp km lx ks) (k:Ky):∃ H',cK (.func (.func 83) [] []) [.ptr kp 0,.agg (cI k)] H=some (.tuple [.int .i64 ((me ks k).getD 0),.bool (me ks k).isSome],H')/\Out [] H H':=by
 have bg:bx 80 (.agg (cI k)) H=some (H.next,al H (cI k) 80 0):=iE (by rw[BP];omega)
 have o1:=aN H (cI k) 80 0
 have c1:=bD H (cI k) 80 0
 generalize al H (cI k) 80 0=H1 at *
 have h1:=h.aw o1
 have k1:cellAt H1 kp 1=some (.map km):=h1.c.cellAt rfl
 have k2:av H1 H.next 0 2=some (cI k):=c1.av 2 0 (by rw[BP];omega)
 have lk:=Q4 h1.m h1.nd k true
 refine⟨H1,als ?_,o1⟩
 unfold Xc
 simp(disch:=(first|assumption|omega|(simp only[ag,af,simprocAttr]<;>fail)|(simp only[af];omega)|(simp only[ag,af,simprocAttr, *]<;>fail)|fail))only[bg,k1,k2,lk,cond_true,au,ar,aj,ai,simprocAttr]
theorem afc {H:Hp} {kp km:Nat} {lx:AV} {ks:List Ke} (h:KO H kp km lx ks) (hn:ks.length<128) {k:Ky} (hk:me ks k=none) (id:Int) :
  ∃ tN H',cK (.func (.func 33) [] []) [.ptr kp 0,.agg (cI k),.int .i64 id] H=some (.tuple [.int .i64 id,.bool true],H')/\KO H' kp km tN (ks++[(k,id)])/\Out (AB kp km lx) H H'/\∀ j∈ak tN,j∈ak lx\/H.next<=j:=by
 have bg:bx 80 (.agg (cI k)) H=some (H.next,al H (cI k) 80 0):=iE (by rw[BP];omega)
 have o1:=aN H (cI k) 80 0
 have c1:=bD H (cI k) 80 0
 have n1:(al H (cI k) 80 0).next=H.next+1:=rfl
 generalize al H (cI k) 80 0=H1 at *
 have h1:=h.aw o1
 have aQ:=h.lt
 have k0:cellAt H1 kp 0=some (.int .i64 128):=h1.c.cellAt rfl
 have k1:cellAt H1 kp 1=some (.map km):=h1.c.cellAt rfl
 have k2:cellAt H1 kp 2=some lx:=h1.c.cellAt rfl
 have kx:av H1 H.next 0 2=some (cI k):=c1.av 2 0 (by rw[BP];omega)
 have lk:=Q4 h1.m h1.nd k true
 rw[hk] at lk
 have hlen:=h1.l.rl.len (by decide)
 rw[ac7] at hlen
 have dn:(((ks.length:Nat):Int)==128)=false:=by rw[beq_eq_false_iff_ne];omega
 obtain⟨bs,c,b1,b2⟩:=h1.m
 have hu:P.underlying 133=some (.map 80 3):=Tryz.underlying133
 have Ej:qB ((ks++[(k,id)]).zip (bs++[c]))=qB (ks.zip bs)++[⟨.agg (cI k),.int .i64 id,c⟩]:=by
  rw[List.zip_append b1.symm];simp[qB]
 obtain⟨H2,u1,u2,u3,u4⟩:∃ H2,nu P 133 (.map km) (.agg (cI k)) (.int .i64 id) H1=some H2/\Mp H2 km (qB ((ks++[(k,id)]).zip (bs++[c]))) (c+1)/\Out [km] H1 H2/\H2.next=H1.next:=by
  rw[Ej]
  refine⟨_,?_,(b2.set _ _).1,(b2.set _ _).2,rfl⟩
  unfold nu
  simp only[hu,N1,cond_true,b2.2,Md _ 0 (Ja (bs:=bs) (FW hk))]
 have hkm:km<H.next:=aQ km (.tail _ (.head _))
 have hkp:kp<H.next:=aQ kp (.head _)
 have q2:cellAt H2 kp 2=some lx:=by rw[u3.cellAt h1.c.1 (by simpa using h.d1)];exact k2
 have qx:av H2 H.next 0 2=some (cI k):=by rw[u3.av c1.1 (by rw[aan];omega)];exact kx
 have hf:fl [(.str []),(.str [])] [(0,2,.agg (cI k))]=some (cI k):=rfl
 have mR:OL H2 80 2 lx (ks.map fun x=>cI x.1):=h1.l.out u3 fun j hj=>by rw[aan];exact (h.d2 j hj).2
 have eh:aL H2 (cI k) 80 0=some (H2.next,al H2 (cI k) 80 0):=iy (by rw[BP];omega)
 obtain⟨tN,H3,p1,p2,p3,p4,p5⟩:=mR.push (fU:=80) (z:=[(.str []),(.str [])]) (vs:=cI k) rfl rfl (by decide) (by rw[ac7];omega)
 have iY:=p1 H2.next rfl
 have c3:Cs H3 kp (kv km lx) 136 0:=(h1.c.out u3 (by simpa using h.d1)).out p3 fun q=>(h.d2 kp q).1 rfl
 obtain⟨H4,s1,s2,s3,s4⟩:=fR c3 (by decide) (o:=2) (by simp) (v:=tN) p5
 have a2:=aN H2 (cI k) 80 0
 have q3:cellAt (al H2 (cI k) 80 0) kp 2=some lx:=by rw[a2.cellAt (by rw[u4,n1];omega) (by simp)];exact q2
 have gT:H2.next=H.next+1:=by rw[u4,n1]
 have fc:∀ j∈ak tN,j≠kp/\j≠km:=fun j hj=>by
  rcases p4 j hj with q | q
  ·exact h.d2 j q
  ·omega
 have m3:Mp H3 km (qB ((ks++[(k,id)]).zip (bs++[c]))) (c+1):=u2.out p3 fun q=>(h.d2 km q).2 rfl
 refine⟨tN,H4,agq ?_,⟨s2,⟨bs++[c],c+1,by simp[b1],m3.out s3 (by rw[aan];exact fun q=>h.d1 q.symm)⟩,?_,?_,h.d1,fc⟩,?_,fun j hj=>(p4 j hj).imp (fun q=>q) fun q=>by omega⟩
 ·unfold N5
  simp(disch:=(first|assumption|omega|(simp only[ag,af,simprocAttr]<;>fail)|(simp only[af];omega)|(simp only[ag,af,simprocAttr, *]<;>fail)|fail))only[bg,k0,k1,k2,kx,lk,hlen,dn,u1,q2,qx,hf,eh,iY,s1,q3,nH (Dl h1.l.1.rw),aeB,cond_true,au,ar,aj,ai,simprocAttr]
 ·rw[adu]
  exact p2.out s3 fun j hj=>by rw[aan];exact (fc j hj).1
 ·rw[adu]
  rw[aem]
  refine⟨h.nd,by simp,fun x hx y hy q => ?_⟩
  simp at hy
  obtain⟨z,hz,rfl⟩:=acI.1 hx
  exact FW hk z hz (q.trans hy)
 ·refine ((((o1.mono (S':=AB kp km lx) (fun j hj=>by cases hj)).trans (u3.mono fun j hj => ?_)).trans (p3.mono fun j hj => .tail _ (.tail _ hj))).trans (s3.mono fun j hj => ?_))
  ·rw[aan] at hj;subst hj;exact .tail _ (.head _)
  ·rw[aan] at hj;subst hj;exact .head _
def gm (x:Ke):List AV:=[.str x.1.1,.str x.1.2,.int .i64 x.2]
theorem an5 {ks:List Ke} (gQ:(ks.map (·.1)).Nodup) {i:Nat} {x:Ke} (h:ks[i]? = some x):me ks x.1=some x.2:=by
 cases hg:me ks x.1 with
 | none=>exact absurd rfl (FW hg x (aa2 h))
 | some id=>
  obtain⟨a,b,rfl,h3⟩:=Qq hg
  have hx:=aa2 h
  rcases abP.1 hx with hx | hx
  ·exact absurd rfl (h3 x hx)
  ·rcases abn.1 hx with hx | hx
   ·rw[hx]
   ·rw[adu,acJ,aem,agQ] at gQ
    exact absurd (acI.2 ⟨x,hx,rfl⟩) gQ.2.1.1
theorem ZZ {kp km:Nat} {lx:AV} {ks:List Ke} {H0:Hp} (hn:ks.length<=1000) (Yg:KO H0 kp km lx ks):∀ (r:List Ke) (i:Nat) (H:Hp) (ox:AV),i<=ks.length->ks.drop i=r->Out [] H0 H->OL H 82 3 ox ((ks.take i).map gm)->(∀ j∈ak ox,H0.next<=j)->
  ∃ Fg H',(∀ cg:K.Fn 1,Ex JN GO cK cg (.ptr kp 0) ox lx (.int .i64 (ks.length:Nat)) (.int .i64 (i:Nat)) H=cg Fg H')/\OL H' 82 3 Fg (ks.map gm)/\Out [] H0 H'/\∀ j∈ak Fg,H0.next<=j
 | [],i,H,ox,hi,h,hO,hL,hr=>by
  obtain rfl:=drop_nil hi h
  refine⟨ox,H,fun cg => ?_,by rw[List.take_length] at hL;exact hL,hO,hr⟩
  rw[Sh]
  simp only[Oc,fw,aj,ai,simprocAttr]
 | x::r,i,H,ox,hi,h,hO,hL,hr=>by
  obtain⟨g1,g2,g3⟩:=fC h
  have es:=fF g1 (by omega)
  have hK:=Yg.aw hO
  obtain⟨b,o,q1,q2,q3,q4,q5⟩:=hK.l.rl.at (by decide) (i:=i) (c:=cI x.1) (by rw[ada,g2];rfl)
  have aD:st 2 (.ptr H.next 0) (.agg (cI x.1)) (al H [(.str []),(.str [])] 80 0)=some (al H (cI x.1) 80 0):=kq rfl rfl rfl (by decide) rfl
  have o1:=aN H (cI x.1) 80 0
  have c1:=bD H (cI x.1) 80 0
  have n1:(al H (cI x.1) 80 0).next=H.next+1:=rfl
  have aex:aL H [(.str []),(.str [])] 80 0=some (H.next,al H [(.str []),(.str [])] 80 0):=iy (by simp)
  generalize gf:al H (cI x.1) 80 0=H1 at *
  have Mh:=hK.aw o1
  have k1:cellAt H1 kp 1=some (.map km):=Mh.c.cellAt rfl
  have kx:av H1 H.next 0 2=some (cI x.1):=c1.av 2 0 (by rw[BP];omega)
  have lk:=Q4 Mh.m Mh.nd x.1 false
  rw[an5 hK.nd g2] at lk
  have Aw:fl [(.str []),(.str []),(.int .i64 0)] [(0,2,.agg (cI x.1)),(2,1,.int .i64 x.2)]=some (gm x):=rfl
  have hf2:fl [(.str []),(.str []),(.int .i64 0)] [(0,3,.agg (gm x))]=some (gm x):=rfl
  have hL1:OL H1 82 3 ox ((ks.take i).map gm):=hL.out o1 fun j hj=>by simp
  have eh:aL H1 (gm x) 82 0=some (H1.next,al H1 (gm x) 82 0):=iy (by simp[gm])
  obtain⟨Fg,H2,p1,p2,p3,p4,p5⟩:=hL1.push (fU:=82) (z:=[(.str []),(.str []),(.int .i64 0)]) (vs:=gm x) rfl rfl (by decide) (by rw[ac7,adA];omega)
  have iY:=p1 H1.next rfl
  have yp:Out [] H0 H2:=gB (hO.trans o1) p3 hr
  have hO0:=hO.1
  obtain⟨ox2,H',i1,i2,i3,i4⟩:=ZZ hn Yg r (i+1) H2 Fg g1 g3 yp (by rw[agf,g2,adu];exact p2) (fun j hj=>(p4 j hj).elim (hr j) fun q=>by omega)
  refine⟨ox2,H',fun cg => ?_,i2,i3,i4⟩
  rw[Sh]
  simp(disch:=(first|assumption|omega|(simp only[ag,af,simprocAttr]<;>fail)|(simp only[af];omega)|(simp only[ag,af,simprocAttr, *]<;>fail)|fail))only[Oc,bN g1,q1,q4,aex,aD,kx,k1,lk,Aw,hf2,eh,iY,ae0,cond_false,es,i1,au,ar,aj,ai,simprocAttr]
theorem PW {H:Hp} {kp km:Nat} {lx:AV} {ks:List Ke} (hn:ks.length<=1000) (h:KO H kp km lx ks) :
  ∃ ox H',cK (.func (.func 32) [] []) [.ptr kp 0] H=some (ox,H')/\OL H' 82 3 ox (ks.map gm)/\Out [] H H'/\∀ j∈ak ox,H.next<=j:=by
 have k2:cellAt H kp 2=some lx:=h.c.cellAt rfl
 have hlen:=h.l.rl.len (by decide)
 rw[ac7] at hlen
 obtain⟨ox,H',i1,i2,i3,i4⟩:=ZZ hn h ks 0 H .ah (ab2 _) abJ (Out.refl _ _) (by rw[agv];exact OL.nil _ _ _) (fun j hj=>by cases hj)
 rw[show (((0:Nat):Int))=0 from rfl] at i1
 refine⟨ox,H',ama ?_,i2,i3,i4⟩
 unfold UO
 simp(disch:=(first|assumption|omega|(simp only[ag,af,simprocAttr]<;>fail)|(simp only[af];omega)|(simp only[ag,af,simprocAttr, *]<;>fail)|fail))only[k2,hlen,i1,au,ar,aj,ai,simprocAttr]
def Dj (l m:List Nat):Prop:=∀ j∈l,j∉m
theorem Dj.symm {l m:List Nat} (h:Dj l m):Dj m l:=fun j hj hl=>h j hl hj
theorem Ni {L:List (List Nat)} {k N:Nat} {l l':List Nat} (h:L.Pairwise Dj) (hk:L[k]? = some l) (hN:∀ m∈L,∀ j∈m,j<N) (hl:∀ j∈l',j∈l\/N<=j):(L.set k l').Pairwise Dj:=by
 rw[List.pairwise_iff_getElem] at h ⊢
 obtain⟨jV,lg⟩:=aaK.1 hk
 have key:∀ (i:Nat) (hi:i<L.length),i≠k->Dj l' L[i]:=by
  intro i hi hik j hj hm
  rcases hl j hj with q | q
  ·rcases Nat.lt_or_gt_of_ne hik with c | c
   ·exact h i k hi jV c j hm (by rw[lg];exact q)
   ·exact h k i jV hi c j (by rw[lg];exact q) hm
  ·have:=hN _ (List.getElem_mem hi) j hm;omega
 intro i j hi hj nD
 rw[acT] at hi hj
 rw[List.getElem_set,List.getElem_set]
 by_cases h1:k=i
 ·subst h1
  rw[if_pos rfl,if_neg (by omega)]
  exact key j hj (by omega)
 ·rw[if_neg h1]
  by_cases h2:k=j
  ·subst h2
   rw[if_pos rfl]
   exact (key i hi (by omega)).symm
  ·rw[if_neg h2]
   exact h i j hi hj nD
theorem CG {L:List (List Nat)} (h:L.Pairwise Dj) {i j:Nat} (nD:i≠j) {l m:List Nat} (hi:L[i]? = some l) (hj:L[j]? = some m):Dj l m:=by
 rw[List.pairwise_iff_getElem] at h
 obtain⟨a1,a2⟩:=aaK.1 hi
 obtain⟨b1,b2⟩:=aaK.1 hj
 subst a2;subst b2
 rcases Nat.lt_or_gt_of_ne nD with c | c
 ·exact h i j a1 b1 c
 ·exact (h j i b1 a1 c).symm
structure RA where
 dx:AV
 xs:List AV
 tx:AV
 sx:AV
def RA.fp (r:RA):List Nat:=nA r.dx r.xs r.tx r.sx
structure Fm where
 ck:Int
 dO:List aq
 gp:List (aq × aq)
 aA:List (Rn × aq)
 ks:List Ke
structure FA where
 tm:Nat
 kp:Nat
 km:Nat
 nx:AV
 rx:AV
 kl:AV
 bG:List RA
def cw (r:RA) (x:Rn × aq):List AV:=[r.dx,.int .i64 x.1.st,r.tx,r.sx,.str x.2]
def mB (E:List ((aq × aq) × Nat)):List ME:=E.map fun x=>⟨.str x.1.1,.str x.1.2,x.2⟩
def gP (p:Nat) (a:FA):List (List Nat):=[[p],[a.tm],[a.kp],[a.km],ak a.nx,ak a.rx,ak a.kl]
def own (p:Nat) (a:FA):List Nat:=(gP p a).flatten
def dR (a:FA):List Nat:=a.bG.flatMap RA.fp
abbrev fv (a:FA) (f:Fm):List AV:=[.int .i64 f.ck,a.nx,.map a.tm,a.rx,.ptr a.kp 0]
structure FL (H:Hp) (p:Nat) (a:FA) (f:Fm):Prop where
 c:Cs H p (fv a f) 67 0
 n:Ow H 9 1 a.nx (strs f.dO)
 t:∃ bs c,bs.length=f.gp.length/\Mp H a.tm (mB (f.gp.zip bs)) c
 pP:(f.gp.map (·.1)).Nodup
 r:OL H 77 5 a.rx (List.zipWith cw a.bG f.aA)
 v:∀ (i:Nat) (r:RA) (x:Rn × aq),a.bG[i]? = some r->f.aA[i]? = some x->RV H r.dx r.xs r.tx r.sx x.1
 len:a.bG.length=f.aA.length
 k:KO H a.kp a.km a.kl f.ks
 dj:(gP p a).Pairwise Dj
 lo:∀ j∈own p a,11<=j
 dR:∀ j∈dR a,j∉own p a/\j<H.next
theorem fJ {p j k:Nat} {a:FA} {l:List Nat} (h:(gP p a)[k]? = some l) (hj:j∈l):j∈own p a:=af9.2 ⟨l,aa2 h,hj⟩
theorem FL.lt {H:Hp} {p:Nat} {a:FA} {f:Fm} (h:FL H p a f):∀ j∈own p a,j<H.next:=by
 intro j hj
 obtain⟨l,hl,hj⟩:=af9.1 hj
 obtain⟨bs,c,_,hm⟩:=h.t
 have hk:=h.k.lt
 simp only[gP,abn,List.mem_nil_iff,or_false] at hl
 rcases hl with rfl | rfl | rfl | rfl | rfl | rfl | rfl
 ·rw[aan] at hj;subst hj;exact h.c.1
 ·rw[aan] at hj;subst hj;exact hm.1
 ·rw[aan] at hj;subst hj;exact hk _ (.head _)
 ·rw[aan] at hj;subst hj;exact hk _ (.tail _ (.head _))
 ·exact h.n.rw.lt j hj
 ·exact h.r.1.rw.lt j hj
 ·exact hk _ (.tail _ (.tail _ hj))
theorem FL.QE {H:Hp} {p:Nat} {a:FA} {f:Fm} (h:FL H p a f):∀ m∈gP p a,∀ j∈m,j<H.next:=fun m hm j hj=>h.lt j (af9.2 ⟨m,hm,hj⟩)
theorem G7 {a:FA} {i:Nat} {r:RA} (h:a.bG[i]? = some r):∀ j∈r.fp,j∈dR a:=fun j hj=>agl.2 ⟨r,aa2 h,hj⟩
theorem FL.out {H H':Hp} {p:Nat} {a:FA} {f:Fm} {S:List Nat} (h:FL H p a f) (k:Out S H H') (hs:∀ j∈own p a,j∉S) (hi:∀ j∈DfK.dR a,j∉S):FL H' p a f:=by
 obtain⟨bs,c,h1,h2⟩:=h.t
 have hk:=h.k.lt
 refine⟨h.c.out k (hs _ (fJ (k:=0) rfl (.head _))),h.n.out k fun j hj=>hs _ (fJ (k:=4) rfl hj),⟨bs,c,h1,h2.out k (hs _ (fJ (k:=1) rfl (.head _)))⟩,h.pP,h.r.out k fun j hj=>hs _ (fJ (k:=5) rfl hj),fun i r x hr hx=>(h.v i r x hr hx).out k fun j hj=>hi j (G7 hr j hj),h.len,h.k.out k fun j hj => ?_,h.dj,h.lo,fun j hj=>⟨(h.dR j hj).1,ac8 (h.dR j hj).2 k.1⟩⟩
 rcases abn.1 hj with rfl | hj
 ·exact hs _ (fJ (k:=2) rfl (.head _))
 ·rcases abn.1 hj with rfl | hj
  ·exact hs _ (fJ (k:=3) rfl (.head _))
  ·exact hs _ (fJ (k:=6) rfl hj)
theorem FL.aw {H H':Hp} {p:Nat} {a:FA} {f:Fm} (h:FL H p a f) (k:Out [] H H'):FL H' p a f:=h.out k (fun _ _ q=>by cases q) fun _ _ q=>by cases q
structure FSt (H H':Hp) (p:Nat) (a a':FA):Prop where
 o:Out (own p a) H H'
 w:∀ j∈own p a',j∈own p a\/H.next<=j
 i:∀ j∈DfK.dR a',j∈DfK.dR a\/H.next<=j
theorem FSt.same {H H':Hp} (k:Out [] H H') (p:Nat) (a:FA):FSt H H' p a a:=⟨k.mono fun j hj=>(by cases hj),fun j hj => .inl hj,fun j hj => .inl hj⟩
theorem FSt.trans {H H' lX:Hp} {p:Nat} {a b c:FA} (h:FSt H H' p a b) (k:FSt H' lX p b c):FSt H lX p a c:=
 ⟨h.o.then k.o h.w,fun j hj=>(k.w j hj).elim (h.w j) fun q => .inr (afo h.o.1 q),fun j hj=>(k.i j hj).elim (h.i j) fun q => .inr (afo h.o.1 q)⟩
theorem FL.part {H H':Hp} {p:Nat} {a:FA} {f:Fm} {S:List Nat} {i:Nat} (h:FL H p a f) (k:Out S H H') (hS:(gP p a)[i]? = some S) :
  (i≠0->Cs H' p (fv a f) 67 0)/\(i≠4->Ow H' 9 1 a.nx (strs f.dO))/\(i≠1->∃ bs c,bs.length=f.gp.length/\Mp H' a.tm (mB (f.gp.zip bs)) c)/\(i≠5->OL H' 77 5 a.rx (List.zipWith cw a.bG f.aA))/\
  (i≠2->i≠3->i≠6->KO H' a.kp a.km a.kl f.ks)/\(∀ (i:Nat) (r:RA) (x:Rn × aq),a.bG[i]? = some r->f.aA[i]? = some x->RV H' r.dx r.xs r.tx r.sx x.1):=by
 have sep:∀ {j:Nat} {l:List Nat},i≠j->(gP p a)[j]? = some l->∀ x∈l,x∉S:=fun nD hl=>(CG h.dj nD hS hl).symm
 obtain⟨bs,c,h1,h2⟩:=h.t
 refine⟨fun hi=>h.c.out k (sep hi rfl p (.head _)),fun hi=>h.n.out k (sep hi rfl),fun hi=>⟨bs,c,h1,h2.out k (sep hi rfl a.tm (.head _))⟩,fun hi=>h.r.out k (sep hi rfl),fun i1 i2 i3=>h.k.out k fun j hj => ?_,fun m r x hr hx=>(h.v m r x hr hx).out k fun j hj q=>(h.dR j (G7 hr j hj)).1 (fJ hS q)⟩
 rcases abn.1 hj with rfl | hj
 ·exact sep i1 rfl _ (.head _)
 ·rcases abn.1 hj with rfl | hj
  ·exact sep i2 rfl _ (.head _)
  ·exact sep i3 rfl _ hj
theorem FL.M0 {H H':Hp} {p:Nat} {a:FA} {f:Fm} (h:FL H p a f) (hn:H.next<=H'.next):∀ j∈DfK.dR a,j∉own p a/\j<H'.next:=fun j hj=>⟨(h.dR j hj).1,ac8 (h.dR j hj).2 hn⟩
theorem FL.clock {H:Hp} {p:Nat} {a:FA} {f:Fm} (h:FL H p a f) (z:Int):∃ H',st 1 (.ptr p 0) (.int .i64 z) H=some H'/\FL H' p a { f with ck:=z }/\FSt H H' p a a:=by
 obtain⟨H',s1,s2,s3,s4⟩:=fR h.c (by decide) (o:=0) (by simp) (v := .int .i64 z) rfl
 obtain⟨p0,p4,p1,p5,pk,pv⟩:=h.part s3 (i:=0) rfl
 exact⟨H',s1,⟨s2,p4 (by decide),p1 (by decide),h.pP,p5 (by decide),pv,h.len,pk (by decide) (by decide) (by decide),h.dj,h.lo,h.M0 s3.1⟩,s3.mono fun j hj=>fJ (k:=0) rfl hj,fun j hj => .inl hj,fun j hj => .inl hj⟩
theorem PD {p k N:Nat} {a a':FA} {l l':List Nat} (hs:gP p a'=(gP p a).set k l') (hk:(gP p a)[k]? = some l) (hl:∀ j∈l',j∈l\/N<=j):∀ j∈own p a',j∈own p a\/N<=j:=by
 intro j hj
 obtain⟨m,hm,hj⟩:=af9.1 hj
 rw[hs] at hm
 rcases afK hm with q | rfl
 ·exact .inl (af9.2 ⟨m,q,hj⟩)
 ·exact (hl j hj).imp (fun q=>fJ hk q) id
theorem FL.afr {H:Hp} {p:Nat} {a:FA} {f:Fm} (h:FL H p a f) (s:aq) (hn:f.dO.length<=1000) :
  ∃ gg H1 H2,(∀ i,i=H.next->gC 9 1 [(.str [])] false a.nx (.slice i 0 1 1 true 1) (al H [.str s] 9 0)=some (gg,H1))/\st 1 (.ptr p 1) gg H1=some H2/\FL H2 p { a with nx:=gg } { f with dO:=f.dO++[s] }/\FSt H H2 p a { a with nx:=gg }/\bq gg=true:=by
 obtain⟨gg,H1,p1,p2,p3,p4,p5⟩:=vP (fU:=9) (z:=[(.str [])]) (vs:=[.str s]) h.n rfl rfl (by decide) (by rw[iP];simp;omega)
 obtain⟨q0,q4,q1,q5,qk,qv⟩:=h.part p3 (i:=4) rfl
 obtain⟨H2,s1,s2,s3,s4⟩:=fR (q0 (by decide)) (by decide) (o:=1) (by simp) (v:=gg) p5
 have hs:gP p { a with nx:=gg }=(gP p a).set 4 (ak gg):=rfl
 have se:(gP p { a with nx:=gg }).Pairwise Dj:=by rw[hs];exact Ni h.dj (k:=4) rfl h.QE p4
 have sep:∀ {j:Nat} {l:List Nat},0≠j->(gP p { a with nx:=gg })[j]? = some l->∀ x∈l,x∉[p]:=fun nD hl=>(CG se nD (i:=0) rfl hl).symm
 have hw:=PD (a:=a) (N:=H.next) hs (k:=4) rfl p4
 have hi:∀ j∈DfK.dR { a with nx:=gg },j∉own p { a with nx:=gg }/\j<H2.next:=fun j hj=>⟨fun q=>(hw j q).elim (h.dR j hj).1 fun z=>by have:=(h.dR j hj).2;omega,by have:=(h.dR j hj).2;have:=p3.1;have:=s3.1;omega⟩
 obtain⟨bs,c,t1,t2⟩:=q1 (by decide)
 have hO:Out (own p a) H H2:=(p3.mono fun j hj=>fJ (k:=4) rfl hj).trans (s3.mono fun j hj=>fJ (k:=0) rfl hj)
 refine⟨gg,H1,H2,p1,s1,⟨s2,?_,⟨bs,c,t1,t2.out s3 (sep (j:=1) (by decide) rfl _ (.head _))⟩,h.pP,(q5 (by decide)).out s3 (sep (j:=5) (by decide) rfl),fun i r x hr hx=>(qv i r x hr hx).out s3 fun j hj q=>(hi j (G7 (a:={ a with nx:=gg }) hr j hj)).1 (fJ (k:=0) rfl q),h.len,(qk (by decide) (by decide) (by decide)).out s3 fun j hj => ?_,se,fun j hj=>(hw j hj).elim (h.lo j) fun q => ?_,hi⟩,⟨hO,hw,fun j hj => .inl hj⟩,p5⟩
 ·rw[show strs (f.dO++[s])=strs f.dO++[.str s] by rw[Iy];rfl]
  exact p2.out s3 (sep (j:=4) (by decide) rfl)
 ·rcases abn.1 hj with rfl | hj
  ·exact sep (j:=2) (by decide) rfl _ (.head _)
  ·rcases abn.1 hj with rfl | hj
   ·exact sep (j:=3) (by decide) rfl _ (.head _)
   ·exact sep (j:=6) (by decide) rfl _ hj
 ·have:=h.lo p (fJ (k:=0) rfl (.head _));have:=h.c.1;omega
theorem I2 {l:List ((aq × aq) × Nat)} {s:aq} (h:∀ x∈l,x.1.1≠s):∀ e∈mB l,∃ q,e.key = .str q/\q≠s:=by
 intro e he
 obtain⟨x,hx,rfl⟩:=acI.1 he
 exact⟨_,rfl,h x hx⟩
def jb (l:List (aq × aq)) (s:aq):Option aq:=(l.find? (fun x=>x.1==s)).map (·.2)
theorem KR {l:List (aq × aq)} {k:aq} (h:jb l k=none):∀ x∈l,x.1≠k:=by
 unfold jb at h
 rw[Option.map_eq_none_iff,List.find?_eq_none] at h
 intro x hx q
 exact h x hx (by rw[q];exact beq_self_eq_true _)
theorem TB {l:List (aq × aq)} {k t:aq} (h:jb l k=some t):∃ a b,l=a++(k,t)::b/\∀ x∈a,x.1≠k:=by
 unfold jb at h
 rw[aaF] at h
 obtain⟨x,h1,rfl⟩:=h
 rw[List.find?_eq_some_iff_append] at h1
 obtain⟨h2,a,b,rfl,h3⟩:=h1
 have:x.1=k:=by simpa using h2
 subst this
 exact⟨a,b,rfl,fun y hy q=>by have:=h3 y hy;rw[q] at this;simp at this⟩
theorem aiM {a b:List (aq × aq)} {x:aq × aq} {bs:List Nat} (h:bs.length=(a++x::b).length):∃ b1 c b2,(a++x::b).zip bs=a.zip b1++(x,c)::b.zip b2:=by
 have h1:a.length<bs.length:=by rw[h,aby,abx];omega
 refine⟨bs.take a.length,bs[a.length],bs.drop (a.length+1),?_⟩
 conv=>lhs;rw[show bs=bs.take a.length++bs[a.length]::bs.drop (a.length+1) by rw[List.getElem_cons_drop,agx]]
 rw[List.zip_append (by rw[adA];omega)]
 rfl
theorem J4 {l:List (aq × aq)} {bs:List Nat} {k:aq} (h:∀ x∈l,x.1≠k):∀ y∈l.zip bs,y.1.1≠k:=fun y hy=>h y.1 (List.of_mem_zip hy).1
theorem HZ {H:Hp} {tm:Nat} {l:List (aq × aq)} (hm:∃ bs c,bs.length=l.length/\Mp H tm (mB (l.zip bs)) c) (gQ:(l.map (·.1)).Nodup) (k:aq) (ok:Bool) :
  sG .str (.str []) ok (.map tm) (.str k) H=some (bif ok then .tuple [.str ((jb l k).getD []),.bool (jb l k).isSome] else .str ((jb l k).getD [])):=by
 obtain⟨bs,c,h1,h2⟩:=hm
 cases hg:jb l k with
 | none=>
  rw[aaj h2 (I2 (J4 (bs:=bs) (KR hg)))]
  cases ok<;>rfl
 | some t=>
  obtain⟨a,b,rfl,h3⟩:=TB hg
  obtain⟨b1,c1,b2,h4⟩:=aiM h1
  rw[h4] at h2
  have hb:∀ x∈b,x.1≠k:=by
   intro x hx q
   rw[adu,acJ,aem,agQ] at gQ
   exact gQ.2.1.1 (acI.2 ⟨x,hx,q⟩)
  have ml:mB (a.zip b1++((k,t),c1)::b.zip b2)=mB (a.zip b1)++⟨.str k,.str t,c1⟩::mB (b.zip b2):=by simp[mB]
  rw[ml] at h2
  rw[aax (k:=k) h2 rfl (I2 (J4 (bs:=b1) h3)) (I2 (J4 (bs:=b2) hb))]
  cases ok<;>rfl
theorem FL.adp {H:Hp} {p:Nat} {a:FA} {f:Fm} (h:FL H p a f) {s:aq} (hs:jb f.gp s=none) (t:aq) :
  ∃ H',tn .str (.map a.tm) (.str s) (.str t) H=some H'/\FL H' p a { f with gp:=f.gp++[(s,t)] }/\FSt H H' p a a:=by
 obtain⟨bs,c,t1,t2⟩:=h.t
 obtain⟨H',u1,u2,u3⟩:=aal t2 (I2 (J4 (bs:=bs) (KR hs))) (.str t)
 obtain⟨q0,q4,q1,q5,qk,qv⟩:=h.part u3 (i:=1) rfl
 refine⟨H',u1,⟨q0 (by decide),q4 (by decide),⟨bs++[c],c+1,by simp[t1],?_⟩,?_,q5 (by decide),qv,h.len,qk (by decide) (by decide) (by decide),h.dj,h.lo,h.M0 u3.1⟩,u3.mono fun j hj=>fJ (k:=1) rfl hj,fun j hj => .inl hj,fun j hj => .inl hj⟩
 ·rw[List.zip_append t1.symm]
  simpa[mB] using u2
 ·rw[adu,aem]
  refine⟨h.pP,by simp,fun x hx y hy q => ?_⟩
  simp at hy
  obtain⟨z,hz,rfl⟩:=acI.1 hx
  exact KR hs z hz (q.trans hy)
theorem Lx {bG:List RA} {xs:List (Rn × aq)} {i:Nat} {r:RA} {x:Rn × aq} (h1:bG[i]? = some r) (h2:xs[i]? = some x):(List.zipWith cw bG xs)[i]? = some (cw r x):=by rw[adE,h1,h2]
theorem acW {H:Hp} {r:RA} {x:Rn × aq} (h:RV H r.dx r.xs r.tx r.sx x.1):(cw r x).all bq=true:=by
 simp[cw,h.d.row.one,h.t.one,h.s.one,lU,Df]
theorem FL.VI {H:Hp} {p:Nat} {a:FA} {f:Fm} (h:FL H p a f) {i b o:Nat} {x:Rn × aq} (hx:f.aA[i]? = some x) (nJ:∀ kd,ia 5 a.rx (.int kd i)=some (.ptr b o)) {r':RA} {R':Rn} (hR:RV H r'.dx r'.xs r'.tx r'.sx R') (hn:∀ j∈r'.fp,j∉own p a) :
  ∃ H',st 4 (.ptr b o) (.agg (rv r'.dx R'.st r'.tx r'.sx)) H=some H'/\FL H' p { a with bG:=a.bG.set i r' } { f with aA:=f.aA.set i (R',x.2) }/\Out (ak a.rx) H H'/\(∀ j∈DfK.dR { a with bG:=a.bG.set i r' },j∈DfK.dR a\/j∈r'.fp):=by
 have bE:=(aaK.1 hx).1
 have hr:a.bG[i]? = some (a.bG[i]'(by rw[h.len];exact bE)):=aaM _
 generalize a.bG[i]'(by rw[h.len];exact bE)=r at hr
 have QS:∀ v∈rv r'.dx R'.st r'.tx r'.sx,bq v=true:=by
  intro v hv
  simp only[abn,List.mem_nil_iff,or_false] at hv
  rcases hv with rfl | rfl | rfl | rfl
  ·exact hR.d.row.one
  ·rfl
  ·exact hR.t.one
  ·exact hR.s.one
 obtain⟨H',s1,s2,s3,s4⟩:=h.r.L4 (k:=0) (vs:=rv r'.dx R'.st r'.tx r'.sx) (Lx hr hx) nJ QS (by simp) (by decide)
 rw[adx] at s1
 obtain⟨q0,q4,q1,q5,qk,qv⟩:=h.part s3 (i:=5) rfl
 have fg:iU (cw r x) 0 (rv r'.dx R'.st r'.tx r'.sx)=cw r' (R',x.2):=rfl
 rw[fg] at s2
 have Ec:(List.zipWith cw a.bG f.aA).set i (cw r' (R',x.2))=List.zipWith cw (a.bG.set i r') (f.aA.set i (R',x.2)):=by
  apply agM
  intro m
  rw[adE,afp,afp,afp,adE]
  by_cases hm:i=m
  ·subst hm
   rw[if_pos rfl,if_pos rfl,if_pos rfl,if_pos (by rw[aeP];have:=h.len;omega),if_pos (by rw[h.len];exact bE),if_pos bE]
  ·rw[if_neg hm,if_neg hm,if_neg hm]
 rw[Ec] at s2
 have AQ:∀ j∈DfK.dR { a with bG:=a.bG.set i r' },j∈DfK.dR a\/j∈r'.fp:=by
  intro j hj
  obtain⟨m,hm,jn⟩:=agl.1 hj
  rcases afK hm with q | q
  ·exact .inl (agl.2 ⟨m,q,jn⟩)
  ·rw[q] at jn;exact .inr jn
 refine⟨H',?_,⟨q0 (by decide),q4 (by decide),q1 (by decide),h.pP,s2,?_,by rw[acT,acT];exact h.len,qk (by decide) (by decide) (by decide),h.dj,h.lo,fun j hj => ?_⟩,s3,AQ⟩
 ·unfold st
  have:Nat.beq 4 (rv r'.dx R'.st r'.tx r'.sx).length=true:=rfl
  simp only[z7,this,cond_true]
  exact s1
 ·intro m r2 x2 h1 h2
  simp only at h1 h2
  rw[afp] at h1 h2
  by_cases hm:i=m
  ·subst hm
   rw[if_pos rfl,if_pos (by rw[h.len];exact bE)] at h1
   rw[if_pos rfl,if_pos bE] at h2
   cases h1;cases h2
   exact hR.out s3 fun j hj q=>hn j hj (fJ (k:=5) rfl q)
  ·rw[if_neg hm] at h1 h2
   exact qv m r2 x2 h1 h2
 ·have jP:=s3.1
  rcases AQ j hj with q | q
  ·exact⟨(h.dR j q).1,by have:=(h.dR j q).2;omega⟩
  ·exact⟨hn j q,by have:=hR.lt j q;omega⟩
theorem FL.aaP {H:Hp} {p:Nat} {a:FA} {f:Fm} (h:FL H p a f) {r':RA} {x:Rn × aq} (hR:RV H r'.dx r'.xs r'.tx r'.sx x.1) (hn:∀ j∈r'.fp,j∉own p a) (hlen:f.aA.length<=1000) :
  ∃ eF H1 H2,(∀ i,i=H.next->gC 77 5 [.ah,(.int .i64 0),.ah,.ah,(.str [])] false a.rx (.slice i 0 1 1 true 5) (al H (cw r' x) 77 0)=some (eF,H1))/\st 1 (.ptr p 3) eF H1=some H2/\FL H2 p { a with rx:=eF,bG:=a.bG++[r'] } { f with aA:=f.aA++[x] }/\Out (own p a) H H2/\(∀ j∈own p { a with rx:=eF,bG:=a.bG++[r'] },j∈own p a\/H.next<=j)/\(∀ j∈DfK.dR { a with rx:=eF,bG:=a.bG++[r'] },j∈DfK.dR a\/j∈r'.fp)/\bq eF=true:=by
 obtain⟨eF,H1,p1,p2,p3,p4,p5⟩:=h.r.push (fU:=77) (z:=[.ah,(.int .i64 0),.ah,.ah,(.str [])]) (vs:=cw r' x) (acW hR) rfl (by decide) (by rw[aeP];have:=h.len;omega)
 obtain⟨q0,q4,q1,q5,qk,qv⟩:=h.part p3 (i:=5) rfl
 obtain⟨H2,s1,s2,s3,s4⟩:=fR (q0 (by decide)) (by decide) (o:=3) (by simp) (v:=eF) p5
 have hs:gP p { a with rx:=eF,bG:=a.bG++[r'] }=(gP p a).set 5 (ak eF):=rfl
 have se:(gP p { a with rx:=eF,bG:=a.bG++[r'] }).Pairwise Dj:=by rw[hs];exact Ni h.dj (k:=5) rfl h.QE p4
 have sep:∀ {j:Nat} {l:List Nat},0≠j->(gP p { a with rx:=eF,bG:=a.bG++[r'] })[j]? = some l->∀ x∈l,x∉[p]:=fun nD hl=>(CG se nD (i:=0) rfl hl).symm
 have hw:=PD (a:=a) (N:=H.next) hs (k:=5) rfl p4
 have AQ:∀ j∈DfK.dR { a with rx:=eF,bG:=a.bG++[r'] },j∈DfK.dR a\/j∈r'.fp:=by
  intro j hj
  obtain⟨m,hm,jn⟩:=agl.1 hj
  rcases abP.1 hm with q | q
  ·exact .inl (agl.2 ⟨m,q,jn⟩)
  ·rw[aan] at q;rw[q] at jn;exact .inr jn
 have gE:=hR.lt
 have hi:∀ j∈DfK.dR { a with rx:=eF,bG:=a.bG++[r'] },j∉own p { a with rx:=eF,bG:=a.bG++[r'] }/\j<H2.next:=fun j hj=>by
  have jP:=p3.1;have aor:=s3.1
  rcases AQ j hj with q | q
  ·exact⟨fun z=>(hw j z).elim (h.dR j q).1 fun y=>by have:=(h.dR j q).2;omega,by have:=(h.dR j q).2;omega⟩
  ·exact⟨fun z=>(hw j z).elim (hn j q) fun y=>by have:=gE j q;omega,by have:=gE j q;omega⟩
 obtain⟨bs,c,t1,t2⟩:=q1 (by decide)
 have hO:Out (own p a) H H2:=(p3.mono fun j hj=>fJ (k:=5) rfl hj).trans (s3.mono fun j hj=>fJ (k:=0) rfl hj)
 have Ec:List.zipWith cw a.bG f.aA++[cw r' x]=List.zipWith cw (a.bG++[r']) (f.aA++[x]):=by rw[List.zipWith_append h.len];rfl
 rw[Ec] at p2
 refine⟨eF,H1,H2,p1,s1,⟨s2,(q4 (by decide)).out s3 (sep (j:=4) (by decide) rfl),⟨bs,c,t1,t2.out s3 (sep (j:=1) (by decide) rfl _ (.head _))⟩,h.pP,p2.out s3 (sep (j:=5) (by decide) rfl),fun i r y hr hy => ?_,by simp[h.len],(qk (by decide) (by decide) (by decide)).out s3 fun j hj => ?_,se,fun j hj=>(hw j hj).elim (h.lo j) fun q => ?_,hi⟩,hO,hw,AQ,p5⟩
 ·have gU:=hi
  have key:RV H1 r.dx r.xs r.tx r.sx y.1:=by
   simp only at hr hy
   by_cases bE:i<a.bG.length
   ·rw[abN bE] at hr
    rw[abN (by rw[<-h.len];exact bE)] at hy
    exact qv i r y hr hy
   ·rw[abQ (by omega)] at hr
    rw[abQ (by rw[<-h.len];omega),<-h.len] at hy
    have h0:i-a.bG.length=0:=by
     have:=(aaK.1 hr).1
     simp at this;omega
    rw[h0] at hr hy
    cases hr;cases hy
    exact hR.out p3 fun j hj q=>hn j hj (fJ (k:=5) rfl q)
  exact key.out s3 fun j hj q=>(hi j (G7 (a:={ a with rx:=eF,bG:=a.bG++[r'] }) hr j hj)).1 (fJ (k:=0) rfl q)
 ·rcases abn.1 hj with rfl | hj
  ·exact sep (j:=2) (by decide) rfl _ (.head _)
  ·rcases abn.1 hj with rfl | hj
   ·exact sep (j:=3) (by decide) rfl _ (.head _)
   ·exact sep (j:=6) (by decide) rfl _ hj
 ·have:=h.lo p (fJ (k:=0) rfl (.head _));have:=h.c.1;omega
theorem FL.gq {H:Hp} {p:Nat} {a:FA} {f:Fm} (h:FL H p a f) (hn:f.ks.length<128) {k:Ky} (hk:me f.ks k=none) (id:Int) :
  ∃ sQ H',cK (.func (.func 33) [] []) [.ptr a.kp 0,.agg (cI k),.int .i64 id] H=some (.tuple [.int .i64 id,.bool true],H')/\FL H' p { a with kl:=sQ } { f with ks:=f.ks++[(k,id)] }/\FSt H H' p a { a with kl:=sQ }:=by
 obtain⟨sQ,H',k1,k2,k3,k4⟩:=afc h.k hn hk id
 have hS:∀ j∈AB a.kp a.km a.kl,j∈[a.kp]\/j∈[a.km]\/j∈ak a.kl:=fun j hj=>by
  rcases abn.1 hj with rfl | hj
  ·exact .inl (.head _)
  ·rcases abn.1 hj with rfl | hj
   ·exact .inr (.inl (.head _))
   ·exact .inr (.inr hj)
 have sep:∀ {j:Nat} {l:List Nat},j≠2->j≠3->j≠6->(gP p a)[j]? = some l->∀ x∈l,x∉AB a.kp a.km a.kl:=fun h2 h3 h6 hl x hx q=>by
  rcases hS x q with z | z | z
  ·exact CG h.dj h2 hl (j:=2) rfl x hx z
  ·exact CG h.dj h3 hl (j:=3) rfl x hx z
  ·exact CG h.dj h6 hl (j:=6) rfl x hx z
 have Vw:∀ j∈AB a.kp a.km a.kl,j∈own p a:=fun j hj=>by
  rcases hS j hj with z | z | z
  ·exact fJ (k:=2) rfl z
  ·exact fJ (k:=3) rfl z
  ·exact fJ (k:=6) rfl z
 have hs:gP p { a with kl:=sQ }=(gP p a).set 6 (ak sQ):=rfl
 have se:(gP p { a with kl:=sQ }).Pairwise Dj:=by rw[hs];exact Ni h.dj (k:=6) rfl h.QE k4
 have hw:=PD (a:=a) (N:=H.next) hs (k:=6) rfl k4
 have hi:∀ j∈DfK.dR { a with kl:=sQ },j∉own p { a with kl:=sQ }/\j<H'.next:=fun j hj=>⟨fun q=>(hw j q).elim (h.dR j hj).1 fun z=>by have:=(h.dR j hj).2;omega,by have:=(h.dR j hj).2;have:=k3.1;omega⟩
 obtain⟨bs,c,t1,t2⟩:=h.t
 refine⟨sQ,H',k1,⟨h.c.out k3 (sep (j:=0) (by decide) (by decide) (by decide) rfl _ (.head _)),h.n.out k3 (sep (j:=4) (by decide) (by decide) (by decide) rfl),⟨bs,c,t1,t2.out k3 (sep (j:=1) (by decide) (by decide) (by decide) rfl _ (.head _))⟩,h.pP,h.r.out k3 (sep (j:=5) (by decide) (by decide) (by decide) rfl),fun i r x hr hx=>(h.v i r x hr hx).out k3 fun j hj q=>(h.dR j (G7 hr j hj)).1 (Vw j q),h.len,k2,se,fun j hj=>(hw j hj).elim (h.lo j) fun q => ?_,hi⟩,k3.mono Vw,hw,fun j hj => .inl hj⟩
 have:=h.lo p (fJ (k:=0) rfl (.head _));have:=h.c.1;omega
def YC (n:Nat):Bool:=Nat.ble (dec n).length 4&&(dec n).all (fun b=>Nat.ble 48 b&&Nat.ble b 57)&&(match Lib.atoiAll ((dec n).map UInt8.ofNat) with | .ok v=>v==(n:Int) | _=>false)
theorem afL:∀ n:Fin 1001,YC n.val=true:=by decide +kernel
theorem B9 {n:Int} (h0:0<=n) (h1:n<=1000):qf (dec n)=some n.toNat/\(dec n).length<=4/\∀ b∈dec n,48<=b/\b<=57:=by
 obtain⟨m,rfl⟩:∃ m:Nat,n=m:=⟨n.toNat,by omega⟩
 have h:=afL ⟨m,by omega⟩
 unfold YC at h
 simp only[aa9,adH,adn] at h
 obtain⟨⟨l,d⟩,a⟩:=h
 refine⟨?_,l,fun b hb=>d b hb⟩
 unfold qf
 rw[if_pos l]
 have e:u9 (dec (m:Int))=(dec (m:Int)).map UInt8.ofNat:=rfl
 rw[e]
 revert a
 cases Lib.atoiAll ((dec (m:Int)).map UInt8.ofNat) with
 | ok v=>
  intro a
  obtain rfl:v=(m:Int):=by simpa using a
  simp
 | _=>intro a;cases a
theorem agP {s:aq} {n:Nat} (h:qf s=some n):dec (n:Int)=s:=by
 unfold qf at h
 split at h
 ·split at h
  ·split at h
   ·rename_i v _ hv
    cases h
    rw[show ((v.toNat:Nat):Int)=v by omega]
    exact hv.1
   ·cases h
  ·cases h
 ·cases h
theorem Ur {p:Nat->Bool}:∀ {l:aq},l.dropWhile p=[]->∀ b∈l,p b=true
 | [],_,b,hb=>by cases hb
 | a::l,h,b,hb=>by
  rw[List.dropWhile_cons] at h
  split at h
  ·rename_i ha
   rcases abn.1 hb with rfl | hb
   ·exact ha
   ·exact Ur h b hb
  ·cases h
theorem ajm {s c:aq} (h:yh s c=[]):∀ b∈s,b∈c:=by
 rw[ZL] at h
 replace h:=Ur h
 intro b hb
 have sE:b∈s.reverse:=List.mem_reverse.2 hb
 rw[<-List.takeWhile_append_dropWhile (p:=(c.contains ·)) (l:=s.reverse),abP] at sE
 rcases sE with q | q
 ·have:=adn.1 (List.all_takeWhile (p:=(c.contains ·)) (l:=s.reverse)) b q
  simpa using this
 ·have:=h b (List.mem_reverse.2 q)
  simpa using this
theorem Xp {s:aq} (h:vl s=true):s≠[]/\s.length<=16/\∀ b∈s,b∈rq:=by
 unfold vl at h
 simp only[aa9,ain,beq_eq_false_iff_ne,decide_eq_true_eq,beq_iff_eq] at h
 exact⟨h.1,by omega,ajm h.2.2⟩
theorem YH:∀ b∈rq,b≠32/\b≠44/\b≠59/\b≠61/\b<256:=by decide
theorem al2:∀ b:Nat,48<=b->b<=57->b∈rq:=by
 intro b h1 h2
 have:∀ k:Fin 10,48+k.val∈rq:=by decide
 have:=this ⟨b-48,by omega⟩
 simpa[show 48+(b-48)=b by omega] using this
def jt (ts:List Tk) (a:Int):aq:=(names ts).getD a.toNat []
def il (ts:List Tk):Bool->List Int->aq
 | _,[]=>[]
 | f,a::r=>((if f then [32,97,102,116,101,114,61] else [44])++jt ts a)++il ts false r
def je (key:aq) (n p:Int):aq:=if n=p then [] else key++dec n
def eM (ts:List Tk) (t:Tk):aq:=
 ((t.name++il ts true t.after)++((je [32,114,101,116,114,121,61] t.dG 0++je [32,119,97,105,116,61] t.wait 10)++je [32,98,97,115,101,61] t.base 1))++(if t.on=[] then [] else [32,111,110,61]++t.on)
noncomputable def po (ts:List Tk):aq:=if js ts=0 then ju 59 (ts.map (eM ts)) else []
def y8 (k v:aq):aq:=k++61::v
def jJ (c:Prop) [Decidable c] (k v:aq):List aq:=if c then [] else [y8 k v]
def yC (ts:List Tk) (t:Tk):List aq:=t.name::(jJ (t.after=[]) u6 (ju 44 (t.after.map (jt ts)))++(jJ (t.dG=0) xH (dec t.dG)++(jJ (t.wait=10) wH (dec t.wait)++(jJ (t.base=1) uP (dec t.base)++jJ (t.on=[]) sB t.on))))
theorem Kl (c:Nat):∀ (l:List aq) (a:aq),ju c (a::l)=a++l.flatMap (fun s=>c::s)
 | [],a=>by simp[ju]
 | b::l,a=>by
  show a++c::ju c (b::l)=_
  rw[Kl c l b];simp
theorem aaX (c:Nat):∀ (l:List aq),l≠[]->(ju c l).length+1=dB l+l.length
 | [],h=>absurd rfl h
 | [a],_=>by simp[ju,dB]
 | a::b::l,_=>by
  have:=aaX c (b::l) (by simp)
  show (a++c::ju c (b::l)).length+1=_
  simp[dB] at this ⊢
  omega
theorem Me {c b:Nat}:∀ {l:List aq},b∈ju c l->b=c\/∃ s∈l,b∈s
 | [],h=>by cases h
 | [a],h => .inr ⟨a,.head _,h⟩
 | a::d::l,h=>by
  have h:b∈a++c::ju c (d::l):=h
  rw[abP,abn] at h
  rcases h with h | h | h
  ·exact .inr ⟨a,.head _,h⟩
  ·exact .inl h
  ·exact (Me h).imp id fun⟨s,hs,hb⟩=>⟨s,.tail _ hs,hb⟩
theorem Mn (ts:List Tk):∀ l,il ts false l=(l.map (jt ts)).flatMap (fun s=>44::s)
 | []=>rfl
 | a::r=>by simp[il,Mn ts r]
theorem Sk (ts:List Tk) (a:Int) (r:List Int):il ts true (a::r)=32::(u6++61::ju 44 ((a::r).map (jt ts))):=by
 rw[acJ,Kl,<-Mn]
 simp[il]
theorem U4 (ts:List Tk) (t:Tk):eM ts t=ju 32 (yC ts t):=by
 have h1:il ts true t.after=(jJ (t.after=[]) u6 (ju 44 (t.after.map (jt ts)))).flatMap (fun s=>32::s):=by
  unfold jJ y8
  cases h:t.after with
  | nil=>rfl
  | cons a r=>rw[Sk];simp
 have h2:∀ (k v:aq) (n p:Int),v=dec n->je (32::(k++[61])) n p=(jJ (n=p) k v).flatMap (fun s=>32::s):=by
  intro k v n p hv
  subst hv
  unfold je jJ y8
  split<;>simp
 have h3:(if t.on=[] then [] else [32,111,110,61]++t.on)=(jJ (t.on=[]) sB t.on).flatMap (fun s=>32::s):=by
  unfold jJ y8
  split<;>simp
 have a:=h2 xH _ t.dG 0 rfl
 have b:=h2 wH _ t.wait 10 rfl
 have c:=h2 uP _ t.base 1 rfl
 unfold eM yC
 rw[Kl,List.flatMap_append,List.flatMap_append,List.flatMap_append,List.flatMap_append,<-h1,<-h3,<-a,<-b,<-c]
 simp only[aea,List.cons_append,ahr]
theorem ae2 {c:Nat} {a:aq} (r:aq) (h:c∉a):cut c (a++c::r)=(a,r,true):=by
 unfold cut
 rw[YA r 0 h,adt]
 simp only
 rw[List.take_left',List.drop_append]
 ·simp
 ·rfl
theorem ajq:∀ j i:Fin 5,i.val<=j.val->∃ k,kb[j.val]? = some k/\61∉k/\(kb.drop i.val).findIdx? (fun a=>k==a)=some (j.val-i.val):=by
 intro j i h
 have:∀ j i:Fin 5,i.val<=j.val->61∉kb[j.val]! /\ (kb.drop i.val).findIdx? (fun a=>kb[j.val]! == a)=some (j.val-i.val):=by decide
 refine⟨kb[j.val]!,?_,this j i h⟩
 have h5:∀ j:Fin 5,kb[j.val]? = some kb[j.val]! := by decide
 exact h5 j
theorem adr {dO r:List aq} {t:Tk} {i j:Nat} {k v:aq} (hk:kb[j]? = some k) (hi:i<=j):mi dO (y8 k v::r) t (kb.drop i)=match jf t k v dO with | none=>none | some t'=>mi dO r t' (kb.drop (j+1)):=by
 have hj:j<5:=(aaK.1 hk).1
 obtain⟨k',h1,h2,h3⟩:=ajq ⟨j,hj⟩ ⟨i,by omega⟩ hi
 rw[hk] at h1
 cases h1
 have hc:=ae2 v h2
 rw[mi]
 unfold y8
 rw[hc]
 simp only
 simp only at h3
 rw[h3]
 simp only
 rw[if_neg (by simp),List.drop_drop]
 rw[show i+(j-i+1)=j+1 by omega]
 try (cases jf t k v dO<;>rfl)
theorem Fi {dO r:List aq} {t t':Tk} {i j:Nat} {k v:aq} {c:Prop} [Decidable c] (hk:kb[j]? = some k) (hi:i<=j) (h1:c->t'=t) (h2:¬ c->jf t k v dO=some t') :
  ∃ i',i'<=j+1/\mi dO (jJ c k v++r) t (kb.drop i)=mi dO r t' (kb.drop i'):=by
 by_cases hc:c
 ·refine⟨i,by omega,?_⟩
  rw[h1 hc];unfold jJ;rw[if_pos hc];rfl
 ·refine⟨j+1,abe _,?_⟩
  unfold jJ;rw[if_neg hc]
  show mi dO (y8 k v::r) t _=_
  rw[adr hk hi,h2 hc]
theorem SV:∀ {l:List aq} {i:Nat} {s:aq},l.Nodup->l[i]? = some s->l.findIdx? (fun a=>s==a)=some i
 | [],i,s,_,h=>by simp at h
 | a::l,0,s,hn,h=>by
  simp only[acP,acu] at h
  subst h
  simp[agz]
 | a::l,i+1,s,hn,h=>by
  simp only[acM] at h
  rw[agQ] at hn
  have aH:(s==a)=false:=by
   rw[beq_eq_false_iff_ne];intro e;subst e
   exact hn.1 (aa2 h)
  rw[agz,aH,SV hn.2 h];rfl
theorem FH {ts:List Tk} {a:Int} (h0:0<=a) (h1:a<=(ts.length:Int)-1):(names ts)[a.toNat]? = some (jt ts a)/\jt ts a∈names ts:=by
 have hl:a.toNat<(names ts).length:=by unfold names;rw[ac7];omega
 have:(names ts)[a.toNat]? = some (jt ts a):=by
  unfold jt
  rw[afz,aaM hl];rfl
 exact⟨this,aa2 this⟩
theorem VX {ts:List Tk} (hn:(names ts).Nodup):∀ {l:List Int},(∀ a∈l,0<=a/\a<=(ts.length:Int)-1)->sH (names ts) (l.map (jt ts))=some l
 | [],_=>rfl
 | a::l,h=>by
  obtain⟨a0,a1⟩:=h a (.head _)
  show sH (names ts) (jt ts a::l.map (jt ts))=_
  rw[sH,SV hn (FH a0 a1).1]
  simp only
  rw[VX hn fun b hb=>h b (.tail _ hb)]
  show some ((a.toNat:Int)::l)=_
  rw[show ((a.toNat:Nat):Int)=a by omega]
structure Fit (ts:List Tk):Prop where
 nd:(names ts).Nodup
 nm:∀ s∈names ts,s≠[]/\s.length<=16/\∀ b∈s,b∈rq
 jm:∀ t∈ts,(∀ a∈t.after,0<=a/\a<=(ts.length:Int)-1)/\t.after.length<=16
 num:∀ t∈ts,0<=t.dG/\t.dG<=8/\1<=t.wait/\t.wait<=1000/\1<=t.base/\t.base<=1000
 on:∀ t∈ts,t.on=[]\/(t.on.length<=16/\∀ b∈t.on,b∈rq)
theorem Fit.anD {ts:List Tk} (h:Fit ts) {s:aq} (hs:s∈names ts):44∉s:=fun q=>(YH 44 ((h.nm s hs).2.2 44 q)).2.1 rfl
theorem amE {ts:List Tk} (hF:Fit ts) {t:Tk} (ht:t∈ts):uQ (names ts) (yC ts t)=some t:=by
 obtain⟨n1,n2,n3,n4,n5,n6⟩:=hF.num t ht
 obtain⟨a1,a2⟩:=hF.jm t ht
 have hm:∀ s∈t.after.map (jt ts),s∈names ts:=fun s hs=>by
  obtain⟨a,ha,rfl⟩:=acI.1 hs
  exact (FH (a1 a ha).1 (a1 a ha).2).2
 unfold uQ yC
 show mi (names ts) _ ⟨t.name,[],0,10,1,[]⟩ (kb.drop 0)=_
 obtain⟨i1,l1,e1⟩:=Fi (dO:=names ts) (r:=jJ (t.dG=0) xH (dec t.dG)++(jJ (t.wait=10) wH (dec t.wait)++(jJ (t.base=1) uP (dec t.base)++jJ (t.on=[]) sB t.on))) (t:=⟨t.name,[],0,10,1,[]⟩) (t':=⟨t.name,t.after,0,10,1,[]⟩) (i:=0) (j:=0) (k:=u6) (v:=ju 44 (t.after.map (jt ts))) (c:=t.after=[]) rfl (abe _) (fun h=>by rw[h]) fun h=>by
  unfold jf
  rw[if_pos rfl,Kh (by simpa using h) fun s hs=>hF.anD (hm s hs),VX hF.nd a1];rfl
 obtain⟨i2,l2,e2⟩:=Fi (dO:=names ts) (r:=jJ (t.wait=10) wH (dec t.wait)++(jJ (t.base=1) uP (dec t.base)++jJ (t.on=[]) sB t.on)) (t:=⟨t.name,t.after,0,10,1,[]⟩) (t':=⟨t.name,t.after,t.dG,10,1,[]⟩) (i:=i1) (j:=1) (k:=xH) (v:=dec t.dG) (c:=t.dG=0) rfl l1 (fun h=>by rw[h]) fun h=>by
  unfold jf
  rw[if_neg (by decide),if_pos rfl,(B9 n1 (by omega)).1]
  have e:((t.dG.toNat:Nat):Int)=t.dG:=by omega
  simp only[ady,e]
 obtain⟨i3,l3,e3⟩:=Fi (dO:=names ts) (r:=jJ (t.base=1) uP (dec t.base)++jJ (t.on=[]) sB t.on) (t:=⟨t.name,t.after,t.dG,10,1,[]⟩) (t':=⟨t.name,t.after,t.dG,t.wait,1,[]⟩) (i:=i2) (j:=2) (k:=wH) (v:=dec t.wait) (c:=t.wait=10) rfl l2 (fun h=>by rw[h]) fun h=>by
  unfold jf
  rw[if_neg (by decide),if_neg (by decide),if_pos rfl,(B9 (by omega) n4).1]
  have e:((t.wait.toNat:Nat):Int)=t.wait:=by omega
  simp only[ady,e]
 obtain⟨i4,l4,e4⟩:=Fi (dO:=names ts) (r:=jJ (t.on=[]) sB t.on) (t:=⟨t.name,t.after,t.dG,t.wait,1,[]⟩) (t':=⟨t.name,t.after,t.dG,t.wait,t.base,[]⟩) (i:=i3) (j:=3) (k:=uP) (v:=dec t.base) (c:=t.base=1) rfl l3 (fun h=>by rw[h]) fun h=>by
  unfold jf
  rw[if_neg (by decide),if_neg (by decide),if_neg (by decide),if_pos rfl,(B9 (by omega) n6).1]
  have e:((t.base.toNat:Nat):Int)=t.base:=by omega
  simp only[ady,e]
 obtain⟨i5,l5,e5⟩:=Fi (dO:=names ts) (r:=[]) (t:=⟨t.name,t.after,t.dG,t.wait,t.base,[]⟩) (t':=t) (i:=i4) (j:=4) (k:=sB) (v:=t.on) (c:=t.on=[]) rfl l4 (fun h=>by rw[<-h]) fun h=>by
  unfold jf
  rw[if_neg (by decide),if_neg (by decide),if_neg (by decide),if_neg (by decide),if_pos rfl,if_neg h]
 rw[agh] at e5
 rw[List.tail_cons,e1,e2,e3,e4,e5,mi]
theorem X4 {ts:List Tk} (hF:Fit ts) {t:Tk} (ht:t∈ts):∀ s∈yC ts t,∀ b∈s,b∈rq\/b=44\/b=61:=by
 obtain⟨n1,n2,n3,n4,n5,n6⟩:=hF.num t ht
 obtain⟨a1,a2⟩:=hF.jm t ht
 have ba:∀ (c:Prop) [Decidable c] (k v:aq),(∀ b∈k,b∈rq)->(¬ c->∀ b∈v,b∈rq\/b=44)->∀ s∈jJ c k v,∀ b∈s,b∈rq\/b=44\/b=61:=by
  intro c _ k v hk hv s hs b hb
  unfold jJ at hs
  split at hs
  ·cases hs
  ·rename_i hc
   rw[aan] at hs
   subst hs
   unfold y8 at hb
   rw[abP,abn] at hb
   rcases hb with hb | hb | hb
   ·exact .inl (hk b hb)
   ·exact .inr (.inr hb)
   ·exact (hv hc b hb).imp id .inl
 have QH:∀ n:Int,0<=n->n<=1000->∀ b∈dec n,b∈rq\/b=44:=fun n h0 h1 b hb=>by
  obtain⟨x,y⟩:=(B9 h0 h1).2.2 b hb
  exact .inl (al2 b x y)
 intro s hs
 unfold yC at hs
 simp only[abn,abP] at hs
 rcases hs with rfl | hs | hs | hs | hs | hs
 ·intro b hb
  exact .inl ((hF.nm _ (acI.2 ⟨t,ht,rfl⟩)).2.2 b hb)
 ·refine ba _ _ _ (by decide) (fun _ b hb => ?_) s hs
  rcases Me hb with rfl | ⟨u,hu,hb⟩
  ·exact .inr rfl
  ·obtain⟨a,ha,rfl⟩:=acI.1 hu
   exact .inl ((hF.nm _ (FH (a1 a ha).1 (a1 a ha).2).2).2.2 b hb)
 ·exact ba _ _ _ (by decide) (fun _=>QH _ n1 (by omega)) s hs
 ·exact ba _ _ _ (by decide) (fun _=>QH _ (by omega) n4) s hs
 ·exact ba _ _ _ (by decide) (fun _=>QH _ (by omega) n6) s hs
 ·refine ba _ _ _ (by decide) (fun hc b hb => ?_) s hs
  rcases hF.on t ht with q | q
  ·exact absurd q hc
  ·exact .inl (q.2 b hb)
theorem okB {b:Nat} (h:b∈rq\/b=44\/b=61):b≠32/\b≠59/\b<256:=by
 rcases h with h | rfl | rfl
 ·have:=YH b h;omega
 ·decide
 ·decide
theorem aaa {ts:List Tk} (hF:Fit ts) {t:Tk} (ht:t∈ts):∀ b∈eM ts t,b≠59/\b<256:=by
 intro b hb
 rw[U4] at hb
 rcases Me hb with rfl | ⟨s,hs,hb⟩
 ·decide
 ·have:=okB (X4 hF ht s hs b hb);omega
theorem Uo {ts:List Tk} (hF:Fit ts) {t:Tk} (ht:t∈ts):ka (eM ts t)=yC ts t:=by
 unfold ka
 rw[U4]
 exact Kh (by unfold yC;simp) fun s hs q=>(okB (X4 hF ht s hs 32 q)).1 rfl
theorem aaD {ts:List Tk} (hF:Fit ts):∀ {us:List Tk},(∀ t∈us,t∈ts)->ns (names ts) (us.map (eM ts))=some us
 | [],_=>rfl
 | u::us,h=>by
  show ns (names ts) (eM ts u::us.map (eM ts))=_
  rw[ns,Uo hF (h u (.head _)),amE hF (h u (.head _)),aaD hF fun t ht=>h t (.tail _ ht)];rfl
theorem ad3 {ts:List Tk} (h:(List.range ts.length).any (dup ts)=false):(names ts).Nodup:=by
 rw[ahh] at h
 have key:∀ k,k<=ts.length->(names (ts.take k)).Nodup:=by
  intro k
  induction k with
  | zero=>intro _;rw[agv];exact aiu
  | succ k ih=>
   intro hk
   have hg:ts[k]? = some (ts[k]'(by omega)):=aaM (by omega)
   have h1:=h k (ais.2 (by omega))
   unfold dup at h1
   rw[hg] at h1
   rw[agf,hg]
   have h2:((names (ts.take k)).any fun s=>s==(ts[k]'(by omega)).name)=false:=by
    simp only at h1
    rwa[afq] at h1
   rw[ahh] at h2
   unfold names at ih h2 ⊢
   rw[adu,aem]
   refine⟨ih (by omega),by simp,fun a ha b hb e => ?_⟩
   simp only[Option.toList_some,acJ,List.map_nil,aan] at hb
   subst hb
   exact h2 a ha (by simp[e])
 have:=key ts.length (abe _)
 rwa[List.take_length] at this
theorem acS {ts:List Tk} (h:js ts=0) (dq:∀ t∈ts,t.after.length<=16):Fit ts/\1<=ts.length/\ts.length<=16:=by
 unfold js at h
 split at h
 ·cases h
 ·rename_i h1
  split at h
  ·cases h
  ·rename_i h2
   split at h
   ·cases h
   ·rename_i h6
    split at h
    ·cases h
    ·rename_i h3
     split at h
     ·cases h
     ·rename_i h4
      have h1:=agt.1 h1
      have ha:=K2 (by simpa using h4)
      rw[afq,ahh] at h2 h3
      have hq:∀ t∈ts,vz t=false/\tH t=false/\∀ a∈t.after,0<=a/\a<=(ts.length:Int)-1:=fun t ht=>by
       obtain⟨i,hi⟩:=ac1 ht
       have bE:=(aaK.1 hi).1
       have a:=h2 i (ais.2 bE)
       have b:=h3 i (ais.2 bE)
       unfold p1 at a
       unfold p3 at b
       rw[hi] at a b
       exact⟨by simpa using a,by simpa using b,fun a ha'=>⟨((yA ha hi).1 a ha').1,((yA ha hi).1 a ha').2.1⟩⟩
      refine⟨⟨ad3 (by simpa using h6),fun s hs => ?_,fun t ht=>⟨(hq t ht).2.2,dq t ht⟩,fun t ht => ?_,fun t ht => ?_⟩,h1⟩
      ·obtain⟨t,ht,rfl⟩:=acI.1 hs
       have:=(hq t ht).1
       unfold vz at this
       rw[ah1] at this
       exact Xp (by simpa using this.1)
      ·have:=(hq t ht).2.1
       unfold tH at this
       simp only[ah1,Bool.not_eq_false',aa9,decide_eq_true_eq] at this
       omega
      ·have:=(hq t ht).1
       unfold vz at this
       rw[ah1,Bool.and_eq_false_iff] at this
       rcases this.2 with q | q
       ·exact .inl (by simpa using q)
       ·exact .inr (Xp (by simpa using q)).2
theorem Tx {ts:List Tk}:∀ {r:List aq} {l:List Int},sH (names ts) r=some l->l.map (jt ts)=r
 | [],l,h=>by cases h;rfl
 | s::r,l,h=>by
  unfold sH at h
  split at h
  ·rename_i i hi
   rw[aaF] at h
   obtain⟨l',h1,rfl⟩:=h
   rw[acJ,Tx h1]
   have hs:jt ts (i:Int)=s:=by
    rw[List.findIdx?_eq_some_iff_getElem] at hi
    obtain⟨h2,h3,_⟩:=hi
    have h4:(names ts)[i]=s:=by simpa using (beq_iff_eq.1 h3).symm
    unfold jt
    rw[ab9,afz,aaM h2,h4];rfl
   rw[hs]
  ·cases h
theorem afi (ts:List Tk):∀ (l:List Int),l≠[]->(il ts true l).length=7+(ju 44 (l.map (jt ts))).length/\(il ts false l).length=1+(ju 44 (l.map (jt ts))).length
 | [],h=>absurd rfl h
 | a::r,_=>by
  constructor
  ·rw[Sk];simp;omega
  ·rw[Mn,acJ,Kl,List.flatMap_cons];simp;omega
theorem RP (ts:List Tk):∀ (l m:List Int) (f:Bool),(il ts f (l++m)).length=(il ts f l).length+(il ts (f&&l.isEmpty) m).length
 | [],m,f=>by simp[il]
 | a::l,m,f=>by
  have:=RP ts l m false
  simp[il] at this ⊢
  omega
theorem anw {ts:List Tk} {t t':Tk} {k v:aq} (h:jf t k v (names ts)=some t'):(eM ts t').length<=(eM ts t).length+k.length+v.length+2/\t'.name=t.name:=by
 have told:∀ (key:aq) (n p q:Int),(je key n p).length<=(je key q p).length+key.length+(dec n).length:=by
  intro key n p q
  unfold je
  split<;>split<;>simp<;>omega
 have uC:∀ {n:Nat},qf v=some n->(dec (n:Int)).length=v.length:=fun h=>by rw[agP h]
 unfold jf at h
 split at h
 ·rename_i hk
  subst hk
  rw[aaF] at h
  obtain⟨l,h1,rfl⟩:=h
  have h2:=Tx h1
  have hl:l≠[]:=by
   intro e;subst e
   exact wO 44 v h2.symm
  have h3:=afi ts l hl
  rw[h2,Wf] at h3
  have h4:=RP ts t.after l true
  refine⟨?_,rfl⟩
  unfold eM
  simp only[aby] at h4 ⊢
  have h5:(il ts (true&&t.after.isEmpty) l).length<=7+v.length:=by
   cases (true&&t.after.isEmpty)
   ·rw[h3.2];omega
   ·rw[h3.1];omega
  show _<=_+5+_+2
  omega
 ·split at h
  ·rename_i _ hk
   subst hk
   rw[aaF] at h
   obtain⟨n,h1,rfl⟩:=h
   refine⟨?_,rfl⟩
   have a:=told [32,114,101,116,114,121,61] (n:Int) 0 t.dG
   have b:=uC h1
   unfold eM
   simp only[aby,abx,acm] at a ⊢
   omega
  ·split at h
   ·rename_i _ _ hk
    subst hk
    rw[aaF] at h
    obtain⟨n,h1,rfl⟩:=h
    refine⟨?_,rfl⟩
    have a:=told [32,119,97,105,116,61] (n:Int) 10 t.wait
    have b:=uC h1
    unfold eM
    simp only[aby,abx,acm] at a ⊢
    omega
   ·split at h
    ·rename_i _ _ _ hk
     subst hk
     rw[aaF] at h
     obtain⟨n,h1,rfl⟩:=h
     refine⟨?_,rfl⟩
     have a:=told [32,98,97,115,101,61] (n:Int) 1 t.base
     have b:=uC h1
     unfold eM
     simp only[aby,abx,acm] at a ⊢
     omega
    ·split at h
     ·rename_i _ _ _ _ hk
      subst hk
      split at h
      ·cases h
      ·rename_i hv
       cases h
       refine⟨?_,rfl⟩
       unfold eM
       simp only[if_neg hv,aby,abx,acm]
       omega
     ·rw[aaF] at h
      obtain⟨n,h1,rfl⟩:=h
      exact⟨by omega,rfl⟩
theorem ade {c:Nat} {s:aq} (h:(cut c s).1.length≠s.length):s.length=(cut c s).1.length+1+(cut c s).2.1.length:=by
 unfold cut at h ⊢
 cases hi:jC c s 0 with
 | none=>rw[hi] at h;exact absurd rfl h
 | some i=>
  obtain⟨a,r,rfl,h2,h3⟩:=Ez hi
  rw[adt] at h2
  subst h2
  simp
  omega
theorem WW {ts:List Tk}:∀ {r:List aq} {t t':Tk} {ks:List aq},mi (names ts) r t ks=some t'->(eM ts t').length<=(eM ts t).length+dB r+r.length/\t'.name=t.name
 | [],t,t',ks,h=>by cases h;exact⟨by simp,rfl⟩
 | s::r,t,t',ks,h=>by
  unfold mi at h
  split at h
  ·cases h
  ·split at h
   ·cases h
   ·rename_i aH
    split at h
    ·cases h
    ·rename_i t1 h1
     obtain⟨a1,a2⟩:=anw h1
     obtain⟨b1,b2⟩:=WW h
     have:=ade aH
     have hs:dB (s::r)=s.length+dB r:=by simp[dB]
     refine⟨?_,b2.trans a2⟩
     rw[hs];simp only[abx];omega
theorem aiz {ts:List Tk} {p:aq} {t:Tk} (h:uQ (names ts) (ka p)=some t):(eM ts t).length<=p.length:=by
 unfold uQ at h
 obtain⟨h1,h2⟩:=WW h
 have h3:dB (ka p)+(ka p).length=p.length+1:=BR 32 p
 have aH:ka p≠[]:=wO 32 p
 cases hw:ka p with
 | nil=>exact absurd hw aH
 | cons a b=>
  rw[hw] at h1 h3
  have e:eM ts ⟨(a::b).headD [],[],0,10,1,[]⟩=a:=by simp[eM,il,je]
  rw[e] at h1
  have hs:dB (a::b)=a.length+dB b:=by simp[dB]
  rw[hs] at h3
  simp only[List.tail_cons,abx] at h1 h3
  omega
theorem U7 {dO:List aq}:∀ {r:List aq} {t t':Tk} {ks:List aq},mi dO r t ks=some t'->t'.name=t.name
 | [],t,t',ks,h=>by cases h;rfl
 | s::r,t,t',ks,h=>by
  unfold mi at h
  split at h
  ·cases h
  ·split at h
   ·cases h
   ·split at h
    ·cases h
    ·rename_i t1 h1
     rw[U7 h]
     unfold jf at h1
     split at h1
     ·rw[aaF] at h1;obtain⟨m,_,rfl⟩:=h1;rfl
     ·split at h1
      ·rw[aaF] at h1;obtain⟨m,_,rfl⟩:=h1;rfl
      ·split at h1
       ·rw[aaF] at h1;obtain⟨m,_,rfl⟩:=h1;rfl
       ·split at h1
        ·rw[aaF] at h1;obtain⟨m,_,rfl⟩:=h1;rfl
        ·split at h1
         ·split at h1
          ·cases h1
          ·cases h1;rfl
         ·rw[aaF] at h1;obtain⟨m,_,rfl⟩:=h1;rfl
theorem aa3 {dO:List aq}:∀ {r:List aq} {ts:List Tk},ns dO r=some ts->names ts=r.map om
 | [],ts,h=>by cases h;rfl
 | s::r,ts,h=>by
  unfold ns at h
  split at h
  ·cases h
  ·rename_i t ht
   rw[aaF] at h
   obtain⟨l,h1,rfl⟩:=h
   have h2:=aa3 h1
   unfold uQ at ht
   have h3:=U7 ht
   unfold names at h2 ⊢
   rw[acJ,acJ,h2,h3]
theorem TA {ts:List Tk}:∀ {r:List aq} {us:List Tk},ns (names ts) r=some us->dB (us.map (eM ts))<=dB r/\us.length=r.length
 | [],us,h=>by cases h;exact⟨abe _,rfl⟩
 | s::r,us,h=>by
  unfold ns at h
  split at h
  ·cases h
  ·rename_i t ht
   rw[aaF] at h
   obtain⟨l,h1,rfl⟩:=h
   obtain⟨a,b⟩:=TA h1
   have c:=aiz ht
   simp only[dB,acJ,List.sum_cons,abx] at a b c ⊢
   omega
theorem Sy {ts:List Tk} (hn:ts.length<=16) (ha:um ts):∀ t∈ts,t.after.length<=16:=fun t ht=>by
 obtain⟨i,hi⟩:=ac1 ht
 obtain⟨x1,x2⟩:=yA ha hi
 have:=Ki (n:=ts.length) (fun a h=>⟨(x1 a h).1,(x1 a h).2.1⟩) x2
 omega
theorem SD {text:aq} (h:(aS text).2=0):js (aS text).1=0/\Fit (aS text).1/\1<=(aS text).1.length/\(aS text).1.length<=16/\(po (aS text).1).length<=text.length/\text.length<=1024/\aS (po (aS text).1)=((aS text).1,0):=by
 obtain⟨g1,g2,g3,g4,g5,g6⟩:=Mg h
 have dq:=Sy g3 g4
 obtain⟨hF,f1,f2⟩:=acS g1 dq
 have hb:¬ 1024<text.length:=fun hb=>by unfold aS at h;rw[if_pos hb] at h;cases h
 have ry:ns ((cW 59 text).map om) (cW 59 text)=some (aS text).1:=by
  unfold aS at h ⊢
  rw[if_neg hb] at h ⊢
  cases hq:ns ((cW 59 text).map om) (cW 59 text) with
  | none=>rw[hq] at h;cases h
  | some ts=>
   rw[hq] at h
   simp only at h ⊢
   by_cases h0:js ts=0
   ·rw[if_pos h0]
   ·rw[if_neg h0] at h;exact absurd h h0
 generalize (aS text).1=ts at *
 have OF:=aa3 ry
 rw[<-OF] at ry
 obtain⟨s1,s2⟩:=TA ry
 have ml:=BR 59 text
 have aH:ts.map (eM ts)≠[]:=by
  intro e
  have:(ts.map (eM ts)).length=0:=by rw[e];rfl
  rw[ac7] at this;omega
 have qj:=aaX 59 _ aH
 rw[ac7] at qj
 have vd:po ts=ju 59 (ts.map (eM ts)):=by unfold po;rw[if_pos g1]
 have hlen:(po ts).length<=text.length:=by rw[vd];omega
 refine⟨g1,hF,f1,f2,hlen,by omega,?_⟩
 have aj1:cW 59 (po ts)=ts.map (eM ts):=by
  rw[vd]
  refine Kh aH fun p hp q => ?_
  obtain⟨t,ht,rfl⟩:=acI.1 hp
  exact (aaa hF ht 59 q).1 rfl
 have ah0:(ts.map (eM ts)).map om=names ts:=by
  rw[aiB]
  unfold names
  refine List.map_congr_left fun t ht => ?_
  show om (eM ts t)=t.name
  unfold om
  rw[Uo hF ht];rfl
 unfold aS
 rw[if_neg (by omega),aj1,ah0,aaD hF fun t ht=>ht]
 simp only
 rw[if_pos g1]
theorem XV (k:IntKind) (a:Int):same (.int k a) (.int k a)=true:=by cases k<;>simp[same,p9]
theorem Ny {key:aq} {n p:Int} (hk:key.length<=100) (h0:0<=n) (h1:n<=1000) {H:Hp} (hg:Gl H):∃ H',cK (.func (.func 92) [] []) [.str key,.int .i64 n,.int .i64 p] H=some (.str (je key n p),H')/\Out [] H H':=by
 by_cases he:n=p
 ·have d:(n==p)=true:=beq_iff_eq.2 he
  refine⟨H,Wp ?_,Out.refl _ _⟩
  unfold NS je
  simp only[d,if_pos he,aj,ai,Int.reduceBEq,Int.reduceBNe,Int.reduceLT,Int.reduceLE,Int.reduceGT,Int.reduceGE,Int.reduceNeg]
 ·have d:(n==p)=false:=beq_eq_false_iff_ne.2 he
  obtain⟨H',i1,i2⟩:=Yp (n:=n) (by omega) (by omega) hg
  have hl:=(B9 h0 h1).2.1
  have hs:=ve (a:=key) (b:=dec n) (by omega)
  refine⟨H',Wp ?_,i2⟩
  unfold NS je
  simp only[d,if_neg he,i1,hs,aj,ai,Int.reduceBEq,Int.reduceBNe,Int.reduceLT,Int.reduceLE,Int.reduceGT,Int.reduceGE,Int.reduceNeg]
theorem Dm {key:aq} {n p:Int} (h0:0<=n) (h1:n<=1000):(je key n p).length<=key.length+4:=by
 unfold je
 split
 ·simp
 ·have:=(B9 h0 h1).2.1
  rw[aby];omega
theorem YS {ts:List Tk} (hF:Fit ts) {a:Int} (h0:0<=a) (h1:a<=(ts.length:Int)-1):(jt ts a).length<=16:=(hF.nm _ (FH h0 h1).2).2.1
theorem NL {ts:List Tk} {dx:AV} {xs:List AV} {D:Nat} {l:List Int} {lx bQ bV dm dd dh:AV} {H:Hp} (hF:Fit ts) (hl:l.length<=16) (ha:∀ a∈l,0<=a/\a<=(ts.length:Int)-1) (eW:Rw H 1 lx (ints l)) (hD:cellAt H D 0=some dx) (hR:RD H dx xs ts) (aX:K.Fn 1) (aG:K.Fn 5) (gw:K.Fn 7) :
  ∀ (r:List Int) (k:Nat) (s:aq),k<=l.length->l.drop k=r->s.length<=100+100*k->
  HO JN GO cK aX aG gw (.ptr D 0) dh bQ (.str s) bV dm dd lx (.int .i64 (l.length:Nat)) (.int .i64 (k:Nat)) H=gw (.ptr D 0) dh bQ (.str (s++il ts (k==0) r)) bV dm dd H
 | [],k,s,hk,h,hs=>by
  obtain rfl:=drop_nil hk h
  rw[NX]
  simp only[Ix,fw,il,agh,aj,ai,Int.reduceBEq,Int.reduceBNe,Int.reduceLT,Int.reduceLE,Int.reduceGT,Int.reduceGE,Int.reduceNeg]
 | a::r,k,s,hk,h,hs=>by
  obtain⟨h1,h2,h3⟩:=fC h
  obtain⟨q,q1,q2⟩:=eW.jy (yE h2) .i64
  have es:=fF h1 (by omega)
  obtain⟨a0,a1⟩:=ha a (aa2 h2)
  have iv:=YS hF a0 a1
  obtain⟨m,rfl⟩:∃ m:Nat,a=m:=⟨a.toNat,by omega⟩
  have hm:ts[m]? = some (ts[m]'(by omega)):=aaM (by omega)
  obtain⟨x,b,o,g0,g1,g2,g3,g4,g5,g6⟩:=hR.at hm
  have OF:(ts[m]'(by omega)).name=jt ts (m:Int):=by
   have:=(FH a0 a1).1
   unfold names at this
   rw[ab9,ada,hm] at this
   simpa using this
  rw[OF] at g6
  cases k with
  | zero=>
   have s1:=ve (a:=s) (b:=[32,97,102,116,101,114,61]) (by simp;omega)
   have s2:=ve (a:=s++[32,97,102,116,101,114,61]) (b:=jt ts (m:Int)) (by simp;omega)
   have ih:=NL (dh:=dh) (bQ:=bQ) (bV:=bV) (dm:=dm) (dd:=dd) hF hl ha eW hD hR aX aG gw r 1 (s++[32,97,102,116,101,114,61]++jt ts (m:Int)) (by omega) h3 (by simp;omega)
   have e:s++il ts ((0:Nat)==0) ((m:Int)::r)=s++[32,97,102,116,101,114,61]++jt ts (m:Int)++il ts ((1:Nat)==0) r:=by simp[il]
   have d0:(((0:Nat):Int)==0)=true:=rfl
   rw[e,NX]
   simp(disch:=(first|assumption|omega|(simp only[ag,af,Nat.reduceAdd,Nat.reduceLeDiff,Nat.reduceLT]<;>fail)|(simp only[af];omega)|(simp only[ag,af,Nat.reduceAdd,Nat.reduceLeDiff,Nat.reduceLT, *]<;>fail)|fail))only[Ix,bN h1,q1,q2,d0,s1,hD,g3,g6,s2,es,ih,au,ar,Nat.reduceAdd,aj,ai,Int.reduceBEq,Int.reduceBNe,Int.reduceLT,Int.reduceLE,Int.reduceGT,Int.reduceGE,Int.reduceNeg]
  | succ k=>
   have s1:=ve (a:=s) (b:=[44]) (by simp;omega)
   have s2:=ve (a:=s++[44]) (b:=jt ts (m:Int)) (by simp;omega)
   have ih:=NL (dh:=dh) (bQ:=bQ) (bV:=bV) (dm:=dm) (dd:=dd) hF hl ha eW hD hR aX aG gw r (k+1+1) (s++[44]++jt ts (m:Int)) (by omega) h3 (by simp;omega)
   have e:s++il ts ((k+1)==0) ((m:Int)::r)=s++[44]++jt ts (m:Int)++il ts ((k+1+1)==0) r:=by simp[il]
   have d0:(((k+1:Nat):Int)==0)=false:=beq_false_of_ne (by omega)
   rw[e,NX]
   simp(disch:=(first|assumption|omega|(simp only[ag,af,Nat.reduceAdd,Nat.reduceLeDiff,Nat.reduceLT]<;>fail)|(simp only[af];omega)|(simp only[ag,af,Nat.reduceAdd,Nat.reduceLeDiff,Nat.reduceLT, *]<;>fail)|fail))only[Ix,bN h1,q1,q2,d0,s1,hD,g3,g6,s2,es,ih,au,ar,Nat.reduceAdd,aj,ai,Int.reduceBEq,Int.reduceBNe,Int.reduceLT,Int.reduceLE,Int.reduceGT,Int.reduceGE,Int.reduceNeg]
theorem W2 {ts:List Tk} (hF:Fit ts):∀ {l:List Int} (f:Bool),(∀ a∈l,0<=a/\a<=(ts.length:Int)-1)->(il ts f l).length<=23*l.length
 | [],f,_=>by simp[il]
 | a::r,f,h=>by
  obtain⟨h0,h1⟩:=h a (.head _)
  have:=YS hF h0 h1
  have ih:=W2 hF (l:=r) false fun b hb=>h b (.tail _ hb)
  cases f<;>simp[il]<;>omega
theorem QN {ts:List Tk} (hF:Fit ts) {t:Tk} (ht:t∈ts):(t.name++il ts true t.after).length<=400/\(eM ts t).length<=600:=by
 obtain⟨n1,n2,n3,n4,n5,n6⟩:=hF.num t ht
 obtain⟨a1,a2⟩:=hF.jm t ht
 have b1:=(hF.nm _ (acI.2 ⟨t,ht,rfl⟩)).2.1
 have b2:=W2 hF true a1
 have c1:=Dm (key:=[32,114,101,116,114,121,61]) (p:=0) n1 (by omega)
 have c2:=Dm (key:=[32,119,97,105,116,61]) (p:=10) (show 0<=t.wait by omega) n4
 have c3:=Dm (key:=[32,98,97,115,101,61]) (p:=1) (show 0<=t.base by omega) n6
 have c4:(if t.on=[] then [] else [32,111,110,61]++t.on).length<=20:=by
  split
  ·simp
  ·rcases hF.on t ht with q | q
   ·contradiction
   ·simp;omega
 simp only[abx,acm] at c1 c2 c3
 refine⟨by rw[aby];omega,?_⟩
 unfold eM
 simp only[aby] at c4 ⊢
 omega
theorem Wx {ts:List Tk} {dx:AV} {xs:List AV} {D:Nat} (hF:Fit ts) (hn:ts.length<=16) (Eg:11<=D) :
  ∀ (r:List Tk) (i:Nat) (H:Hp) (lx:AV),i<=ts.length->ts.drop i=r->Gl H->cellAt H D 0=some dx->D<H.next->RD H dx xs ts->Ow H 9 1 lx (strs ((ts.take i).map (eM ts)))->(∀ j∈ak lx,j≠D/\j∉lE dx xs/\11<=j)->
  ∃ tN H',(∀ aX:K.Fn 1,G8 JN GO cK aX (.ptr D 0) lx dx (.int .i64 (ts.length:Nat)) (.int .i64 (i:Nat)) H=aX tN H')/\Rw H' 1 tN (strs (ts.map (eM ts)))/\Out (ak lx) H H'
 | [],i,H,lx,hi,h,hg,hD,vp,hR,hO,hd=>by
  obtain rfl:=drop_nil hi h
  refine⟨lx,H,fun aX => ?_,by rw[List.take_length] at hO;exact hO.rw,Out.refl _ _⟩
  rw[Mr]
  simp only[G3,fw,aj,ai,Int.reduceBEq,Int.reduceBNe,Int.reduceLT,Int.reduceLE,Int.reduceGT,Int.reduceGE,Int.reduceNeg]
 | t::r,i,H,lx,hi,h,hg,hD,vp,hR,hO,hd=>by
  obtain⟨h1,h2,h3⟩:=fC h
  have ht:=aa2 h2
  obtain⟨x,b,o,q0,q1,q2,q3,q4,q5,q6⟩:=hR.at h2
  have es:=fF h1 (by omega)
  obtain⟨n1,n2,n3,n4,n5,n6⟩:=hF.num t ht
  obtain⟨a1,a2⟩:=hF.jm t ht
  obtain⟨e0,e1,e2,e3,e4,e5⟩:=sA t x
  have o1:=aN H (aK t x) 99 0
  have cT:=bD H (aK t x) 99 0
  have hD1:cellAt (al H (aK t x) 99 0) D 0=some dx:=by rw[tX vp];exact hD
  have oO:=hR.aw o1
  have hl:=q2.kC
  rw[kU] at hl
  obtain⟨l1,l2⟩:=QN hF ht
  have aoI:t.name.length<=16:=(hF.nm _ (acI.2 ⟨t,ht,rfl⟩)).2.1
  have s1:=fun aX aG gw=>NL (dh:=lx) (bQ := .ptr H.next 0) (bV:=dx) (dm := .int .i64 (ts.length:Nat)) (dd := .int .i64 (i:Nat)) hF a2 a1 (q2.aw o1) hD1 oO aX aG gw t.after 0 t.name (ab2 _) abJ (by omega)
  rw[show (((0:Nat):Int))=0 from rfl] at s1
  have Vx:((0:Nat)==0)=true:=rfl
  rw[Vx] at s1
  have aD:=wG t x q1 H
  obtain⟨H2,t1,o2⟩:=Ny (key:=[32,114,101,116,114,121,61]) (p:=0) (by decide) n1 (by omega) (hg.aw o1)
  obtain⟨H3,t2,o3⟩:=Ny (key:=[32,119,97,105,116,61]) (p:=10) (by decide) (show 0<=t.wait by omega) n4 (hg.aw (o1.trans o2))
  obtain⟨H4,t3,o4⟩:=Ny (key:=[32,98,97,115,101,61]) (p:=1) (by decide) (show 0<=t.base by omega) n6 (hg.aw ((o1.trans o2).trans o3))
  have c2:=cT.out o2 (by simp)
  have c3:=c2.out o3 (by simp)
  have c4:=c3.out o4 (by simp)
  have k1:cellAt (al H (aK t x) 99 0) H.next 3=some (.int .i64 t.wait):=cT.cellAt e3
  have k2:cellAt (al H (aK t x) 99 0) H.next 4=some (.int .i64 t.base):=cT.cellAt e4
  have k3:cellAt H2 H.next 3=some (.int .i64 t.wait):=c2.cellAt e3
  have k4:cellAt H2 H.next 4=some (.int .i64 t.base):=c2.cellAt e4
  have k5:cellAt H3 H.next 4=some (.int .i64 t.base):=c3.cellAt e4
  have k6:cellAt H4 H.next 5=some (.str t.on):=c4.cellAt e5
  have b1:=Dm (key:=[32,114,101,116,114,121,61]) (p:=0) n1 (by omega)
  have b2:=Dm (key:=[32,119,97,105,116,61]) (p:=10) (show 0<=t.wait by omega) n4
  have b3:=Dm (key:=[32,98,97,115,101,61]) (p:=1) (show 0<=t.base by omega) n6
  simp only[abx,acm] at b1 b2 b3
  have u1:=ve (a:=je [32,114,101,116,114,121,61] t.dG 0) (b:=je [32,119,97,105,116,61] t.wait 10) (by omega)
  have u2:=ve (a:=je [32,114,101,116,114,121,61] t.dG 0++je [32,119,97,105,116,61] t.wait 10) (b:=je [32,98,97,115,101,61] t.base 1) (by rw[aby];omega)
  have u3:=ve (a:=t.name++il ts true t.after) (b:=je [32,114,101,116,114,121,61] t.dG 0++je [32,119,97,105,116,61] t.wait 10++je [32,98,97,115,101,61] t.base 1) (by simp only[aby] at l1 ⊢;omega)
  have mX:Out [] H H4:=((o1.trans o2).trans o3).trans o4
  have aoV:=mX.nx
  have pR:(ts.take (i+1)).map (eM ts)=(ts.take i).map (eM ts)++[eM ts t]:=by rw[agf,h2];simp
  obtain⟨Tw,H5,p1,p2,p3,p4,p5⟩:=vP (fU:=9) (z:=[(.str [])]) (vs:=[.str (eM ts t)]) (hO.out mX (by simp)) rfl rfl (by decide) (by simp[strs];omega)
  have pW:strs ((ts.take i).map (eM ts))++[.str (eM ts t)]=strs ((ts.take (i+1)).map (eM ts)):=by rw[pR];simp[strs]
  rw[pW] at p2
  have o5:Out (ak lx) H H5:=(mX.mono fun j hj=>by cases hj).trans p3
  have hn5:=p3.nx
  have gE:=hR.lt
  have Br:∀ j∈ak Tw,j≠D/\j∉lE dx xs/\11<=j:=fun j hj=>(p4 j hj).elim (hd j) fun z=>⟨by omega,fun y=>by have:=gE j y;omega,by omega⟩
  obtain⟨tN,H',i1,i2,i3⟩:=Wx hF hn Eg r (i+1) H5 Tw h1 h3 (hg.out o5 fun j hj=>(hd j hj).2.2) (by rw[o5.cellAt vp fun z=>(hd D z).1 rfl];exact hD) (by omega) (hR.out o5 fun j hj z=>(hd j z).2.1 hj) p2 Br
  have iY:=p1 _ rfl
  refine⟨tN,H',fun aX => ?_,i2,o5.then i3 fun j hj=>(p4 j hj).imp id fun z=>by omega⟩
  have Xq:eM ts t=((t.name++il ts true t.after)++((je [32,114,101,116,114,121,61] t.dG 0++je [32,119,97,105,116,61] t.wait 10)++je [32,98,97,115,101,61] t.base 1))++(if t.on=[] then [] else [32,111,110,61]++t.on):=rfl
  generalize je [32,114,101,116,114,121,61] t.dG 0=T1 at *
  generalize je [32,119,97,105,116,61] t.wait 10=T2 at *
  generalize je [32,98,97,115,101,61] t.base 1=T3 at *
  generalize t.name++il ts true t.after=s0 at *
  generalize eM ts t=sT at *
  by_cases tj:t.on=[]
  ·have d:(t.on==([]:aq))=true:=by rw[tj];rfl
   have pU:s0++(T1++T2++T3)=sT:=by
    rw[Xq,if_pos tj,agh]
   rw[pU] at u3
   rw[Mr]
   simp(disch:=(first|assumption|omega|(simp only[ag,af,Nat.reduceAdd,Nat.reduceLeDiff,Nat.reduceLT]<;>fail)|(simp only[af];omega)|(simp only[ag,af,Nat.reduceAdd,Nat.reduceLeDiff,Nat.reduceLT, *]<;>fail)|fail))only[G3,bN h1,q3,q5,aD,e0,e1,e2,hl,s1,t1,t2,t3,k1,k2,k3,k4,k5,k6,u1,u2,u3,nH (XV _ _),d,iY,es,i1,au,ar,Nat.reduceAdd,aj,ai,Int.reduceBEq,Int.reduceBNe,Int.reduceLT,Int.reduceLE,Int.reduceGT,Int.reduceGE,Int.reduceNeg]
  ·have d:(t.on==([]:aq))=false:=by simp[tj]
   have jk:t.on.length<=16:=(hF.on t ht).elim (fun q=>absurd q tj) fun q=>q.1
   have u4:=ve (a:=[32,111,110,61]) (b:=t.on) (by simp;omega)
   have u5:=ve (a:=s0++(T1++T2++T3)) (b:=[32,111,110,61]++t.on) (by simp only[aby,abx,acm] at l1 ⊢;omega)
   have pU:s0++(T1++T2++T3)++([32,111,110,61]++t.on)=sT:=by
    rw[Xq,if_neg tj]
   rw[pU] at u5
   rw[Mr]
   simp(disch:=(first|assumption|omega|(simp only[ag,af,Nat.reduceAdd,Nat.reduceLeDiff,Nat.reduceLT]<;>fail)|(simp only[af];omega)|(simp only[ag,af,Nat.reduceAdd,Nat.reduceLeDiff,Nat.reduceLT, *]<;>fail)|fail))only[G3,bN h1,q3,q5,aD,e0,e1,e2,hl,s1,t1,t2,t3,k1,k2,k3,k4,k5,k6,u1,u2,u3,u4,u5,nH (XV _ _),d,iY,es,i1,au,ar,Nat.reduceAdd,aj,ai,Int.reduceBEq,Int.reduceBNe,Int.reduceLT,Int.reduceLE,Int.reduceGT,Int.reduceGE,Int.reduceNeg]
theorem anS {ts:List Tk} {dx:AV} {xs:List AV} {H:Hp} (hg:Gl H) (hF:Fit ts) (h1:1<=ts.length) (hn:ts.length<=16) (TC:js ts=0) (hR:RD H dx xs ts) :
  ∃ H',cK (.func (.func 55) [] []) [dv dx] H=some (.str (po ts),H')/\Out [] H H':=by
 have gr:=hR.row.one
 have fX:=hR.aV
 have o1:=aN H [dx] 72 0
 have Jq:=hg.nx
 have hc:av (al H [dx] 72 0) H.next 0 1=some [dx]:=Gn rfl (by simp)
 obtain⟨H2,g1,o2⟩:=NI (ts:=ts) (by omega) (fun t ht=>by have:=(hF.jm t ht).2;omega) (hR.aw o1)
 rw[TC] at g1
 have gT:=o2.nx
 rw[cj] at gT
 have VS:cellAt H2 H.next 0=some dx:=by rw[o2.cellAt (by rw[cj];omega) (by simp),vQ rfl];rfl
 have gJ:=(hR.aw o1).aw o2
 have bg:bx 72 (.agg [dx]) H=some (H.next,al H [dx] 72 0):=iE (by simp)
 obtain⟨lx,H3,l1,l2,l3⟩:=Wx (D:=H.next) hF hn (by omega) ts 0 H2 .ah (ab2 _) abJ (hg.aw (o1.trans o2)) VS (by omega) gJ .nil (fun j hj=>by cases hj)
 rw[show (((0:Nat):Int))=0 from rfl] at l1
 have l3':Out [] H2 H3:=l3
 have qT:∀ us:List Tk,(∀ t∈us,t∈ts)->dB (us.map (eM ts))<=600*us.length:=by
  intro us
  induction us with
  | nil=>intro _;simp[dB]
  | cons u us ih=>
   intro h
   have a:=ih fun t ht=>h t (.tail _ ht)
   have b:=(QN hF (h u (.head _))).2
   simp only[dB,acJ,List.sum_cons,abx] at a ⊢
   omega
 have hs:=qT ts fun t ht=>ht
 obtain⟨H4,j1,j2⟩:=aj8 (sep:=[59]) rfl l2 (by rw[ac7];omega) (fun s hs=>by
  obtain⟨t,ht,rfl⟩:=acI.1 hs
  have:=(QN hF ht).2;omega) (by omega) (fun s hs b hb=>by
  rcases abn.1 hs with rfl | hs
  ·rw[aan] at hb;subst hb;decide
  ·obtain⟨t,ht,rfl⟩:=acI.1 hs
   exact (aaa hF ht b hb).2)
 rw[VY] at j1
 have vd:po ts=ju 59 (ts.map (eM ts)):=by unfold po;rw[if_pos TC]
 rw[<-vd] at j1
 refine⟨H4,alJ ?_,((o1.trans o2).trans l3').trans j2⟩
 have d:((0:Int) != 0)=false:=rfl
 unfold P7
 simp(disch:=(first|assumption|omega|(simp only[ag,af,Nat.reduceAdd,Nat.reduceLeDiff,Nat.reduceLT]<;>fail)|(simp only[af];omega)|(simp only[ag,af,Nat.reduceAdd,Nat.reduceLeDiff,Nat.reduceLT, *]<;>fail)|fail))only[bg,hc,g1,d,VS,fX,l1,j1,au,ar,Nat.reduceAdd,aj,ai,Int.reduceBEq,Int.reduceBNe,Int.reduceLT,Int.reduceLE,Int.reduceGT,Int.reduceGE,Int.reduceNeg]
end Go.Proofs.YtodfajmihkagnaaGreatDoor.DfK
