/- Laws that the proof uses. -/
import Derived.Test.YtodfajmihkagnaaGreatDoorDfM
set_option linter.unusedVariables false
set_option linter.unusedSimpArgs false
set_option maxRecDepth 10000
set_option maxHeartbeats 1000000
namespace Go.Proofs.YtodfajmihkagnaaGreatDoor.DfK
open Go Am Am.K lN nC kI py
theorem Fg (c:Nat):∀ s:ai,dC (da c s)+(da c s).length=s.length+1
 | []=>rfl
 | b::s=>by
  have ih:=Fg c s
  unfold da
  by_cases h:b=c
  ·rw[if_pos h];simp only[dC,ac4,List.sum_cons,acG,aa1] at *;omega
  ·rw[if_neg h]
   cases hs:da c s with
   | nil=>exact absurd hs (zP c s)
   | cons x y=>rw[hs] at ih;simp only[dC,ac4,List.sum_cons,aa1] at *;omega
abbrev kZ (s:ai):List ai:=da 32 s
abbrev pO (s:ai):ai:=(kZ s).headD []
structure PS (H:Hp)(rx nx:AV)(rws:List AV)(ps:List ai):Prop where
 r:Ow H 46 1 rx rws
 n:Ow H 9 1 nx (strs (ps.map pO))
 len:rws.length=ps.length
 w:∀ (i:Nat) (wx:AV) (s:ai),rws[i]? = some wx->ps[i]? = some s->Rw H 1 wx (strs (kZ s))
 dw:∀ wx∈rws,∀ j∈ah wx,j∉ah rx/\j∉ah nx
 dn:∀ j∈ah rx,j∉ah nx
theorem Zv {R:AV}{px:AV}{ps:List ai}{B:Nat}(jy:ps.length<=5000)(jC:∀ s∈ps,s.length<=5000):∀ (r:List ai) (i:Nat) (H:Hp) (rx nx:AV) (rws:List AV),i<=ps.length->ps.drop i=r->Rw H 1 px (strs ps)->PS H rx nx rws (ps.take i)->(∀ j∈ah px,j∉ah rx/\j∉ah nx)->B<=H.next->(∀ j,j∈ah rx\/j∈ah nx->B<=j)->(∀ wx∈rws,∀ j∈ah wx,B<=j)->
  ∃ ef lO N9 H' S,(∀ gu:K.Fn 3,Ih JN GO cK gu R rx nx px (.int .i64 (ps.length:Nat)) (.int .i64 (i:Nat)) H=gu R ef lO H')/\PS H' ef lO N9 ps/\Out S H H'/\(∀ j∈S,B<=j)/\(∀ j,j∈ah ef\/j∈ah lO->B<=j)/\(∀ wx∈N9,∀ j∈ah wx,B<=j)
 | [],i,H,rx,nx,rws,hi,h,N1,hP,hd,hB,hr,hw=>by
  obtain rfl:=drop_nil hi h
  rw[ag8 (aaU _)] at hP
  refine⟨rx,nx,rws,H,[],fun gu => ?_,hP,Out.refl _ _,(fun j hj=>by cases hj),hr,hw⟩
  rw[aaS]
  simp only[NY,ez,ag,af,simprocAttr]
 | s::r,i,H,rx,nx,rws,hi,h,N1,hP,hd,hB,hr,hw=>by
  obtain⟨h1,h2,h3⟩:=eF h
  obtain⟨q,q1,q2⟩:=N1.gw (nE h2) .i64
  have es:=eE h1 (by omega)
  have mM:=jC s (aaO h2)
  have rr:ps.take (i+1)=ps.take i++[s]:=by rw[aiI,h2];rfl
  have bD:(ps.take i).length=i:=by rw[afs];omega
  obtain⟨wx,H1,s1,s2,s3,s4⟩:=U9 (c:=32) (by decide) (s:=s) (by omega) H
  have kA:=s3.nx
  have Cy:=s2.lt
  have fA:=hP.r.rw.lt
  have iJ:=hP.n.rw.lt
  obtain⟨LD,H2,p1,p2,p3,p4,p5⟩:=uB (fM:=46) (z:=[.ae]) (vs:=[wx]) (hP.r.out s3 (by simp)) (by simp[s2.one]) rfl (by decide) (by rw[hP.len,bD];simp;omega)
  have gC:=p3.nx
  have Im:Rw H2 1 wx (strs (kZ s)):=s2.out p3 fun j hj z=>by have:=s4 j hj;have:=fA j z;omega
  have hN2:Ow H2 9 1 nx (strs ((ps.take i).map pO)):=(hP.n.out s3 (by simp)).out p3 fun j hj z=>hP.dn j z hj
  obtain⟨w0,w1,Wv⟩:∃ a b,kZ s=a::b:=by
   cases hs:kZ s with
   | nil=>exact absurd hs (zP 32 s)
   | cons a b=>exact⟨a,b,rfl⟩
  obtain⟨y,y1,y2⟩:=Im.gw (i:=0) (v := .str w0) (by rw[Wv];rfl) .i64
  rw[show (((0:Nat):Int))=0 from rfl] at y1
  obtain⟨Rj,H3,n1,n2,n3,n4,n5⟩:=uB (fM:=9) (z:=[.str []]) (vs:=[.str w0]) hN2 rfl rfl (by decide) (by rw[gB,adY,bD];simp;omega)
  have Aj:=n3.nx
  have hh:pO s=w0:=by show (kZ s).headD []=w0;rw[Wv];rfl
  have amw:strs ((ps.take i).map pO)++[.str w0]=strs ((ps.take (i+1)).map pO):=by rw[rr,afg,FZ,ac4,akP,hh];rfl
  rw[amw] at n2
  have iu:=p1 _ rfl
  have n1':=n1 _ rfl
  have Gt:∀ j∈ah LD,j∈ah rx\/H1.next<=j:=p4
  have DC:∀ j∈ah Rj,j∈ah nx\/H2.next<=j:=n4
  have ahz:∀ j∈ah LD,j<H2.next:=p2.rw.lt
  have awK:∀ wy∈rws,∀ j∈ah wy,j<H.next:=fun wy mZ j hj=>by
   obtain⟨k,hk⟩:=adR mZ
   have kO:=(aaw.1 hk).1
   rw[hP.len] at kO
   exact (hP.w k wy _ hk (aaC kO)).lt j hj
  have o2:Out (ah rx) H H2:=(s3.mono fun j hj=>by cases hj).trans p3
  have o3:Out (ah rx++ah nx) H H3:=(o2.mono fun j hj=>abD _ hj).trans (n3.mono fun j hj=>abo _ hj)
  have AA:PS H3 LD Rj (rws++[wx]) (ps.take (i+1)):=by
   refine⟨p2.out n3 fun j hj z => ?_,n2,by rw[abj,hP.len,rr,abj];rfl,fun k wy t hk ht => ?_,fun wy mZ j hj => ?_,fun j hj z => ?_⟩
   ·rcases Gt j hj with y | y
    ·exact hP.dn j y z
    ·have:=iJ j z;omega
   ·rw[rr] at ht
    by_cases hki:k<i
    ·rw[abX (by rw[hP.len,bD];exact hki)] at hk
     rw[abX (by rw[bD];exact hki)] at ht
     have hm:=aaO hk
     exact (hP.w k wy t hk ht).out o3 fun j hj z=>(abN.1 z).elim (hP.dw wy hm j hj).1 (hP.dw wy hm j hj).2
    ·have gp:=(aaw.1 ht).1
     rw[abj,bD] at gp
     obtain rfl:k=i:=by simp at gp;omega
     rw[ack (by rw[hP.len,bD];exact aaU _),hP.len,bD,aiG] at hk
     rw[ack (by rw[bD];exact aaU _),bD,aiG] at ht
     cases hk;cases ht
     exact Im.out n3 fun j hj z=>by have:=s4 j hj;have:=iJ j z;omega
   ·rcases abN.1 mZ with mZ | mZ
    ·have hjo:=awK wy mZ j hj
     exact⟨fun z=>(Gt j z).elim (hP.dw wy mZ j hj).1 fun y=>by omega,fun z=>(DC j z).elim (hP.dw wy mZ j hj).2 fun y=>by omega⟩
    ·rw[No] at mZ
     subst mZ
     have:=s4 j hj
     have:=Cy j hj
     exact⟨fun z=>(Gt j z).elim (fun y=>by have:=fA j y;omega) fun y=>by omega,fun z=>(DC j z).elim (fun y=>by have:=iJ j y;omega) fun y=>by omega⟩
   ·rcases DC j z with y | y
    ·rcases Gt j hj with x | x
     ·exact hP.dn j x y
     ·have:=iJ j y;omega
    ·have:=ahz j hj;omega
  have Xi:=N1.lt
  obtain⟨ef,lO,N9,H',S,i1,i2,i3,i4,i5,i6⟩:=Zv (R:=R) (B:=B) jy jC r (i+1) H3 LD Rj (rws++[wx]) h1 h3 (N1.out o3 fun j hj z=>(abN.1 z).elim (hd j hj).1 (hd j hj).2) AA (fun j hj=>⟨fun z=>(Gt j z).elim (hd j hj).1 fun y=>by have:=Xi j hj;omega,fun z=>(DC j z).elim (hd j hj).2 fun y=>by have:=Xi j hj;omega⟩) (by omega) (fun j hj=>by
   rcases hj with hj | hj
   ·exact (Gt j hj).elim (fun z=>hr j (.inl z)) fun z=>by omega
   ·exact (DC j hj).elim (fun z=>hr j (.inr z)) fun z=>by omega) (fun wy mZ j hj=>by
   rcases abN.1 mZ with mZ | mZ
   ·exact hw wy mZ j hj
   ·rw[No] at mZ;subst mZ;have:=s4 j hj;omega)
  refine⟨ef,lO,N9,H',(ah rx++ah nx)++S,fun gu => ?_,i2,(o3.mono fun j hj=>abD _ hj).trans (i3.mono fun j hj=>abo _ hj),fun j hj => ?_,i5,i6⟩
  ·have aw4:=s2.one
   rw[aaS]
   simp(disch:=first|exact zqz|fail)only[NY,aU h1,q1,q2,s1,iu,y1,y2,n1',es,i1,aj,ak,ag,af,simprocAttr]
  ·rcases abN.1 hj with hj | hj
   ·exact hr j (abN.1 hj)
   ·exact i4 j hj
noncomputable def oY (names:List ai):List ai->Option (List Tk)
 | []=>some []
 | s::r=>match wm names (kZ s) with
  | none=>none
  | some t=>(oY names r).map fun l=>t::l
noncomputable def aM (text:ai):List Tk × Int:=
 if 1024<text.length then ([],14) else match oY ((da 59 text).map pO) (da 59 text) with
  | none=>([],2)
  | some ts=>if iF ts=0 then (ts,0) else ([],iF ts)
theorem XK {names:List ai}:∀ {r:List ai} {t t':Tk} {ks:List ai},mW names r t ks=some t'->t'.after.length<=t.after.length+dC r+r.length
 | [],t,t',ks,h=>by cases h;simp[dC]
 | s::r,t,t',ks,h=>by
  unfold mW at h
  split at h
  ·cases h
  ·split at h
   ·cases h
   ·split at h
    ·cases h
    ·rename_i t1 h1
     have h2:=W4 h1
     have h3:=XK h
     have:=(Z3 61 s).2
     have hs:dC (s::r)=s.length+dC r:=by simp[dC]
     rw[hs];simp only[aa1];omega
theorem acO {names:List ai}{s:ai}{t:Tk}(h:wm names (kZ s)=some t):t.after.length<=s.length+1:=by
 unfold wm at h
 have h1:=XK h
 have h2:dC (kZ s)+(kZ s).length=s.length+1:=Fg 32 s
 have h3:dC (kZ s).tail+(kZ s).tail.length<=dC (kZ s)+(kZ s).length:=by
  cases kZ s with
  | nil=>simp
  | cons a b=>simp[dC];omega
 simp only[acG] at h1
 omega
theorem Yk {names:List ai}:∀ {r:List ai} {ts:List Tk},oY names r=some ts->ts.length=r.length/\∀ B,(∀ s∈r,s.length<=B)->∀ t∈ts,t.after.length<=B+1
 | [],ts,h=>by cases h;exact⟨rfl,fun B _ t ht=>by cases ht⟩
 | s::r,ts,h=>by
  unfold oY at h
  split at h
  ·cases h
  ·rename_i t ht
   rw[aam] at h
   obtain⟨l,h1,rfl⟩:=h
   obtain⟨i1,i2⟩:=Yk h1
   refine⟨by simp[i1],fun B hB u hu => ?_⟩
   rcases aa7.1 hu with rfl | hu
   ·have:=acO ht
    have:=hB s (.head _)
    omega
   ·exact i2 B (fun s hs=>hB s (.tail _ hs)) u hu
theorem RD.nil (H:Hp):RD H .ae [] []:=⟨rfl,RL.nil H 6,fun i x t h=>by simp at h⟩
theorem aaW {nx rx:AV}{rws:List AV}{ps:List ai}{R D:Nat}(jy:ps.length<=2000)(jC:∀ s∈ps,s.length<=1100)(hRD:R≠D):∀ (r:List ai) (i:Nat) (H:Hp) (dx:AV) (xs:List AV) (ts:List Tk),i<=ps.length->ps.drop i=r->Gl H->11<=D->(∀ j∈ah dx,11<=j)->PS H rx nx rws ps->Cs H R [.ae] 72 0->Cs H D [dx] 72 0->OL H 99 6 dx (List.zipWith aF ts xs)->RD H dx xs ts->ts.length=i->(∀ x∈xs,∀ j∈ah x,j∉ah dx/\j≠D)->D∉ah dx->(∀ j,j∈ah rx\/j∈ah nx\/(∃ wx∈rws,j∈ah wx)\/j=R->j∉ah dx/\j≠D)->
  ∃ H' S,Out S H H'/\(∀ j∈S,j=D\/j=R\/j∈ah dx\/H.next<=j)/\((∃ av a8 l,oY (ps.map pO) r=some l/\(∀ kR:K.Fn 2,Ft JN GO cK kR (.ptr R 0) nx (.ptr D 0) rx (.int .i64 (ps.length:Nat)) (.int .i64 (i:Nat)) H=kR (.ptr R 0) (.ptr D 0) H')/\Cs H' D [av] 72 0/\Cs H' R [.ae] 72 0/\RD H' av a8 (ts++l)/\∀ j∈lU av a8,j∈lU dx xs\/H.next<=j)\/
   (oY (ps.map pO) r=none/\∀ kR:K.Fn 2,Ft JN GO cK kR (.ptr R 0) nx (.ptr D 0) rx (.int .i64 (ps.length:Nat)) (.int .i64 (i:Nat)) H=some (.tuple [.agg [.ae],.int .i64 2],H')))
 | [],i,H,dx,xs,ts,hi,h,hg,Hr,OV,hP,hR,hD,hO,hT,Dt,G7,SW,hd=>by
  obtain rfl:=drop_nil hi h
  refine⟨H,[],Out.refl _ _,(fun j hj=>by cases hj),.inl ⟨dx,xs,[],rfl,fun kR => ?_,hD,hR,by simpa using hT,fun j hj => .inl hj⟩⟩
  rw[N4]
  simp only[FG,ez,ag,af,simprocAttr]
 | s::r,i,H,dx,xs,ts,hi,h,hg,Hr,OV,hP,hR,hD,hO,hT,Dt,G7,SW,hd=>by
  obtain⟨h1,h2,h3⟩:=eF h
  have es:=eE h1 (by omega)
  have mM:=jC s (aaO h2)
  have B5:rws[i]? = some (rws[i]'(by rw[hP.len];exact h1)):=aaC _
  generalize za:rws[i]'(by rw[hP.len];exact h1)=wx at B5
  have hwm:=aaO B5
  have hw:=hP.w i wx s B5 h2
  obtain⟨q,q1,q2⟩:=hP.r.rw.gw B5 .i64
  have sE:=Fg 32 s
  have Cy:(kZ s).length<=5000:=by have:(kZ s).length=(da 32 s).length:=rfl;omega
  have DI:∀ a∈kZ s,a.length<=80000:=fun a ha=>by have:=(Gx ha).2.2;omega
  obtain⟨H1,t1,t2⟩:=akx (names:=ps.map pO) hg (by rw[adY];omega) (zP 32 s) Cy DI (by show dC (da 32 s)+(da 32 s).length<=_;omega) hP.n.rw hw
  have kA:=t1.nx
  have N5:=hg.nx
  unfold oY
  rcases t2 with⟨t,x,u1,u2,u3,u4⟩ | ⟨u1,v,u2,u3,u4⟩
  ·rw[u1]
   simp only
   have lQ:=u3.one
   have axe:=acO u1
   have xd:st 6 (.ptr H1.next 0) (.agg (aF t x)) (al H1 [(.str []),.ae,(.int .i64 0),(.int .i64 0),(.int .i64 0),(.str [])] 99 0)=some (al H1 (aF t x) 99 0):=yp t x lQ H1
   have o2:=aG H1 (aF t x) 99 0
   have bR:Out [] H (al H1 (aF t x) 99 0):=t1.trans o2
   have axc:=hD.1
   have BF:cellAt (al H1 (aF t x) 99 0) D 0=some dx:=(hD.out bR (by simp)).cellAt rfl
   obtain⟨JR,H2,p1,p2,p3,p4,p5⟩:=(hO.out bR (by simp)).push (fM:=99) (z:=[(.str []),.ae,(.int .i64 0),(.int .i64 0),(.int .i64 0),(.str [])]) (vs:=aF t x) (by simp[aF,EI,jN,lQ]) rfl (by decide) (by rw[agM,hT.len,Nat.min_self];omega)
   have gC:=p3.nx
   rw[cu] at gC
   have hDD:=(hD.out bR (by simp)).out p3 SW
   obtain⟨H3,w1,w2,w3,w4⟩:=fP hDD (by decide) (o:=0) (by simp) (v:=JR) p5
   have GP:List.zipWith aF ts xs++[aF t x]=List.zipWith aF (ts++[t]) (xs++[x]):=by
    rw[List.zipWith_append (by rw[hT.len])];rfl
   rw[GP] at p2
   have zN:∀ j∈ah JR,j∈ah dx\/H1.next+1<=j:=fun j hj=>(p4 j hj).imp id fun z=>by rw[cu] at z;exact z
   have gi:=hO.1.rw.lt
   have WM:D∉ah JR:=fun z=>(zN D z).elim SW fun y=>by omega
   have o3:Out (D::ah dx) H H3:=((bR.mono fun j hj=>by cases hj).trans (p3.mono fun j hj => .tail _ hj)).trans (w3.mono fun j hj=>by rw[No] at hj;subst hj;exact .head _)
   have Aj:=o3.nx
   have aoZ:=u3.lt
   have Hl:=p2.out w3 fun j hj=>by rw[No];intro e;subst e;exact WM hj
   have awQ:∀ y∈xs,∀ j∈ah y,j<H.next:=fun y hy j hj=>hT.lt j (abo _ (ahi.2 ⟨y,hy,hj⟩))
   have He:RD H3 JR (xs++[x]) (ts++[t]):=by
    refine⟨by simp[hT.len],Hl.rl,fun k y t' hy rI => ?_⟩
    by_cases hk:k<xs.length
    ·rw[abX hk] at hy
     rw[abX (by rw[<-hT.len];exact hk)] at rI
     have hym:=aaO hy
     exact (hT.jY k y t' hy rI).out o3 fun j hj=>by rw[aa7,not_or];exact⟨(G7 y hym j hj).2,(G7 y hym j hj).1⟩
    ·have gp:=(aaw.1 hy).1
     rw[abj] at gp
     obtain rfl:k=xs.length:=by simp at gp;omega
     rw[ack (aaU _),aiG] at hy
     rw[ack (by rw[hT.len];exact aaU _),hT.len,aiG] at rI
     cases hy;cases rI
     refine ((u3.ar o2).out p3 fun j hj z => ?_).out w3 fun j hj => ?_
     ·have:=u4 j hj;have:=gi j z;omega
     ·rw[No];have:=u4 j hj;omega
   have hPo:∀ {A B:Hp} {S:List Nat},PS A rx nx rws ps->Out S A B->(∀ j,j∈ah rx\/j∈ah nx\/(∃ wx∈rws,j∈ah wx)->j∉S)->PS B rx nx rws ps:=fun hp ho hs=>
    ⟨hp.r.out ho fun j hj=>hs j (.inl hj),hp.n.out ho fun j hj=>hs j (.inr (.inl hj)),hp.len,fun k wy s' hk wk=>(hp.w k wy s' hk wk).out ho fun j hj=>hs j (.inr (.inr ⟨wy,aaO hk,hj⟩)),hp.dw,hp.dn⟩
   have NP:∀ j,j∈ah rx\/j∈ah nx\/(∃ wx∈rws,j∈ah wx)\/j=R->j∉D::ah dx:=fun j hj=>by rw[aa7,not_or];exact⟨(hd j hj).2,(hd j hj).1⟩
   have GU:∀ j,j∈ah rx\/j∈ah nx\/(∃ wx∈rws,j∈ah wx)\/j=R->j<H.next:=fun j hj=>by
    rcases hj with hj | hj | ⟨wy,mZ,hj⟩ | rfl
    ·exact hP.r.rw.lt j hj
    ·exact hP.n.rw.lt j hj
    ·obtain⟨k,hk⟩:=adR mZ
     have kO:=(aaw.1 hk).1
     rw[hP.len] at kO
     exact (hP.w k wy _ hk (aaC kO)).lt j hj
    ·exact hR.1
   obtain⟨H',S,i1,i2,i3⟩:=aaW jy jC hRD r (i+1) H3 JR (xs++[x]) (ts++[t]) h1 h3 (hg.out o3 fun j hj=>by
    rcases aa7.1 hj with rfl | hj
    ·exact Hr
    ·exact OV j hj) Hr (fun j hj=>(zN j hj).elim (OV j) fun z=>by omega) (hPo hP o3 fun j hj=>NP j (hj.imp id fun z=>z.imp id .inl)) (hR.out o3 (NP R (.inr (.inr (.inr rfl))))) w2 Hl He (by simp[Dt]) (fun y hy j hj=>by
     rcases abN.1 hy with hy | hy
     ·have:=awQ y hy j hj
      exact⟨fun z=>(zN j z).elim (G7 y hy j hj).1 fun w=>by omega,(G7 y hy j hj).2⟩
     ·rw[No] at hy
      subst hy
      have:=u4 j hj
      have:=aoZ j hj
      exact⟨fun z=>(zN j z).elim (fun w=>by have:=gi j w;omega) fun w=>by omega,by omega⟩) WM (fun j hj=>⟨fun z=>(zN j z).elim (hd j hj).1 fun w=>by have:=GU j hj;omega,(hd j hj).2⟩)
   refine⟨H',(D::ah dx)++S,(o3.mono fun j hj=>abD _ hj).trans (i1.mono fun j hj=>abo _ hj),fun j hj => ?_,?_⟩
   ·rcases abN.1 hj with hj | hj
    ·rcases aa7.1 hj with rfl | hj
     ·exact .inl rfl
     ·exact .inr (.inr (.inl hj))
    ·rcases i2 j hj with z | z | z | z
     ·exact .inl z
     ·exact .inr (.inl z)
     ·exact .inr (.inr ((zN j z).imp id fun y=>by omega))
     ·exact .inr (.inr (.inr (by omega)))
   ·have XU:aC (al H1 (aF t x) 99 0) (aF t x) 99 0=some (H1.next+1,al (al H1 (aF t x) 99 0) (aF t x) 99 0):=gJ (by rw[vZ];omega)
    have Fi:fl [(.str []),.ae,(.int .i64 0),(.int .i64 0),(.int .i64 0),(.str [])] [(0,6,.agg (aF t x))]=some (aF t x):=rfl
    have aae:=aeo t x
    have afx:=vZ t x
    have iu:=p1 _ rfl
    rw[cu] at iu
    rcases i3 with⟨av,a8,l,k1,k2,k3,k4,k5,k6⟩ | ⟨k1,k2⟩
    ·refine .inl ⟨av,a8,t::l,by rw[k1];rfl,fun kR => ?_,k3,k4,by simpa[afk] using k5,fun j hj=>(k6 j hj).elim (fun z => ?_) fun z => .inr (by omega)⟩
     ·rw[N4]
      simp(disch:=first|exact zqz|fail)only[FG,aU h1,q1,q2,u2,xd,BF,afx,aae,Fi,XU,iu,w1,es,k2,aj,ak,ag,af,simprocAttr]
     ·rcases abN.1 z with z | z
      ·exact (zN j z).imp (fun y=>abD _ y) fun y=>by omega
      ·rw[akj,abN] at z
       rcases z with z | z
       ·exact .inl (abo _ z)
       ·have:j∈ah x:=by simpa using z
        exact .inr (u4 j this)
    ·refine .inr ⟨by rw[k1];rfl,fun kR => ?_⟩
     rw[N4]
     simp(disch:=first|exact zqz|fail)only[FG,aU h1,q1,q2,u2,xd,BF,afx,aae,Fi,XU,iu,w1,es,k2,aj,ak,ag,af,simprocAttr]
  ·rw[u1]
   have xd:st 6 (.ptr H1.next 0) (.agg v) (al H1 [(.str []),.ae,(.int .i64 0),(.int .i64 0),(.int .i64 0),(.str [])] 99 0)=some (al H1 v 99 0):=iI u4 u3.symm rfl (by decide) u3.symm
   have o2:=aG H1 v 99 0
   have kK:=hR.out (t1.trans o2) (by simp)
   obtain⟨H3,w1,w2,w3,w4⟩:=gO (n:=1) (vs:=[AV.ae]) kK rfl rfl rfl
   have ze:aq H3 R 0 1=some [.ae]:=w2.aq 1 0 (by simp)
   refine⟨H3,[R],((t1.trans o2).mono fun j hj=>by cases hj).trans w3,fun j hj=>by rw[No] at hj;exact .inr (.inl hj),.inr ⟨rfl,fun kR => ?_⟩⟩
   rw[N4]
   simp(disch:=first|exact zqz|fail)only[FG,aU h1,q1,q2,u2,xd,w1,ze,aj,ak,ag,af,simprocAttr]
theorem agq {text:ai}{H:Hp}(hg:Gl H)(hl:text.length<=4294967296):∃ dx xs H',cK (.func (.func 53) [] []) [.str text] H=some (.tuple [dv dx,.int .i64 (aM text).2],H')/\RD H' dx xs (aM text).1/\Out [] H H'/\∀ j∈lU dx xs,H.next<=j:=by
 have N5:=hg.nx
 have o1:=aG H [.ae] 72 0
 have c1:=aZ H [.ae] 72 0
 unfold aM
 by_cases Cb:1024<text.length
 ·rw[if_pos Cb]
  have d:decide ((1024:Int)<(text.length:Int))=true:=decide_eq_true (by omega)
  refine⟨.ae,[],al H [.ae] 72 0,Je ?_,RD.nil _,o1,fun j hj=>by cases hj⟩
  have aA:st 1 (.ptr H.next 0) (.agg [.ae]) (al H [.ae] 72 0)=some (al H [.ae] 72 0):=iI rfl rfl rfl (by decide) rfl
  unfold Dc
  simp(disch:=first|exact zqz|fail)only[d,aA,aj,ak,ag,af,simprocAttr]
 rw[if_neg Cb]
 have d:decide ((1024:Int)<(text.length:Int))=false:=decide_eq_false (by omega)
 obtain⟨px,H1,s1,s2,s3,s4⟩:=U9 (c:=59) (by decide) (s:=text) (by omega) (al H [.ae] 72 0)
 have kA:=s3.nx
 rw[cu] at kA
 have sE:=Fg 59 text
 have jy:=s2.jn
 rw[gB] at jy
 have jC:∀ s∈da 59 text,s.length<=1100:=fun s hs=>by have:=(Gx hs).2.2;omega
 have c2:=c1.out s3 (by simp)
 obtain⟨rx,nx,rws,H2,S2,i1,i2,i3,i4,i5,i6⟩:=Zv (R := .ptr H.next 0) (B:=H1.next) (ps:=da 59 text) (by omega) (fun s hs=>by have:=jC s hs;omega) (da 59 text) 0 H1 .ae .ae [] (ace _) abK s2 ⟨.nil,.nil,by rw[ai2];rfl,fun i wx s h=>by simp at h,(fun wx h=>by cases h),fun j h=>by cases h⟩ (fun j hj=>⟨by simp[ah],by simp[ah]⟩) (aaU _) (fun j hj=>by rcases hj with hj | hj<;>cases hj) (fun wx h=>by cases h)
 rw[show (((0:Nat):Int))=0 from rfl] at i1
 have gC:=i3.nx
 have oU:Out [] H H2:=(o1.trans s3).then i3 fun j hj=>by have:=i4 j hj;exact .inr (by omega)
 have c3:=c2.out i3 fun z=>by have:=i4 _ z;omega
 have o3:=aG H2 [.ae] 72 0
 have cD:=aZ H2 [.ae] 72 0
 have AA:PS (al H2 [.ae] 72 0) rx nx rws (da 59 text):=⟨i2.r.out o3 (by simp),i2.n.out o3 (by simp),i2.len,fun k wx s h1 h2=>(i2.w k wx s h1 h2).ar o3,i2.dw,i2.dn⟩
 have GU:∀ j,j∈ah rx\/j∈ah nx\/(∃ wx∈rws,j∈ah wx)->j<H2.next:=fun j hj=>by
  rcases hj with hj | hj | ⟨wy,mZ,hj⟩
  ·exact i2.r.rw.lt j hj
  ·exact i2.n.rw.lt j hj
  ·obtain⟨k,hk⟩:=adR mZ
   have kO:=(aaw.1 hk).1
   rw[i2.len] at kO
   exact (i2.w k wy _ hk (aaC kO)).lt j hj
 obtain⟨H3,S3,k1,k2,k3⟩:=aaW (R:=H.next) (D:=H2.next) (by omega) jC (by omega) (da 59 text) 0 (al H2 [.ae] 72 0) .ae [] [] (ace _) abK (hg.ar (oU.trans o3)) (by omega) (fun j hj=>by cases hj) AA (c3.out o3 (by simp)) cD (OL.nil _ _ _) (RD.nil _) rfl (fun x hx=>by cases hx) (by simp[ah]) (fun j hj=>⟨by simp[ah],by
  rcases hj with hj | hj | hj | rfl
  ·have:=GU j (.inl hj);omega
  ·have:=GU j (.inr (.inl hj));omega
  ·have:=GU j (.inr (.inr hj));omega
  ·omega⟩)
 rw[show (((0:Nat):Int))=0 from rfl] at k3
 have Um:∀ j∈S3,H.next<=j:=fun j hj=>by
  rcases k2 j hj with z | z | z | z
  ·omega
  ·omega
  ·cases z
  ·rw[cu] at z;omega
 have xL:Out [] H H3:=(oU.trans o3).then k1 fun j hj => .inr (Um j hj)
 have fA:=i2.r.rw.jn
 rw[i2.len] at fA
 have fc:aK rx=some (.int .i64 ((da 59 text).length:Nat)):=fA
 have Aj:=k1.nx
 rw[cu] at Aj
 rcases k3 with⟨dx,xs,ts,m1,m2,m3,m4,m5,m6⟩ | ⟨m1,m2⟩
 ·rw[ai6] at m5
  rw[m1]
  simp only
  obtain⟨tl1,tl2⟩:=Yk m1
  have ry:∀ j∈lU dx xs,H2.next+1<=j:=fun j hj=>(m6 j hj).elim (fun z=>by cases z) fun z=>by rw[cu] at z;exact z
  obtain⟨H4,g1,g2⟩:=N7 (ts:=ts) (by rw[tl1];omega) (fun t ht=>by have:=tl2 1100 jC t ht;omega) m5
  have XR:=g2.nx
  have BF:aq H3 H2.next 0 1=some [dx]:=m3.aq 1 0 (by simp)
  have hD4:aq H4 H2.next 0 1=some [dx]:=(m3.out g2 (by simp)).aq 1 0 (by simp)
  have cR:=m4.out g2 (by simp)
  have zN:=m5.row.one
  by_cases h0:iF ts=0
  ·rw[if_pos h0]
   have d0:((iF ts) != 0)=false:=by rw[h0];rfl
   obtain⟨H5,w1,w2,w3,w4⟩:=gO (n:=1) (vs:=[dx]) cR rfl rfl (by simp[zN])
   have TC:aq H5 H.next 0 1=some [dx]:=w2.aq 1 0 (by simp)
   refine⟨dx,xs,H5,Je ?_,(m5.ar g2).out w3 fun j hj=>by rw[No];have:=ry j hj;omega,(xL.trans g2).then w3 fun j hj=>by rw[No] at hj;exact .inr (by omega),fun j hj=>by have:=ry j hj;omega⟩
   unfold Dc
   simp(disch:=first|exact zqz|fail)only[d,s1,jy,i1,fc,m2,BF,hD4,g1,d0,w1,TC,aj,ak,ag,af,simprocAttr]
  ·rw[if_neg h0]
   have d0:((iF ts) != 0)=true:=by simp[h0]
   obtain⟨H5,w1,w2,w3,w4⟩:=gO (n:=1) (vs:=[AV.ae]) cR rfl rfl rfl
   have TC:aq H5 H.next 0 1=some [.ae]:=w2.aq 1 0 (by simp)
   refine⟨.ae,[],H5,Je ?_,RD.nil _,(xL.trans g2).then w3 fun j hj=>by rw[No] at hj;exact .inr (by omega),fun j hj=>by cases hj⟩
   unfold Dc
   simp(disch:=first|exact zqz|fail)only[d,s1,jy,i1,fc,m2,BF,hD4,g1,d0,w1,TC,aj,ak,ag,af,simprocAttr]
 ·rw[m1]
  simp only
  refine⟨.ae,[],H3,Je ?_,RD.nil _,xL,fun j hj=>by cases hj⟩
  unfold Dc
  simp(disch:=first|exact zqz|fail)only[d,s1,jy,i1,fc,m2,aj,ak,ag,af,simprocAttr]
theorem LH {text:ai}(h:(aM text).2=0):iF (aM text).1=0/\1<=(aM text).1.length/\(aM text).1.length<=16/\wG (aM text).1/\Bf (aM text).1.length (jS 0 (aM text).1)/\(∀ t∈(aM text).1,xq t=false/\tB t=false):=by
 have key:∀ ts:List Tk,iF ts=0->1<=ts.length/\ts.length<=16/\wG ts/\Bf ts.length (jS 0 ts)/\∀ t∈ts,xq t=false/\tB t=false:=by
  intro ts h
  unfold iF at h
  split at h
  ·cases h
  ·rename_i h1
   split at h
   ·cases h
   ·rename_i h2
    split at h
    ·cases h
    ·split at h
     ·cases h
     ·rename_i h3
      split at h
      ·cases h
      ·rename_i h4
       split at h
       ·rename_i h5
        have h1:=aiO.1 h1
        refine⟨h1.1,h1.2,LV (by simpa using h4),h5,fun t ht => ?_⟩
        obtain⟨i,hi⟩:=adR ht
        have bD:=(aaw.1 hi).1
        rw[ah4,ajt] at h2 h3
        have a:=h2 i (akH.2 bD)
        have b:=h3 i (akH.2 bD)
        unfold p1 at a
        unfold p3 at b
        rw[hi] at a b
        exact⟨by simpa using a,by simpa using b⟩
       ·cases h
 have hg:iF (aM text).1=0:=by
  unfold aM at h ⊢
  by_cases hb:1024<text.length
  ·rw[if_pos hb] at h;cases h
  ·rw[if_neg hb] at h ⊢
   cases nJ:oY ((da 59 text).map pO) (da 59 text) with
   | none=>rw[nJ] at h;cases h
   | some ts=>
    rw[nJ] at h
    simp only at h ⊢
    by_cases h0:iF ts=0
    ·rw[if_pos h0];exact h0
    ·rw[if_neg h0] at h;exact absurd h h0
 exact⟨hg,key _ hg⟩
end Go.Proofs.YtodfajmihkagnaaGreatDoor.DfK
namespace Go.Proofs.YtodfajmihkagnaaGreatDoor.Am.K
open Go
theorem abe:∀ (vs c r:List AV) (k:Nat),k+vs.length<=c.length->js (c++r) k vs=js c k vs++r
 | [],c,r,k,h=>rfl
 | v::vs,c,r,k,h=>by
  simp only[aa1] at h
  show js ((c++r).set k v) (k+1) vs=js (c.set k v) (k+1) vs++r
  rw[List.set_append_left _ _ (by omega)]
  exact abe vs _ _ _ (by rw[adU];omega)
theorem adT:∀ (vs a r:List AV) (k:Nat),js (a++r) (a.length+k) vs=a++js r k vs
 | [],a,r,k=>rfl
 | v::vs,a,r,k=>by
  show js ((a++r).set (a.length+k) v) (a.length+k+1) vs=a++js (r.set k v) (k+1) vs
  rw[akr _ _ (by omega),afG,ajG]
  exact adT vs _ _ _
theorem Y0 {es:Nat}{vs:List AV}{k:Nat}(hk:k+vs.length<=es):∀ {L:List (List AV)} {i:Nat} {c:List AV},(∀ c∈L,c.length=es)->L[i]? = some c->(L.set i (js c k vs)).flatten=js L.flatten (i*es+k) vs
 | [],i,c,_,h=>by simp at h
 | a::L,0,c,hl,h=>by
  simp only[aek,adE] at h
  subst h
  have:=hl a (.head _)
  rw[aiA,aeJ]
  show js a k vs++L.flatten=js (a++L.flatten) k vs
  rw[abe _ _ _ _ (by omega)]
 | a::L,i+1,c,hl,h=>by
  simp only[adL] at h
  have ha:=hl a (.head _)
  show a++(L.set i (js c k vs)).flatten=js (a++L.flatten) ((i+1)*es+k) vs
  rw[Y0 hk (fun d hd=>hl d (.tail _ hd)) h,ahJ,ajO,show i*es+es+k=a.length+(i*es+k) by omega,adT]
theorem OL.OT {H:Hp}{el es:Nat}{x:AV}{L:List (List AV)}(h:OL H el es x L){i k b o:Nat}{c vs:List AV}(hi:L[i]? = some c)(oK:∀ kd,ia es x (.int kd i)=some (.ptr b o))(hv:∀ v∈vs,bq v=true)(hk:k+vs.length<=es)(dK:0<es) :
  ∃ H',setCells H b (o+k) vs=some H'/\OL H' el es x (L.set i (js c k vs))/\Out (ah x) H H'/\H'.next=H.next:=by
 obtain⟨ho,hl⟩:=h
 have bD:=(aaw.1 hi).1
 have ng:=AG hl
 have hfs:=Y0 hk hl hi
 have hc:=hl c (aaO hi)
 have G2:i*es+es<=L.flatten.length:=by
  rw[ng]
  have:=agV es (show i+1<=L.length by omega)
  rw[ahJ,ajO] at this
  exact this
 have Ss:∀ d∈L.set i (js c k vs),d.length=es:=fun d hd=>by
  rcases agt hd with hd | rfl
  ·exact hl d hd
  ·rw[Jn];exact hc
 generalize hF:L.flatten=F at *
 cases ho with
 | nil=>simp at G2;omega
 | emp=>simp at G2;omega
 | @mk i0 off n cap ex _ ct lo zU fl jc hg hf ij jJ iA hn jB hs h1 he=>
  have lG:i<n:=by
   rw[ng] at hn
   exact Nat.eq_of_mul_eq_mul_right dK hn▸bD
  have e:=oK .i64
  rw[Ai lG] at e
  injection e with e
  injection e with eb eo
  subst eb
  subst eo
  have hcn:n*es<=cap*es:=agV _ iA
  obtain⟨H',c',q1,q2,q3,q4,q5⟩:=LC vs H i0 (off+i*es+k) ct lo zU el fl hg hf (by omega) (by omega) (fun m hm=>by
   have:=hs (i*es+k+m) (by omega)
   rw[show off+i*es+k+m=off+(i*es+k+m) by omega]
   exact this) hv
  refine⟨H',q1,⟨?_,Ss⟩,⟨by omega,fun j hj IU=>q4 j fun e=>IU (by subst e;rw[nF he];exact .head _)⟩,q2⟩
  rw[hfs]
  refine .mk (by omega) q3 hf ij jJ iA (by rw[Jn];exact hn) (fun m w hm => ?_) (fun m hm => ?_) (fun w hw => ?_) he
  ·rw[q5]
   rw[Ch _ _ _ _ (by omega)] at hm
   split at hm
   ·rw[if_pos (by omega),show off+m-(off+i*es+k)=m-(i*es+k) by omega];exact hm
   ·rw[if_neg (by omega)];exact jB m w hm
  ·rw[q5]
   split
   ·rename_i hb
    rw[aaC (by omega)];rfl
   ·exact hs m hm
  ·obtain⟨m,hm⟩:=adR hw
   rw[Ch _ _ _ _ (by omega)] at hm
   split at hm
   ·exact hv w (aaO hm)
   ·exact h1 w (aaO hm)
theorem OL.fP {H:Hp}{el es:Nat}{x:AV}{L:List (List AV)}(h:OL H el es x L){i k b o:Nat}{c:List AV}{v:AV}(hi:L[i]? = some c)(oK:∀ kd,ia es x (.int kd i)=some (.ptr b o))(hv:bq v=true)(hk:k<es) :
  ∃ H',st 1 (.ptr b (o+k)) v H=some H'/\OL H' el es x (L.set i (c.set k v))/\Out (ah x) H H'/\H'.next=H.next:=by
 obtain⟨H',h1,h2⟩:=h.OT (k:=k) (vs:=[v]) hi oK (fun u hu=>by rw[No] at hu;subst hu;exact hv) (by simp only[aa1,acG];omega) (by omega)
 refine⟨H',?_,h2⟩
 unfold st
 simp only[Mq hv]
 exact h1
theorem OL.stN {H:Hp}{el es:Nat}{x:AV}{L:List (List AV)}(h:OL H el es x L){i b o:Nat}{vs:List AV}(hi:i<L.length)(oK:∀ kd,ia es x (.int kd i)=some (.ptr b o))(hv:vs.all bq=true)(hn:vs.length=es)(dK:0<es) :
  ∃ H',st es (.ptr b o) (.agg vs) H=some H'/\OL H' el es x (L.set i vs)/\Out (ah x) H H'/\H'.next=H.next:=by
 have jc:L[i]? = some L[i]:=aaC hi
 obtain⟨H',h1,h2⟩:=h.OT (k:=0) (vs:=vs) jc oK (aeO.1 hv) (by omega) dK
 rw[afE vs _ (by rw[hn,h.2 _ (aaO jc)])] at h2
 refine⟨H',?_,h2⟩
 unfold st
 have:Nat.beq es vs.length=true:=by rw[hn];exact aie _
 simp only[Dv,this,cond_true]
 exact h1
end Go.Proofs.YtodfajmihkagnaaGreatDoor.Am.K
namespace Go.Proofs.YtodfajmihkagnaaGreatDoor.DfK
open Go Am Am.K lN nC kI py
structure RT where
 ph:Int
 tr:Int
 gm:Int
 oV:ai
 deriving DecidableEq
def ee (t:RT):List AV:=[.int .i64 t.ph,.int .i64 t.tr,.int .i64 t.gm,.str t.oV]
def fY (l:List RT):List (List AV):=l.map ee
structure Rn where
 ts:List Tk
 st:Int
 rs:List RT
 sg:List ai
abbrev rv (dx:AV)(st:Int)(tx sx:AV):List AV:=[dx,.int .i64 st,tx,sx]
structure RV (H:Hp)(dx:AV)(xs:List AV)(tx sx:AV)(R:Rn):Prop where
 d:RD H dx xs R.ts
 t:RL H 4 tx (fY R.rs)
 s:Rw H 1 sx (strs R.sg)
def nP (dx:AV)(xs:List AV)(tx sx:AV):List Nat:=lU dx xs++(ah tx++ah sx)
theorem RV.out {H H':Hp}{dx tx sx:AV}{xs:List AV}{R:Rn}{S:List Nat}(h:RV H dx xs tx sx R)(k:Out S H H')(hs:∀ j∈nP dx xs tx sx,j∉S):RV H' dx xs tx sx R:=
 ⟨h.d.out k fun j hj=>hs j (abD _ hj),h.t.out k fun j hj=>hs j (abo _ (abD _ hj)),h.s.out k fun j hj=>hs j (abo _ (abo _ hj))⟩
theorem RV.ar {H H':Hp}{dx tx sx:AV}{xs:List AV}{R:Rn}(h:RV H dx xs tx sx R)(k:Out [] H H'):RV H' dx xs tx sx R:=h.out k fun _ _ q=>by cases q
theorem RV.lt {H:Hp}{dx tx sx:AV}{xs:List AV}{R:Rn}(h:RV H dx xs tx sx R):∀ j∈nP dx xs tx sx,j<H.next:=fun j hj=>by
 rcases abN.1 hj with hj | hj
 ·exact h.d.lt j hj
 ·rcases abN.1 hj with hj | hj
  ·exact h.t.1.lt j hj
  ·exact h.s.lt j hj
theorem AZ (l:List RT):(fY l).length=l.length:=by simp[fY]
theorem rf {l:List RT}{i:Nat}{t:RT}(h:l[i]? = some t):(fY l)[i]? = some (ee t):=by simp[fY,h]
theorem RV.Yl {H:Hp}{dx tx sx:AV}{xs:List AV}{R:Rn}(h:RV H dx xs tx sx R):aK tx=some (.int .i64 (R.rs.length:Nat)):=by
 have:=h.t.len (by decide)
 rw[AZ] at this;exact this
theorem Mm (t:RT):(ee t).length=4:=rfl
theorem Bi (t:RT):(ee t)[0]? = some (.int .i64 t.ph)/\(ee t)[1]? = some (.int .i64 t.tr)/\(ee t)[2]? = some (.int .i64 t.gm)/\(ee t)[3]? = some (.str t.oV):=⟨rfl,rfl,rfl,rfl⟩
theorem Yq (t:RT)(H:Hp):st 4 (.ptr H.next 0) (.agg (ee t)) (al H [(.int .i64 0),(.int .i64 0),(.int .i64 0),(.str [])] 132 0)=some (al H (ee t) 132 0):=
 iI rfl rfl rfl (by decide) rfl
def pT (R:Rn)(task:Int):Int:=if task<0\/(R.rs.length:Int)<=task then 1 else if R.st=0 then 0 else 9
theorem acw {H:Hp}{dx tx sx:AV}{xs:List AV}{R:Rn}(h:RV H dx xs tx sx R)(task:Int) :
  cK (.func (.func 108) [] []) [.agg (rv dx R.st tx sx),.int .i64 task] H=some (.int .i64 (pT R task),al H (rv dx R.st tx sx) 75 0):=by
 refine auY ?_
 have hl:=h.Yl
 have c:=aZ H (rv dx R.st tx sx) 75 0
 have aN:bx 75 (.agg (rv dx R.st tx sx)) H=some (H.next,al H (rv dx R.st tx sx) 75 0):=gh (by simp)
 have k1:cellAt (al H (rv dx R.st tx sx) 75 0) H.next 1=some (.int .i64 R.st):=c.cellAt rfl
 have k2:cellAt (al H (rv dx R.st tx sx) 75 0) H.next 2=some tx:=c.cellAt rfl
 generalize al H (rv dx R.st tx sx) 75 0=H1 at *
 unfold adO pT
 by_cases h1:task<0
 ·have d1:decide (task<0)=true:=decide_eq_true h1
  rw[if_pos (.inl h1)]
  simp(disch:=first|exact zqz|fail)only[aN,d1,aj,ak,ag,af,simprocAttr]
 ·have d1:decide (task<0)=false:=decide_eq_false h1
  by_cases h2:(R.rs.length:Int)<=task
  ·have d2:decide ((R.rs.length:Int)<=task)=true:=decide_eq_true h2
   rw[if_pos (.inr h2)]
   simp(disch:=first|exact zqz|fail)only[aN,d1,d2,k1,k2,hl,aj,ak,ag,af,simprocAttr]
  ·have d2:decide ((R.rs.length:Int)<=task)=false:=decide_eq_false h2
   rw[if_neg (fun q=>q.elim h1 h2)]
   by_cases h3:R.st=0
   ·have d3:(R.st != 0)=false:=by simp[h3]
    rw[if_pos h3]
    simp(disch:=first|exact zqz|fail)only[aN,d1,d2,d3,k1,k2,hl,aj,ak,ag,af,simprocAttr]
   ·have d3:(R.st != 0)=true:=by simp[h3]
    rw[if_neg h3]
    simp(disch:=first|exact zqz|fail)only[aN,d1,d2,d3,k1,k2,hl,aj,ak,ag,af,simprocAttr]
theorem HU {R:Rn}{task:Int}(h:pT R task=0):∃ (i:Nat) (t:RT),task=i/\R.rs[i]? = some t/\R.st=0:=by
 unfold pT at h
 split at h
 ·cases h
 ·rename_i h1
  rw[not_or] at h1
  split at h
  ·rename_i h2
   exact⟨task.toNat,R.rs[task.toNat]'(by omega),by omega,aaC _,h2⟩
  ·cases h
def nO (R:Rn)(task bL:Int):Int:=if pT R task=0 then (match R.rs[task.toNat]? with | some t=>if t.ph=2/\t.tr=bL then 0 else 8 | none=>0) else pT R task
theorem acR {H:Hp}{dx tx sx:AV}{xs:List AV}{R:Rn}(h:RV H dx xs tx sx R)(task bL:Int) :
  ∃ H',cK (.func (.func 109) [] []) [.agg (rv dx R.st tx sx),.int .i64 task,.int .i64 bL] H=some (.int .i64 (nO R task bL),H')/\Out [] H H':=by
 have c:=aZ H (rv dx R.st tx sx) 75 0
 have o1:=aG H (rv dx R.st tx sx) 75 0
 have aN:bx 75 (.agg (rv dx R.st tx sx)) H=some (H.next,al H (rv dx R.st tx sx) 75 0):=gh (by simp)
 have k0:aq (al H (rv dx R.st tx sx) 75 0) H.next 0 4=some (rv dx R.st tx sx):=c.aq 4 0 (by simp)
 have hm:=acw (h.ar o1) task
 have o2:=aG (al H (rv dx R.st tx sx) 75 0) (rv dx R.st tx sx) 75 0
 have c2:=c.out o2 (by simp)
 have bR:=o1.trans o2
 generalize al H (rv dx R.st tx sx) 75 0=H1 at *
 generalize al H1 (rv dx R.st tx sx) 75 0=H2 at *
 have k2:cellAt H2 H.next 2=some tx:=c2.cellAt rfl
 by_cases h0:pT R task=0
 ·obtain⟨i,t,rfl,ht,aA⟩:=HU h0
  have d0:(pT R (i:Int) != 0)=false:=by simp[h0]
  obtain⟨b,o,q1,q2,q3,q4,q5⟩:=(h.t.ar bR).at (by decide) (rf ht)
  have A9:=Yq t H2
  obtain⟨e0,e1,e2,e3⟩:=Bi t
  have o3:=aG H2 (ee t) 132 0
  refine⟨al H2 (ee t) 132 0,YP ?_,bR.trans o3⟩
  unfold KP nO
  rw[if_pos h0,acB,ht]
  simp only
  by_cases p1:t.ph=2
  ·have d1:(t.ph != 2)=false:=by simp[p1]
   by_cases p2:t.tr=bL
   ·have d2:(t.tr != bL)=false:=by simp[p2]
    rw[if_pos ⟨p1,p2⟩]
    simp(disch:=first|exact zqz|fail)only[aN,k0,hm,d0,k2,q1,q4,A9,e0,e1,d1,d2,aj,ak,ag,af,simprocAttr]
   ·have d2:(t.tr != bL)=true:=by simp[p2]
    rw[if_neg (fun q=>p2 q.2)]
    simp(disch:=first|exact zqz|fail)only[aN,k0,hm,d0,k2,q1,q4,A9,e0,e1,d1,d2,aj,ak,ag,af,simprocAttr]
  ·have d1:(t.ph != 2)=true:=by simp[p1]
   rw[if_neg (fun q=>p1 q.1)]
   simp(disch:=first|exact zqz|fail)only[aN,k0,hm,d0,k2,q1,q4,A9,e0,e1,d1,aj,ak,ag,af,simprocAttr]
 ·have d0:(pT R task != 0)=true:=by simp[h0]
  refine⟨H2,YP ?_,bR⟩
  unfold KP nO
  rw[if_neg h0]
  simp(disch:=first|exact zqz|fail)only[aN,k0,hm,d0,aj,ak,ag,af,simprocAttr]
theorem Ld {R:Rn}{task bL:Int}(h:nO R task bL=0):∃ (i:Nat) (t:RT),task=i/\R.rs[i]? = some t/\R.st=0/\t.ph=2/\t.tr=bL:=by
 unfold nO at h
 split at h
 ·rename_i h1
  obtain⟨i,t,rfl,ht,aA⟩:=HU h1
  rw[acB,ht] at h
  simp only at h
  split at h
  ·rename_i h2;exact⟨i,t,rfl,ht,aA,h2.1,h2.2⟩
  ·cases h
 ·rename_i h1;exact absurd h h1
theorem aug {H:Hp}{es:Nat}{x:AV}{l:List AV}(h:Rw H es x l):pL x x=true:=by
 cases h<;>simp[pL]
theorem oe {H:Hp}{es:Nat}{x:AV}{l:List AV}(h:Rw H es x l):same x x=true:=by
 cases h<;>simp[same,pL]
theorem adH (k:IntKind)(a:Int):same (.int k a) (.int k a)=true:=by cases k<;>simp[same,pL]
theorem aiR {t:Tk}{x:AV}(hx:bq x=true):∀ v∈aF t x,bq v=true:=by
 intro v hv
 simp only[aF,aa7,List.not_mem_nil,or_false] at hv
 rcases hv with rfl | rfl | rfl | rfl | rfl | rfl<;>first | rfl | exact hx
theorem RD.uE {H:Hp}{dx:AV}{xs:List AV}{ts:List Tk}(h:RD H dx xs ts):∀ v∈(List.zipWith aF ts xs).flatten,bq v=true:=by
 intro v hv
 obtain⟨c,hc,hv⟩:=aj2.1 hv
 obtain⟨i,hi⟩:=adR hc
 rw[aeG] at hi
 cases ht:ts[i]? with
 | none=>rw[ht] at hi;simp at hi
 | some t=>
  cases hx:xs[i]? with
  | none=>rw[ht,hx] at hi;simp at hi
  | some x=>
   rw[ht,hx] at hi
   simp only[adE] at hi
   subst hi
   exact aiR (h.jY i x t hx ht).one v hv
theorem apo (l:List RT):∀ v∈(fY l).flatten,bq v=true:=by
 intro v hv
 obtain⟨c,hc,hv⟩:=aj2.1 hv
 obtain⟨t,_,rfl⟩:=adD.1 hc
 simp only[ee,aa7,List.not_mem_nil,or_false] at hv
 rcases hv with rfl | rfl | rfl | rfl<;>rfl
theorem QT {ts:List Tk}{xs:List AV}:∀ c∈List.zipWith aF ts xs,c.length=6:=by
 intro c hc
 obtain⟨i,hi⟩:=adR hc
 rw[aeG] at hi
 cases ht:ts[i]? with
 | none=>rw[ht] at hi;simp at hi
 | some t=>
  cases hx:xs[i]? with
  | none=>rw[ht,hx] at hi;simp at hi
  | some x=>
   rw[ht,hx] at hi
   simp only[adE] at hi
   subst hi;rfl
theorem NJ (l:List RT):∀ c∈fY l,c.length=4:=fun c hc=>by
 obtain⟨t,_,rfl⟩:=adD.1 hc;rfl
theorem au8 {ts:List Tk}{xs:List AV}{i:Nat}{t:Tk}{x y:AV}(ht:ts[i]? = some t)(hx:xs[i]? = some x):(List.zipWith aF ts xs).set i ((aF t x).set 1 y)=List.zipWith aF ts (xs.set i y):=by
 apply ajs
 intro k
 rw[ah2,aeG,aeG,ah2]
 have bD:=(aaw.1 ht).1
 have eL:=(aaw.1 hx).1
 by_cases e:i=k
 ·subst e
  rw[if_pos rfl,if_pos rfl,if_pos eL,if_pos (by rw[agM];omega),ht];rfl
 ·rw[if_neg e,if_neg e]
theorem YT {ts:List Tk}{dx bP:AV}{P B:Nat}(hn:ts.length<=1000)(dh:∀ t∈ts,t.after.length<=1000):∀ (r:List Tk) (i:Nat) (H:Hp) (xk:List AV),i<=ts.length->ts.drop i=r->RD H dx xk ts->OL H 99 6 dx (List.zipWith aF ts xk)->cellAt H P 0=some dx->P<H.next->B<=H.next->P∉ah dx->(∀ x∈xk,∀ j∈ah x,j∉ah dx)->(∀ (m:Nat) (x:AV),m<i->xk[m]? = some x->∀ j∈ah x,B<=j)->
  ∃ KV H',(∀ iX:K.Fn 2,Iu JN GO cK iX (.ptr P 0) bP dx (.int .i64 (ts.length:Nat)) (.int .i64 (i:Nat)) H=iX (.ptr P 0) bP H')/\RD H' dx KV ts/\(∀ x∈KV,∀ j∈ah x,B<=j/\j∉ah dx)/\Out (ah dx) H H'
 | [],i,H,xk,hi,h,hR,hO,hP,OW,hB,AJ,hd,hb=>by
  obtain rfl:=drop_nil hi h
  refine⟨xk,H,fun iX => ?_,hR,fun x hx j hj=>⟨?_,hd x hx j hj⟩,Out.refl _ _⟩
  ·rw[YC]
   simp only[Ml,ez,ag,af,simprocAttr]
  ·obtain⟨m,hm⟩:=adR hx
   have:=(aaw.1 hm).1
   rw[hR.len] at this
   exact hb m x this hm j hj
 | t::r,i,H,xk,hi,h,hR,hO,hP,OW,hB,AJ,hd,hb=>by
  obtain⟨h1,h2,h3⟩:=eF h
  have ht:=aaO h2
  obtain⟨x,b,o,q0,q1,q2,q3,q4,q5,q6⟩:=hR.at h2
  have es:=eE h1 (by omega)
  have o1:=aG H (aF t x) 99 0
  have aA:=yp t x q1 H
  obtain⟨e0,e1,e2,e3,e4,e5⟩:=sw t x
  obtain⟨y,H2,y1,y2,y3,y4,y5⟩:=alC (q2.ar o1) (fun v hv=>by obtain⟨z,_,rfl⟩:=adD.1 hv;rfl) (by rw[lK];have:=dh t ht;omega)
  have o2:=o1.trans y3
  have gC:=o2.nx
  have gi:=hR.row.1.lt
  have Ep:=hO.out o2 (by simp)
  have hzi:(List.zipWith aF ts xk)[i]? = some (aF t x):=by rw[aeG,h2,q0]
  obtain⟨H3,w1,w2,w3,w4⟩:=Ep.fP (k:=1) hzi q3 y2.kC (by decide)
  rw[au8 h2 q0] at w2
  have hP1:cellAt (al H (aF t x) 99 0) P 0=some dx:=by rw[vM OW];exact hP
  have hP2:cellAt H2 P 0=some dx:=by rw[o2.cellAt OW (by simp)];exact hP
  have AA:cellAt H3 P 0=some dx:=by rw[w3.cellAt (by omega) AJ];exact hP2
  have axx:=(aaw.1 q0).1
  have ZN:∀ j∈ah y,j∉ah dx:=fun j hj z=>by have:=y4 j hj;rw[cu] at this;have:=gi j z;omega
  have hyb:∀ j∈ah y,B<=j:=fun j hj=>by have:=y4 j hj;rw[cu] at this;omega
  have ze:RD H3 dx (xk.set i y) ts:=by
   refine⟨by rw[adU];exact hR.len,w2.rl,fun m z u hz hu => ?_⟩
   rw[ah2] at hz
   split at hz
   ·rename_i e
    subst e
    cases hz
    rw[h2] at hu;cases hu
    exact y2.rw.out w3 ZN
   ·exact ((hR.jY m z u hz hu).ar o2).out w3 (hd z (aaO hz))
  obtain⟨KV,H',i1,i2,i3,i4⟩:=YT (bP:=bP) (P:=P) (B:=B) hn dh r (i+1) H3 (xk.set i y) h1 h3 ze w2 AA (by omega) (by omega) AJ (fun z hz=>by
   rcases agt hz with hz | rfl
   ·exact hd z hz
   ·exact ZN) (fun m z hm hz=>by
   rw[ah2] at hz
   split at hz
   ·cases hz
    exact hyb
   ·exact hb m z (by omega) hz)
  refine⟨KV,H',fun iX => ?_,i2,i3,((o2.mono fun j hj=>by cases hj).trans w3).trans i4⟩
  rw[YC]
  simp(disch:=first|exact zqz|fail)only[Ml,aU h1,q3,q5,aA,hP1,e1,y1,w1,hP2,ft (oe hR.row.1),es,i1,aj,ak,ag,af,simprocAttr]
structure RO (H:Hp)(dx:AV)(xs:List AV)(tx sx:AV)(R:Rn):Prop where
 v:RV H dx xs tx sx R
 t:OL H 132 4 tx (fY R.rs)
 s:Ow H 9 1 sx (strs R.sg)
 dt:∀ j∈ah tx,j∉lU dx xs/\j∉ah sx
 ds:∀ j∈ah sx,j∉lU dx xs
structure Sm (R:Rn):Prop where
 n:R.ts.length<=1000
 a:∀ t∈R.ts,t.after.length<=1000
 r:R.rs.length<=1000
 s:R.sg.length<=1000
theorem Bp {H:Hp}{dx tx sx:AV}{xs:List AV}{R:Rn}(h:RV H dx xs tx sx R)(hs:Sm R) :
  ∃ av a8 au ay H',cK (.func (.func 97) [] []) [.agg (rv dx R.st tx sx)] H=some (.agg (rv av R.st au ay),H')/\RO H' av a8 au ay R/\Out [] H H'/\∀ j∈nP av a8 au ay,H.next<=j:=by
 have aN:bx 75 (.agg (rv dx R.st tx sx)) H=some (H.next,al H (rv dx R.st tx sx) 75 0):=gh (by simp)
 have o1:=aG H (rv dx R.st tx sx) 75 0
 have c1:=aZ H (rv dx R.st tx sx) 75 0
 have n1:(al H (rv dx R.st tx sx) 75 0).next=H.next+1:=rfl
 generalize al H (rv dx R.st tx sx) 75 0=H1 at *
 have dJ:aC H1 [.ae,(.int .i64 0),.ae,.ae] 75 0=some (H.next+1,al H1 [.ae,(.int .i64 0),.ae,.ae] 75 0):=by rw[<-n1];exact gJ (by simp)
 have o2:=aG H1 [.ae,(.int .i64 0),.ae,.ae] 75 0
 have c2:=aZ H1 [.ae,(.int .i64 0),.ae,.ae] 75 0
 have n2:(al H1 [.ae,(.int .i64 0),.ae,.ae] 75 0).next=H.next+2:=by rw[cu,n1]
 rw[n1] at c2
 generalize bV:al H1 [.ae,(.int .i64 0),.ae,.ae] 75 0=H2 at *
 have bR:=o1.trans o2
 have kF:=c1.out o2 (by simp)
 have yB:=h.ar bR
 have k1:cellAt H2 H.next 0=some dx:=kF.cellAt rfl
 have kK:=yB.d
 have ng:(List.zipWith aF R.ts xs).flatten.length<=6000:=by
  rw[AG QT,agM]
  have:=hs.n
  have:min R.ts.length xs.length<=1000:=ahS (Nat.min_le_left _ _) hs.n
  omega
 obtain⟨av,H3,a1,a2,a3,a4,a5⟩:=avu kK.row.1 kK.uE (by omega)
 have pX:=kF.out a3 (by simp)
 have fE:bq av=true:=a2.kC
 obtain⟨H4,b1,b2,b3,b4⟩:=fP pX (by decide) (o:=0) (by simp) (v:=av) fE
 have Ef:(rv dx R.st tx sx).set 0 av=rv av R.st tx sx:=rfl
 rw[Ef] at b2
 have n3:=a3.nx
 have AJ:H.next∉ah av:=fun z=>by have:=a4 _ z;omega
 have HP:cellAt H4 H.next 0=some av:=b2.cellAt rfl
 have ze:=kK.ar a3
 have axP:=kK.lt
 have aqF:=h.d.lt
 have xR:RD H4 av xs R.ts:=⟨ze.len,(show OL H3 99 6 av (List.zipWith aF R.ts xs) from⟨a2,QT⟩).rl.out b3 (fun j hj=>by rw[No];intro e;subst e;exact AJ hj),fun m z u hz hu=>(ze.jY m z u hz hu).out b3 fun j hj=>by
  rw[No]
  have:=(h.d.jY m z u hz hu).lt j hj
  omega⟩
 have Rr:OL H4 99 6 av (List.zipWith aF R.ts xs):=(show OL H3 99 6 av (List.zipWith aF R.ts xs) from⟨a2,QT⟩).out b3 (fun j hj=>by rw[No];intro e;subst e;exact AJ hj)
 have gi:=xR.aK
 obtain⟨a8,H5,l1,l2,l3,l4⟩:=YT (bP := .ptr (H.next+1) 0) (P:=H.next) (B:=H.next+2) hs.n hs.a R.ts 0 H4 xs (ace _) abK xR Rr HP b2.1 (by omega) AJ (fun x hx j hj z=>by
  obtain⟨m,hm⟩:=adR hx
  have uJ:=(aaw.1 hm).1
  rw[h.d.len] at uJ
  have:=(h.d.jY m x _ hm (aaC uJ)).lt j hj
  have:=a4 j z
  omega) (fun m x hm=>by omega)
 rw[show (((0:Nat):Int))=0 from rfl] at l1
 have VV:=b2.out l4 AJ
 have n5:=l4.nx
 have axU:∀ {S:List Nat} {A B:Hp},Out S A B->True:=fun _=>trivial
 have Yj:Out (H.next::ah av) H2 H5:=((a3.mono (S':=H.next::ah av) fun j hj=>by cases hj).trans (b3.mono fun j hj=>by rw[No] at hj;subst hj;exact .head _)).trans (l4.mono fun j hj => .tail _ hj)
 have abl:∀ j,j<H.next->j∉H.next::ah av:=fun j hj z=>by
  rcases aa7.1 z with e | z
  ·omega
  ·have:=a4 j z;omega
 have ht5:RL H5 4 tx (fY R.rs):=yB.t.out Yj fun j hj=>abl j (h.t.1.lt j hj)
 have hs5:Rw H5 1 sx (strs R.sg):=yB.s.out Yj fun j hj=>abl j (h.s.lt j hj)
 have k2:cellAt H5 H.next 2=some tx:=VV.cellAt rfl
 obtain⟨au,H6,t1,t2,t3,t4,t5⟩:=alT ht5.1 (apo R.rs) (by rw[AG (NJ _),AZ];have:=hs.r;omega)
 have cP6:=VV.out t3 (by simp)
 obtain⟨H7,u1,u2,u3,u4⟩:=fP cP6 (by decide) (o:=2) (by simp) (v:=au) t2.kC
 have pG:(rv av R.st tx sx).set 2 au=rv av R.st au sx:=rfl
 rw[pG] at u2
 have n6:=t3.nx
 have k3:cellAt H7 H.next 3=some sx:=u2.cellAt rfl
 have J1:∀ j,H.next+2<=j\/j<H.next->j∉[H.next]:=fun j hj=>by rw[No];omega
 have hs7:Rw H7 1 sx (strs R.sg):=(hs5.ar t3).out u3 fun j hj=>J1 j (.inr (h.s.lt j hj))
 obtain⟨ay,H8,v1,v2,v3,v4,v5⟩:=acE hs7 (fun v hv=>by obtain⟨z,_,rfl⟩:=adD.1 hv;rfl) (by rw[gB];have:=hs.s;omega)
 have cP8:=u2.out v3 (by simp)
 obtain⟨H9,w1,w2,w3,w4⟩:=fP cP8 (by decide) (o:=3) (by simp) (v:=ay) v2.kC
 have Fy:(rv av R.st au sx).set 3 ay=rv av R.st au ay:=rfl
 rw[Fy] at w2
 have n8:=v3.nx
 have k4:aq H9 H.next 0 4=some (rv av R.st au ay):=w2.aq 4 0 (by simp)
 have hQd:H.next+1∉ah av:=fun z=>by have:=a4 _ z;omega
 have hQ:∀ S:List Nat,S=[H.next]->H.next+1∉S:=fun S e=>by rw[e,No];omega
 have cQ9:=(((((((c2.out a3 (by simp)).out b3 (hQ _ rfl)).out l4 hQd).out t3 (by simp)).out u3 (hQ _ rfl)).out v3 (by simp)).out w3 (hQ _ rfl))
 obtain⟨uL,z1,z2,z3,z4⟩:=gO (n:=4) (vs:=rv av R.st au ay) cQ9 rfl rfl (by simp[fE,t2.kC,v2.kC,jN])
 have k5:aq uL (H.next+1) 0 4=some (rv av R.st au ay):=z2.aq 4 0 (by simp)
 have hT6:OL H6 132 4 au (fY R.rs):=⟨t2,NJ _⟩
 have n7:=u3.nx
 have n9:=w3.nx
 have nf:∀ j,H.next+2<=j->j∉[H.next]/\j∉[H.next+1]:=fun j hj=>by rw[No,No];omega
 have fh:∀ j∈lU av a8,H.next+2<=j/\j<H5.next:=fun j hj=>⟨by
  rcases abN.1 hj with hj | hj
  ·have:=a4 j hj;omega
  ·obtain⟨x,hx,hj⟩:=ahi.1 hj
   exact (l3 x hx j hj).1,l2.lt j hj⟩
 have rI:∀ j∈ah au,H5.next<=j/\j<H6.next:=fun j hj=>⟨t4 j hj,t2.rw.lt j hj⟩
 have wk:∀ j∈ah ay,H7.next<=j:=v4
 have n45:H.next+2<=H5.next:=by omega
 have Wf:OL uL 132 4 au (fY R.rs):=(((hT6.out u3 fun j hj=>(nf j (by have:=rI j hj;omega)).1).out v3 (by simp)).out w3 fun j hj=>(nf j (by have:=rI j hj;omega)).1).out z3 fun j hj=>(nf j (by have:=rI j hj;omega)).2
 have aeD:Ow uL 9 1 ay (strs R.sg):=(v2.out w3 fun j hj=>(nf j (by have:=wk j hj;omega)).1).out z3 fun j hj=>(nf j (by have:=wk j hj;omega)).2
 have amA:RD uL av a8 R.ts:=((((l2.ar t3).out u3 fun j hj=>(nf j (fh j hj).1).1).ar v3).out w3 fun j hj=>(nf j (fh j hj).1).1).out z3 fun j hj=>(nf j (fh j hj).1).2
 have key:∀ {S:List Nat} {A B:Hp},Out [] H A->Out S A B->(∀ j∈S,H.next<=j)->Out [] H B:=fun h k hS=>h.then k fun j hj => .inr (hS j hj)
 have one:∀ (m:Nat),H.next<=m->∀ j∈[m],H.next<=j:=fun m hm j hj=>by rw[No] at hj;omega
 have out:Out [] H uL:=key (key (key (key (key (key (key (key bR a3 (fun j hj=>by cases hj)) b3 (one _ (aaU _))) l4 fun j hj=>by have:=a4 j hj;omega) t3 (fun j hj=>by cases hj)) u3 (one _ (aaU _))) v3 (fun j hj=>by cases hj)) w3 (one _ (aaU _))) z3 (one _ (ahU _))
 refine⟨av,a8,au,ay,uL,ajK ?_,⟨⟨amA,Wf.rl,aeD.rw⟩,Wf,aeD,fun j hj=>⟨fun z => ?_,fun z => ?_⟩,fun j hj z => ?_⟩,out,fun j hj => ?_⟩
 ·unfold QM
  simp(disch:=first|exact zqz|fail)only[aN,dJ,n1,bV,k1,a1,b1,HP,gi,l1,k2,t1,u1,k3,v1,w1,k4,z1,k5,aj,ak,ag,af,simprocAttr]
 ·have:=rI j hj;have:=fh j z;omega
 ·have:=rI j hj;have:=wk j z;omega
 ·have:=wk j hj;have:=fh j z;omega
 ·rcases abN.1 hj with hj | hj
  ·have:=fh j hj;omega
  ·rcases abN.1 hj with hj | hj
   ·have:=rI j hj;omega
   ·have:=wk j hj;omega
def zV (rs:List RT)(a:Int):Int:=((rs[a.toNat]?).map (·.ph)).getD 0
def cI (rs:List RT)(t:Tk):Bool:=t.after.any (fun a=>zV rs a != 3)
def Bz (rs:List RT)(sg:List ai)(t:Tk)(r:RT):Bool:=(r.ph==0)&&(!(cI rs t)&&((t.on==[])||sg.any (fun a=>t.on==a)))
def kU (rs:List RT)(sg:List ai)(t:Tk)(r:RT):RT:=if Bz rs sg t r then { r with ph:=1 } else r
def iH (R:Rn):Rn:={ R with rs:=List.zipWith (kU R.rs R.sg) R.ts R.rs,st:=if R.rs.all (fun r=>r.ph==3) then 1 else R.st }
theorem Pc (rs:List RT)(sg:List ai)(t:Tk)(r:RT):((kU rs sg t r).ph==3)=(r.ph==3):=by
 unfold kU
 split
 ·rename_i h
  unfold Bz at h
  rw[aaT,beq_iff_eq] at h
  rw[h.1];rfl
 ·rfl
theorem OP {α:Type}{p q:α->Bool}:∀ {l:List α},(∀ a∈l,p a=q a)->l.any p=l.any q
 | [],_=>rfl
 | a::l,h=>by rw[List.any_cons,List.any_cons,h a (.head _),OP fun b hb=>h b (.tail _ hb)]
theorem aq5 {H:Hp}{p G:Nat}{tx:AV}{rk:List RT}(hG:cellAt H G 0=some (.ptr p 0))(hC:cellAt H p 2=some tx)(hT:RL H 4 tx (fY rk)){a:Int}(h0:0<=a)(h1:a<rk.length) :
  cK (.func (.func 144) [] [.ptr G 0]) [.int .i64 a] H=some (.bool (zV rk a != 3),H):=by
 obtain⟨m,rfl⟩:∃ m:Nat,a=m:=⟨a.toNat,by omega⟩
 have hm:rk[m]? = some (rk[m]'(by omega)):=aaC _
 obtain⟨b,o,q1,q2,q3,q4,q5⟩:=hT.at (by decide) (rf hm)
 have e0:=q5 0 _ (Bi _).1
 rw[afF] at e0
 have hp:zV rk (m:Int)=(rk[m]'(by omega)).ph:=by unfold zV;rw[acB,hm];rfl
 refine alv ?_
 unfold Wb
 rw[hp]
 simp(disch:=first|exact zqz|fail)only[hG,hC,q1,e0,aj,ak,ag,af,simprocAttr]
theorem Lw (l:List RT)(i:Nat)(t:RT):(fY l).set i (ee t)=fY (l.set i t):=by simp[fY,List.map_set]
theorem Wm {ts:List Tk}{dx tx sx:AV}{xs:List AV}{st:Int}{p G:Nat}{sg:List ai}{eH:List RT}(hn:ts.length<=1000)(dh:∀ t∈ts,t.after.length<=1000)(y7:sg.length<=1000)(Ce:eH.length=ts.length)(ha:∀ t∈ts,∀ a∈t.after,0<=a/\a<(ts.length:Int))(y8:p∉ah tx)(YZ:G∉ah tx)(hd:∀ j∈ah tx,j∉lU dx xs/\j∉ah sx) :
  ∀ (r:List Tk) (i:Nat) (H:Hp) (rk:List RT) (all:Bool),i<=ts.length->ts.drop i=r->Cs H p (rv dx st tx sx) 75 0->cellAt H G 0=some (.ptr p 0)->G<H.next->RD H dx xs ts->OL H 132 4 tx (fY rk)->Rw H 1 sx (strs sg)->rk.length=ts.length->(∀ k,i<=k->rk[k]? = eH[k]?)->(∀ k,k<i->rk[k]? = (List.zipWith (kU eH sg) ts eH)[k]?)->
  ∃ H',(∀ aP:K.Fn 2,wU JN GO cK aP (.ptr G 0) (.bool all) dx (.int .i64 (ts.length:Nat)) (.int .i64 (i:Nat)) H=aP (.ptr G 0) (.bool (all&&(eH.drop i).all (fun r=>r.ph==3))) H')/\Cs H' p (rv dx st tx sx) 75 0/\cellAt H' G 0=some (.ptr p 0)/\OL H' 132 4 tx (fY (List.zipWith (kU eH sg) ts eH))/\Out (ah tx) H H'
 | [],i,H,rk,all,hi,h,hC,hG,Tj,hR,hO,hS,hl,h1,h2=>by
  obtain rfl:=drop_nil hi h
  have FU:rk=List.zipWith (kU eH sg) ts eH:=by
   apply ajs
   intro k
   by_cases hk:k<ts.length
   ·exact h2 k hk
   ·rw[ahX (by omega),ahX (by rw[agM];omega)]
  refine⟨H,fun aP => ?_,hC,hG,by rw[<-FU];exact hO,Out.refl _ _⟩
  rw[RS,aiv (by omega),List.all_nil,Bool.and_true]
  simp only[AL,ez,ag,af,simprocAttr]
 | t::r,i,H,rk,all,hi,h,hC,hG,Tj,hR,hO,hS,hl,h1,h2=>by
  obtain⟨g1,g2,g3⟩:=eF h
  have ht:=aaO g2
  obtain⟨x,b,o,q0,q1,q2,q3,q4,q5,q6⟩:=hR.at g2
  have es:=eE g1 (by omega)
  have aA:=yp t x q1 H
  obtain⟨e0,e1,e2,e3,e4,e5⟩:=sw t x
  have o1:=aG H (aF t x) 99 0
  have cT:=aZ H (aF t x) 99 0
  have yS:∀ H':Hp,Out [] H H'->cellAt H' G 0=some (.ptr p 0)/\cellAt H' p 2=some tx/\cellAt H' p 3=some sx:=fun H' k=>⟨by rw[k.cellAt Tj (by simp)];exact hG,(hC.out k (by simp)).cellAt rfl,(hC.out k (by simp)).cellAt rfl⟩
  obtain⟨H2,f1,f2⟩:=aoR (fv := .func (.func 144) [] [.ptr G 0]) (p:=fun a=>zV rk a != 3) (q2.ar o1) (by have:=dh t ht;omega) (fun H' k a hm=>by
   obtain⟨c1,c2,c3⟩:=yS H' (o1.trans k)
   exact⟨H',aq5 c1 c2 (hO.rl.ar (o1.trans k)) (ha t ht a hm).1 (by rw[hl];exact (ha t ht a hm).2),Out.refl _ _⟩)
  have o2:=o1.trans f2
  have gC:=o2.nx
  obtain⟨c1,c2,c3⟩:=yS H2 o2
  have cT2:=cT.out f2 (by simp)
  have k5:cellAt H2 H.next 5=some (.str t.on):=cT2.cellAt e5
  have kx:cellAt (al H (aF t x) 99 0) H.next 1=some x:=cT.cellAt e1
  have bD:i<eH.length:=by omega
  have B5:eH[i]? = some (eH[i]'bD):=aaC _
  have FU:rk[i]? = some (eH[i]'bD):=by rw[h1 i (aaU _),B5]
  have AQ:eH.drop i=(eH[i]'bD)::eH.drop (i+1):=(List.getElem_cons_drop bD).symm
  generalize eH[i]'bD=u at *
  obtain⟨b',o',p1,p2,p3,p4,p5⟩:=(hO.rl.ar o2).at (by decide) (rf FU)
  have u0:=p5 0 _ (Bi u).1
  rw[afF] at u0
  have KE:(t.after.any fun a=>zV rk a != 3)=cI eH t:=by
   unfold cI
   refine OP fun a hm => ?_
   obtain⟨a0,a1⟩:=ha t ht a hm
   unfold zV
   by_cases hk:a.toNat<i
   ·have hz:=h2 _ hk
    rw[aeG,aaC (show a.toNat<ts.length by omega),aaC (show a.toNat<eH.length by omega)] at hz
    rw[hz,aaC (show a.toNat<eH.length by omega)]
    simp only[ae6,ahb]
    have:=Pc eH sg (ts[a.toNat]'(by omega)) (eH[a.toNat]'(by omega))
    simp only[bne,this]
   ·rw[h1 _ (by omega)]
  rw[KE] at f1
  have hz:(List.zipWith (kU eH sg) ts eH)[i]? = some (kU eH sg t u):=by rw[aeG,g2,B5]
  have mA:=Va (hS.ar o2) (by omega) t.on
  rw[AQ,ajU]
  have fin:∀ (H3:Hp) (FH:List RT),Out (ah tx) H2 H3->OL H3 132 4 tx (fY FH)->FH.length=ts.length->(∀ k,k≠i->FH[k]? = rk[k]?)->FH[i]? = some (kU eH sg t u)->
    (∀ H':Hp,(∀ aP:K.Fn 2,wU JN GO cK aP (.ptr G 0) (.bool (all&&(u.ph==3))) dx (.int .i64 (ts.length:Nat)) (.int .i64 ((i+1:Nat):Int)) H3=aP (.ptr G 0) (.bool ((all&&(u.ph==3))&&(eH.drop (i+1)).all (fun r=>r.ph==3))) H')->(∀ b3 o3,ia 4 tx (.int .i64 (i:Nat))=some (.ptr b3 o3)->cellAt H3 b3 o3=some (.int .i64 (kU eH sg t u).ph))->cellAt H3 G 0=some (.ptr p 0)->cellAt H3 p 2=some tx->∀ aP:K.Fn 2,wU JN GO cK aP (.ptr G 0) (.bool all) dx (.int .i64 (ts.length:Nat)) (.int .i64 (i:Nat)) H=aP (.ptr G 0) (.bool ((all&&(u.ph==3))&&(eH.drop (i+1)).all (fun r=>r.ph==3))) H')->
    ∃ H',(∀ aP:K.Fn 2,wU JN GO cK aP (.ptr G 0) (.bool all) dx (.int .i64 (ts.length:Nat)) (.int .i64 (i:Nat)) H=aP (.ptr G 0) (.bool (all&&((u.ph==3)&&(eH.drop (i+1)).all (fun r=>r.ph==3)))) H')/\Cs H' p (rv dx st tx sx) 75 0/\cellAt H' G 0=some (.ptr p 0)/\OL H' 132 4 tx (fY (List.zipWith (kU eH sg) ts eH))/\Out (ah tx) H H':=by
   intro H3 FH k3 Hl BK aH Zf lr
   have o3:Out (ah tx) H H3:=(o2.mono fun j hj=>by cases hj).trans k3
   have z7:cellAt H3 G 0=some (.ptr p 0):=by rw[o3.cellAt Tj YZ];exact hG
   have IX:=hC.out o3 y8
   have Aj:=k3.nx
   obtain⟨H',i1,i2,i3,i4,i5⟩:=Wm hn dh y7 Ce ha y8 YZ hd r (i+1) H3 FH (all&&(u.ph==3)) g1 g3 IX z7 (by omega) (hR.out o3 fun j hj z=>(hd j z).1 hj) Hl (hS.out o3 fun j hj z=>(hd j z).2 hj) BK (fun k hk=>by rw[aH k (by omega)];exact h1 k (by omega)) (fun k hk=>by
    by_cases e:k=i
    ·subst e;rw[Zf,hz]
    ·rw[aH k e];exact h2 k (by omega))
   refine⟨H',fun aP => ?_,i2,i3,i4,o3.trans i5⟩
   rw[<-Bool.and_assoc]
   refine lr H' i1 (fun b3 o3' hb => ?_) z7 (IX.cellAt rfl) aP
   obtain⟨b4,o4,r1,r2,r3,r4,r5⟩:=Hl.rl.at (by decide) (rf Zf)
   have e4:=r1 .i64
   rw[hb] at e4
   cases e4
   have:=r5 0 _ (Bi (kU eH sg t u)).1
   rwa[afF] at this
  have nw:=Pc eH sg t u
  have ail:kU eH sg t u=u->(∀ H':Hp,(∀ aP:K.Fn 2,wU JN GO cK aP (.ptr G 0) (.bool (all&&(u.ph==3))) dx (.int .i64 (ts.length:Nat)) (.int .i64 ((i+1:Nat):Int)) H2=aP (.ptr G 0) (.bool ((all&&(u.ph==3))&&(eH.drop (i+1)).all (fun r=>r.ph==3))) H')->∀ aP:K.Fn 2,wU JN GO cK aP (.ptr G 0) (.bool all) dx (.int .i64 (ts.length:Nat)) (.int .i64 (i:Nat)) H=aP (.ptr G 0) (.bool ((all&&(u.ph==3))&&(eH.drop (i+1)).all (fun r=>r.ph==3))) H')->
    ∃ H',(∀ aP:K.Fn 2,wU JN GO cK aP (.ptr G 0) (.bool all) dx (.int .i64 (ts.length:Nat)) (.int .i64 (i:Nat)) H=aP (.ptr G 0) (.bool (all&&((u.ph==3)&&(eH.drop (i+1)).all (fun r=>r.ph==3)))) H')/\Cs H' p (rv dx st tx sx) 75 0/\cellAt H' G 0=some (.ptr p 0)/\OL H' 132 4 tx (fY (List.zipWith (kU eH sg) ts eH))/\Out (ah tx) H H':=by
   intro e lr
   exact fin H2 rk (Out.refl _ _) (hO.out o2 (by simp)) hl (fun k hk=>rfl) (by rw[FU,e]) fun H' z _ _ _=>lr H' z
  have d3:∀ z:Bool,(u.ph==3)=z->(u.ph==3)=z:=fun z h=>h
  by_cases hr:Bz eH sg t u=true
  ·have hs:kU eH sg t u={ u with ph:=1 }:=by unfold kU;rw[if_pos hr]
   obtain⟨H3,w1,w2,w3,w4⟩:=(hO.out o2 (by simp)).fP (k:=0) (v := .int .i64 1) (rf FU) p1 rfl (by decide)
   have e9:(ee u).set 0 (.int .i64 1)=ee { u with ph:=1 }:=rfl
   rw[e9,Lw] at w2
   rw[afF] at w1
   have kO:=(aaw.1 FU).1
   refine fin H3 (rk.set i { u with ph:=1 }) w3 w2 (by rw[adU];exact hl) (fun k hk=>by rw[aj5 (fun e=>hk e.symm)]) (by rw[ahC kO,hs]) fun H' z hb z7 IX aP => ?_
   have vQ:=hb b' o' (p1 .i64)
   rw[hs] at vQ
   have Zy:cellAt H3 b' o'=some (.int .i64 1):=vQ
   unfold Bz at hr
   simp only[aaT,aiy,aj7] at hr
   obtain⟨r1,r2,r3⟩:=hr
   have r0:u.ph=0:=by simpa using r1
   have r13:(u.ph==3)=false:=by rw[r0];rfl
   rw[r13,Bool.and_false] at z ⊢
   rw[RS]
   cases vE:(t.on==[]) with
   | true=>cases all<;>simp(disch:=first|exact zqz|fail)only[AL,aU g1,q3,q5,aA,kx,f1,c1,c2,c3,p1,u0,r1,r2,k5,vE,w1,z7,IX,Zy,es,z,aj,ak,ag,af,simprocAttr]
   | false=>
    have r3':=r3.resolve_left (by rw[vE];simp)
    rw[r3'] at mA
    cases all<;>simp(disch:=first|exact zqz|fail)only[AL,aU g1,q3,q5,aA,kx,f1,c1,c2,c3,p1,u0,r1,r2,k5,vE,mA,w1,z7,IX,Zy,es,z,aj,ak,ag,af,simprocAttr]
  ·have hs:kU eH sg t u=u:=by unfold kU;rw[if_neg hr]
   refine ail hs fun H' z aP => ?_
   rw[RS]
   unfold Bz at hr
   cases r1:(u.ph==0) with
   | false=>cases all<;>simp only[ac5,acL] at z ⊢ <;> simp(disch:=first|exact zqz|fail)only[AL,aU g1,q3,q5,aA,kx,f1,c1,c2,c3,p1,u0,r1,k5,es,z,aj,ak,ag,af,simprocAttr]
   | true=>
    cases r2:cI eH t with
    | true=>
     rw[r2] at f1
     cases all<;>simp only[ac5,acL] at z ⊢ <;> simp(disch:=first|exact zqz|fail)only[AL,aU g1,q3,q5,aA,kx,f1,c1,c2,c3,p1,u0,r1,r2,k5,es,z,aj,ak,ag,af,simprocAttr]
    | false=>
     rw[r2] at f1
     rw[r1,r2] at hr
     have vE:(t.on==[])=false:=by
      cases hq:(t.on==[]) with
      | false=>rfl
      | true=>rw[hq] at hr;simp at hr
     have hno:(sg.any fun a=>t.on==a)=false:=by
      rw[vE] at hr
      cases hq:(sg.any fun a=>t.on==a) with
      | false=>rfl
      | true=>rw[hq] at hr;simp at hr
     rw[hno] at mA
     cases all<;>simp only[ac5,acL] at z ⊢ <;> simp(disch:=first|exact zqz|fail)only[AL,aU g1,q3,q5,aA,kx,f1,c1,c2,c3,p1,u0,r1,r2,k5,vE,mA,es,z,aj,ak,ag,af,simprocAttr]
theorem Vh {H:Hp}{p:Nat}{dx tx sx:AV}{xs:List AV}{R:Rn}(hC:Cs H p (rv dx R.st tx sx) 75 0)(hO:RO H dx xs tx sx R)(hp:p∉nP dx xs tx sx)(hs:Sm R)(hl:R.rs.length=R.ts.length)(ha:∀ t∈R.ts,∀ a∈t.after,0<=a/\a<(R.ts.length:Int)) :
  ∃ H',cK (.func (.func 106) [] []) [.ptr p 0] H=some (.tuple [],H')/\Cs H' p (rv dx (iH R).st tx sx) 75 0/\RO H' dx xs tx sx (iH R)/\Out (p::ah tx) H H':=by
 have aN:bx 146 (.ptr p 0) H=some (H.next,al H [.ptr p 0] 146 0):=ID rfl
 have o1:=aG H [.ptr p 0] 146 0
 have y8:p∉ah tx:=fun z=>hp (abo _ (abD _ z))
 have Re:cellAt (al H [.ptr p 0] 146 0) H.next 0=some (.ptr p 0):=by rw[xu rfl];rfl
 have JC:=hC.out o1 (by simp)
 have k0:cellAt (al H [.ptr p 0] 146 0) p 0=some dx:=JC.cellAt rfl
 have yr:=hO.v.d.ar o1
 have gi:=yr.aK
 have Dt:=hO.v.t.1.lt
 obtain⟨H2,i1,i2,i3,i4,i5⟩:=Wm (G:=H.next) hs.n hs.a hs.s hl ha y8 (fun z=>by have:=Dt _ z;omega) hO.dt R.ts 0 (al H [.ptr p 0] 146 0) R.rs true (ace _) abK JC Re (by rw[cu];omega) yr (hO.t.out o1 (by simp)) (hO.s.rw.ar o1) hl (fun k _=>rfl) (fun k hk=>by omega)
 rw[abK,ac5,show (((0:Nat):Int))=0 from rfl] at i1
 have kK:=yr.out i5 fun j hj z=>(hO.dt j z).1 hj
 have Ah:=(hO.s.out o1 (by simp)).out i5 fun j hj z=>(hO.dt j z).2 hj
 have o2:Out (ah tx) H H2:=(o1.mono fun j hj=>by cases hj).trans i5
 cases lI:R.rs.all (fun r=>r.ph==3) with
 | true=>
  rw[lI] at i1
  obtain⟨H3,w1,w2,w3,w4⟩:=fP i2 (by decide) (o:=1) (by simp) (v := .int .i64 1) rfl
  have aA:(iH R).st=1:=by unfold iH;rw[lI];rfl
  have e9:(rv dx R.st tx sx).set 1 (.int .i64 1)=rv dx 1 tx sx:=rfl
  rw[e9] at w2
  have vX:∀ {x:AV},(∀ j∈ah x,j∈nP dx xs tx sx)->∀ j∈ah x,j∉[p]:=fun hx j hj=>by rw[No];intro e;subst e;exact hp (hx j hj)
  have NP:RD H3 dx xs R.ts:=kK.out w3 fun j hj=>by rw[No];intro e;subst e;exact hp (abD _ hj)
  have LU:=i4.out w3 (vX fun j hj=>abo _ (abD _ hj))
  have Fy:=Ah.out w3 (vX fun j hj=>abo _ (abo _ hj))
  refine⟨H3,VP ?_,by rw[aA];exact w2,⟨⟨NP,LU.rl,Fy.rw⟩,LU,Fy,hO.dt,hO.ds⟩,(o2.mono fun j hj => .tail _ hj).trans (w3.mono fun j hj=>by rw[No] at hj;subst hj;exact .head _)⟩
  unfold K9
  simp(disch:=first|exact zqz|fail)only[aN,Re,k0,gi,i1,i3,w1,aj,ak,ag,af,simprocAttr]
 | false=>
  rw[lI] at i1
  have aA:(iH R).st=R.st:=by unfold iH;rw[lI];rfl
  refine⟨H2,VP ?_,by rw[aA];exact i2,⟨⟨kK,i4.rl,Ah.rw⟩,i4,Ah,hO.dt,hO.ds⟩,o2.mono fun j hj => .tail _ hj⟩
  unfold K9
  simp(disch:=first|exact zqz|fail)only[aN,Re,k0,gi,i1,i3,aj,ak,ag,af,simprocAttr]
abbrev iU (n:Int):Int:=IntKind.wrap .i64 n
theorem RO.out {H H':Hp}{dx tx sx:AV}{xs:List AV}{R:Rn}{S:List Nat}(h:RO H dx xs tx sx R)(k:Out S H H')(hs:∀ j∈nP dx xs tx sx,j∉S):RO H' dx xs tx sx R:=
 ⟨h.v.out k hs,h.t.out k fun j hj=>hs j (abo _ (abD _ hj)),h.s.out k fun j hj=>hs j (abo _ (abo _ hj)),h.dt,h.ds⟩
theorem RO.ar {H H':Hp}{dx tx sx:AV}{xs:List AV}{R:Rn}(h:RO H dx xs tx sx R)(k:Out [] H H'):RO H' dx xs tx sx R:=h.out k fun _ _ q=>by cases q
theorem asu (t:RT):(ee t).all bq=true:=rfl
theorem RO.set {H:Hp}{dx tx sx:AV}{xs:List AV}{R:Rn}{i b o:Nat}(h:RO H dx xs tx sx R)(hi:i<R.rs.length)(oK:∀ kd,ia 4 tx (.int kd i)=some (.ptr b o))(t:RT) :
  ∃ H',st 4 (.ptr b o) (.agg (ee t)) H=some H'/\RO H' dx xs tx sx { R with rs:=R.rs.set i t }/\Out (ah tx) H H'/\H'.next=H.next:=by
 obtain⟨H',h1,h2,h3,h4⟩:=h.t.stN (vs:=ee t) (by rw[AZ];exact hi) oK (asu t) rfl (by decide)
 rw[Lw] at h2
 exact⟨H',h1,⟨⟨h.v.d.out h3 fun j hj z=>(h.dt j z).1 hj,h2.rl,h.v.s.out h3 fun j hj z=>(h.dt j z).2 hj⟩,h2,h.s.out h3 fun j hj z=>(h.dt j z).2 hj,h.dt,h.ds⟩,h3,h4⟩
theorem RD.at2 {H:Hp}{dx:AV}{xs:List AV}{ts:List Tk}(h:RD H dx xs ts){i:Nat}{t:Tk}(ht:ts[i]? = some t) :
  ∃ x b o,(∀ k,ia 6 dx (.int k i)=some (.ptr b o))/\b∈ah dx/\b<H.next/\bq x=true/\aq H b o 6=some (aF t x)/\∀ k v,(aF t x)[k]? = some v->cellAt H b (o+k)=some v:=by
 have hi:=(aaw.1 ht).1
 have hx:xs[i]? = some (xs[i]'(by rw[h.len];exact hi)):=aaC _
 have hw:=h.jY i _ t hx ht
 have hz:(List.zipWith aF ts xs)[i]? = some (aF t (xs[i]'(by rw[h.len];exact hi))):=by rw[aeG,ht,hx]
 obtain⟨b,o,h1,h2,h3,h4,h5⟩:=h.row.at (by decide) hz
 exact⟨_,b,o,h1,h2,h3,hw.one,h4,h5⟩
abbrev zR:List AV:=[.ae,.int .i64 0,.ae,.ae]
abbrev sj:Rn:=⟨[],0,[],[]⟩
theorem RO.zero (H:Hp):RO H .ae [] .ae .ae sj:=
 ⟨⟨RD.nil H,RL.nil H 4,.nil⟩,OL.nil H _ 4,.nil,fun j hj=>(by cases hj),fun j hj=>by cases hj⟩
structure mV (R:Rn):Prop where
 sm:Sm R
 len:R.rs.length=R.ts.length
 jY:∀ t∈R.ts,∀ a∈t.after,0<=a/\a<(R.ts.length:Int)
def nK (f:AV)(args:List AV)(H:Hp)(R:Rn)(e:Int):Prop:=
 ∃ dx xs tx sx H',cK f args H=some (.tuple [.agg (rv dx R.st tx sx),.int .i64 e],H')/\RO H' dx xs tx sx R/\Out [] H H'/\∀ j∈nP dx xs tx sx,H.next<=j
theorem nK.err {f:AV}{args:List AV}{H H1 H':Hp}{e:Int}{m:Nat}(h:cK f args H=some (.tuple [.agg zR,.int .i64 e],H'))(k:Out [] H H1)(k2:Out [m] H1 H')(hm:H.next<=m):nK f args H sj e:=
 ⟨.ae,[],.ae,.ae,H',h,RO.zero H',k.then k2 (fun j hj=>by rw[No] at hj;exact .inr (by omega)),fun j hj=>by cases hj⟩
theorem kf {n m:Nat}(h:n<=m):∀ j∈[m],n<=j:=fun j hj=>by rw[No] at hj;omega
theorem fD {H A B:Hp}{S:List Nat}(h:Out [] H A)(k:Out S A B)(hS:∀ j∈S,H.next<=j):Out [] H B:=h.then k fun j hj => .inr (hS j hj)
def pS (R:Rn)(task bL now:Int):Rn × Int:=
 if pT R task=0 then (match R.rs[task.toNat]?,R.ts[task.toNat]? with
  | some t,some d=>if t.ph=1 then (if bL=iU (t.tr+1) then ({ R with rs:=R.rs.set task.toNat ⟨2,bL,iU (now+d.wait),t.oV⟩ },0) else (sj,8)) else (sj,4)
  | _,_=>(sj,4)) else (sj,pT R task)
theorem aiH {H:Hp}{dx tx sx:AV}{xs:List AV}{R:Rn}(h:RV H dx xs tx sx R)(hk:mV R)(task bL now:Int) :
  nK (.func (.func 78) [] []) [.agg (rv dx R.st tx sx),.int .i64 task,.int .i64 bL,.int .i64 now] H (pS R task bL now).1 (pS R task bL now).2:=by
 have aN:bx 75 (.agg (rv dx R.st tx sx)) H=some (H.next,al H (rv dx R.st tx sx) 75 0):=gh (by simp)
 have o1:=aG H (rv dx R.st tx sx) 75 0
 have c1:=aZ H (rv dx R.st tx sx) 75 0
 have n1:(al H (rv dx R.st tx sx) 75 0).next=H.next+1:=rfl
 generalize al H (rv dx R.st tx sx) 75 0=H1 at *
 have o2:=aG H1 zR 75 0
 have c2:=aZ H1 zR 75 0
 have n2:(al H1 zR 75 0).next=H.next+2:=by rw[cu,n1]
 rw[n1] at c2
 generalize bV:al H1 zR 75 0=H2 at *
 have bR:=o1.trans o2
 have kF:=c1.out o2 (by simp)
 have k1:aq H2 H.next 0 4=some (rv dx R.st tx sx):=kF.aq 4 0 (by simp)
 have hm:=acw (h.ar bR) task
 have o3:=aG H2 (rv dx R.st tx sx) 75 0
 have n3:(al H2 (rv dx R.st tx sx) 75 0).next=H.next+3:=by rw[cu,n2]
 generalize al H2 (rv dx R.st tx sx) 75 0=H3 at *
 have fu:=bR.trans o3
 have pX:=kF.out o3 (by simp)
 have sR:=c2.out o3 (by simp)
 unfold pS
 by_cases h0:pT R task=0
 ·obtain⟨i,t,rfl,ht,aA⟩:=HU h0
  have bD:=(aaw.1 ht).1
  have hd:R.ts[i]? = some (R.ts[i]'(by rw[<-hk.len];exact bD)):=aaC _
  have d0:(pT R (i:Int) != 0)=false:=by simp[h0]
  rw[if_pos h0,acB,ht,hd]
  simp only
  generalize R.ts[i]'(by rw[<-hk.len];exact bD)=d at *
  have k2:cellAt H3 H.next 2=some tx:=pX.cellAt rfl
  obtain⟨b,o,q1,q2,q3,q4,q5⟩:=(h.t.ar fu).at (by decide) (rf ht)
  have A9:=Yq t H3
  rw[n3] at A9
  obtain⟨e0,e1,e2,e3⟩:=Bi t
  have o4:=aG H3 (ee t) 132 0
  have MF:=aZ H3 (ee t) 132 0
  rw[n3] at MF
  have n4:(al H3 (ee t) 132 0).next=H.next+4:=by rw[cu,n3]
  generalize al H3 (ee t) 132 0=H4 at *
  have hz4:aC H3 [(.int .i64 0),(.int .i64 0),(.int .i64 0),(.str [])] 132 0=some (H.next+3,al H3 [(.int .i64 0),(.int .i64 0),(.int .i64 0),(.str [])] 132 0):=by rw[<-n3];exact gJ (by simp)
  have gk:=fu.trans o4
  have Z9:=pX.out o4 (by simp)
  have O6:=sR.out o4 (by simp)
  have t0:cellAt H4 (H.next+3) 0=some (.int .i64 t.ph):=MF.cellAt e0
  have t1:cellAt H4 (H.next+3) 1=some (.int .i64 t.tr):=MF.cellAt e1
  by_cases h1:t.ph=1
  ·have d1:(t.ph != 1)=false:=by simp[h1]
   rw[if_pos h1]
   by_cases h2:bL=iU (t.tr+1)
   ·have d2:(bL != IntKind.wrap .i64 (t.tr+1))=false:=by simp[h2]
    rw[if_pos h2]
    have k4:aq H4 H.next 0 4=some (rv dx R.st tx sx):=Z9.aq 4 0 (by simp)
    obtain⟨av,a8,au,ay,H5,r1,r2,r3,r4⟩:=Bp (h.ar gk) hk.sm
    have n5:=r3.nx
    obtain⟨H6,s1,s2,s3,s4⟩:=gO (n:=4) (vs:=rv av R.st au ay) (Z9.out r3 (by simp)) rfl rfl (by simp[r2.v.d.row.one,r2.t.rl.one,r2.s.kC,jN])
    have fr:∀ m,m<H.next+4->∀ j∈nP av a8 au ay,j∉[m]:=fun m hm j hj=>by rw[No];have:=r4 j hj;omega
    have R6:=r2.out s3 (fr _ (by omega))
    obtain⟨x,b2,K7,p1,p2,p3,p4,p5,p6⟩:=R6.v.d.at2 hd
    have kw6:cellAt H6 b2 (K7+3)=some (.int .i64 d.wait):=p6 3 _ rfl
    have kd6:cellAt H6 H.next 0=some av:=s2.cellAt rfl
    have cT6:=(MF.out r3 (by simp)).out s3 (by rw[No];omega)
    have iP:b2≠H.next+3:=by have:=r4 b2 (abD _ (abD _ p2));omega
    obtain⟨H7,u1,u2,u3,u4⟩:=fP cT6 (by decide) (o:=0) (by rw[Mm];omega) (v := .int .i64 2) rfl
    obtain⟨H8,v1,v2,v3,v4⟩:=fP u2 (by decide) (o:=1) (by rw[adU,Mm];omega) (v := .int .i64 bL) rfl
    obtain⟨H9,w1,w2,w3,w4⟩:=fP v2 (by decide) (o:=2) (by rw[adU,adU,Mm];omega) (v := .int .i64 (iU (now+d.wait))) rfl
    have e9:(((ee t).set 0 (.int .i64 2)).set 1 (.int .i64 bL)).set 2 (.int .i64 (iU (now+d.wait)))=ee ⟨2,bL,iU (now+d.wait),t.oV⟩:=rfl
    rw[e9] at w2
    have kw7:cellAt H7 b2 (K7+3)=some (.int .i64 d.wait):=by rw[u3.cellAt p3 (by rw[No];exact iP)];exact kw6
    have kw8:cellAt H8 b2 (K7+3)=some (.int .i64 d.wait):=by rw[v3.cellAt (by omega) (by rw[No];exact iP)];exact kw7
    have He:H.next∉[H.next+3]:=by rw[No];omega
    have s7:=s2.out u3 He
    have s8:=s7.out v3 He
    have s9:=s8.out w3 He
    have kd7:cellAt H7 H.next 0=some av:=s7.cellAt rfl
    have kd8:cellAt H8 H.next 0=some av:=s8.cellAt rfl
    have kt9:cellAt H9 H.next 2=some au:=s9.cellAt rfl
    have kT9:aq H9 (H.next+3) 0 4=some (ee ⟨2,bL,iU (now+d.wait),t.oV⟩):=w2.aq 4 0 (by rw[Mm];omega)
    have R9:=((R6.out u3 (fr _ (by omega))).out v3 (fr _ (by omega))).out w3 (fr _ (by omega))
    obtain⟨b3,o3',y1,y2,y3,y4,y5⟩:=R9.v.t.at (by decide) (rf ht)
    obtain⟨uL,z1,z2,z3,z4⟩:=R9.set bD y1 ⟨2,bL,iU (now+d.wait),t.oV⟩
    have xI:∀ m,m<H.next+4->m∉ah au:=fun m hm z=>by have:=r4 m (abo _ (abD _ z));omega
    have s10:=s9.out z3 (xI _ (by omega))
    have avL:aq uL H.next 0 4=some (rv av R.st au ay):=s10.aq 4 0 (by simp)
    have hQ:∀ m,m≠H.next+1->H.next+1∉[m]:=fun m hm=>by rw[No];omega
    have ana:=((((((O6.out r3 (by simp)).out s3 (hQ _ (by omega))).out u3 (hQ _ (by omega))).out v3 (hQ _ (by omega))).out w3 (hQ _ (by omega))).out z3 (xI _ (by omega)))
    obtain⟨H11,g1,g2,g3,g4⟩:=gO (n:=4) (vs:=rv av R.st au ay) ana rfl rfl (by simp[r2.v.d.row.one,r2.t.rl.one,r2.s.kC,jN])
    have kQ:aq H11 (H.next+1) 0 4=some (rv av R.st au ay):=g2.aq 4 0 (by simp)
    have out:=fD (fD (fD (fD (fD (fD (gk.trans r3) s3 (kf (aaU _))) u3 (kf (by omega))) v3 (kf (by omega))) w3 (kf (by omega))) z3 (fun j hj=>by have:=r4 j (abo _ (abD _ hj));omega)) g3 (kf (by omega))
    refine⟨av,a8,au,ay,H11,Le ?_,z2.out g3 (fr _ (by omega)),out,fun j hj=>by have:=r4 j hj;omega⟩
    unfold F3
    simp(disch:=first|exact zqz|fail)only[aN,n1,bV,k1,hm,d0,k2,q1,q4,n3,A9,t0,t1,d1,d2,k4,r1,s1,kd6,p1,kw6,u1,v1,w1,kd7,kd8,kw7,kw8,ft (oe r2.v.d.row.1),ft (adH _ _),kt9,kT9,y1,z1,avL,g1,kQ,aj,ak,ag,af,simprocAttr]
   ·have d2:(bL != IntKind.wrap .i64 (t.tr+1))=true:=by simp[h2]
    rw[if_neg h2]
    obtain⟨H5,w1,w2,w3,w4⟩:=gO (n:=4) (vs:=zR) O6 rfl rfl rfl
    have k5:aq H5 (H.next+1) 0 4=some zR:=w2.aq 4 0 (by simp)
    refine nK.err (Le (?_:_=some (_,H5))) gk w3 (ahU _)
    unfold F3
    simp(disch:=first|exact zqz|fail)only[aN,n1,bV,k1,hm,d0,k2,q1,q4,n3,A9,t0,t1,d1,d2,w1,k5,aj,ak,ag,af,simprocAttr]
  ·have d1:(t.ph != 1)=true:=by simp[h1]
   rw[if_neg h1]
   obtain⟨H5,w1,w2,w3,w4⟩:=gO (n:=4) (vs:=zR) O6 rfl rfl rfl
   have k5:aq H5 (H.next+1) 0 4=some zR:=w2.aq 4 0 (by simp)
   refine nK.err (Le (?_:_=some (_,H5))) gk w3 (ahU _)
   unfold F3
   simp(disch:=first|exact zqz|fail)only[aN,n1,bV,k1,hm,d0,k2,q1,q4,n3,A9,t0,d1,w1,k5,aj,ak,ag,af,simprocAttr]
 ·have d0:(pT R task != 0)=true:=by simp[h0]
  rw[if_neg h0]
  obtain⟨H4,w1,w2,w3,w4⟩:=gO (n:=4) (vs:=zR) sR rfl rfl rfl
  have k5:aq H4 (H.next+1) 0 4=some zR:=w2.aq 4 0 (by simp)
  refine nK.err (Le (?_:_=some (_,H4))) fu w3 (ahU _)
  unfold F3
  simp(disch:=first|exact zqz|fail)only[aN,n1,bV,k1,hm,d0,w1,k5,aj,ak,ag,af,simprocAttr]
theorem an7 {H:Hp}{z:List AV}{el n s:Nat}(k j:IntKind)(hn:n<=1048576)(hl:n*z.length<=16777216):zK z el s (.int k n) (.int j n) H=some (.slice H.next 0 n n true s,al H (List.replicate n z).flatten el 0):=by
 unfold zK
 have hr:rep n z=(List.replicate n z).flatten:=by
  unfold rep
  rfl
 have hlen:(List.replicate n z).flatten.length=n*z.length:=by simp
 simp only
 rw[if_pos ⟨by omega,by omega,by omega⟩,acB,hr,gJ (by rw[hlen];omega)]
 rfl
abbrev od:RT:=⟨0,0,0,[]⟩
noncomputable def bA (ts:List Tk):Rn × Int:=if iF ts=0 then (iH ⟨ts,0,List.replicate ts.length od,[]⟩,0) else (sj,iF ts)
theorem Vj {H:Hp}{dx:AV}{xs:List AV}{ts:List Tk}(h:RD H dx xs ts)(hn:ts.length<=1000)(dh:∀ t∈ts,t.after.length<=1000) :
  nK (.func (.func 76) [] []) [dv dx] H (bA ts).1 (bA ts).2:=by
 have fE:=h.row.one
 have aN:bx 72 (.agg [dx]) H=some (H.next,al H [dx] 72 0):=gh (by simp)
 have o1:=aG H [dx] 72 0
 have c1:=aZ H [dx] 72 0
 have n1:(al H [dx] 72 0).next=H.next+1:=rfl
 generalize al H [dx] 72 0=H1 at *
 have o2:=aG H1 zR 75 0
 have c2:=aZ H1 zR 75 0
 have n2:(al H1 zR 75 0).next=H.next+2:=by rw[cu,n1]
 rw[n1] at c2
 generalize bV:al H1 zR 75 0=H2 at *
 have bR:=o1.trans o2
 have kF:=c1.out o2 (by simp)
 have k1:aq H2 H.next 0 1=some [dx]:=kF.aq 1 0 (by simp)
 obtain⟨H3,g1,o3⟩:=N7 (ts:=ts) (by omega) (fun t ht=>by have:=dh t ht;omega) (h.ar bR)
 have n3:=o3.nx
 have fu:=bR.trans o3
 have pX:=kF.out o3 (by simp)
 have sR:=c2.out o3 (by simp)
 unfold bA
 by_cases h0:iF ts=0
 ·rw[if_pos h0]
  have hq:1<=ts.length/\ts.length<=16/\wG ts:=by
   have h:=h0
   unfold iF at h
   split at h
   ·cases h
   ·rename_i h1
    split at h
    ·cases h
    ·split at h
     ·cases h
     ·split at h
      ·cases h
      ·split at h
       ·cases h
       ·rename_i h4
        have h1:=aiO.1 h1
        exact⟨h1.1,h1.2,LV (by simpa using h4)⟩
  rw[h0] at g1
  have k2:aq H3 H.next 0 1=some [dx]:=pX.aq 1 0 (by simp)
  have k3:cellAt H3 H.next 0=some dx:=pX.cellAt rfl
  have ze:=h.ar fu
  have gi:=ze.aK
  have ng:(List.replicate ts.length [(AV.int .i64 0),(.int .i64 0),(.int .i64 0),(.str [])]).flatten=(fY (List.replicate ts.length od)).flatten:=by
   simp[fY,ee]
  have AB:=an7 (H:=H3) (z:=[(.int .i64 0),(.int .i64 0),(.int .i64 0),(.str [])]) (el:=132) (s:=4) (n:=ts.length) .i64 .i64 (by omega) (by simp;omega)
  rw[ng] at AB
  have o4:=aG H3 (fY (List.replicate ts.length od)).flatten 132 0
  have cM:=aZ H3 (fY (List.replicate ts.length od)).flatten 132 0
  have n4:(al H3 (fY (List.replicate ts.length od)).flatten 132 0).next=H3.next+1:=rfl
  generalize al H3 (fY (List.replicate ts.length od)).flatten 132 0=H4 at *
  have abM:(fY (List.replicate ts.length od)).flatten.length=ts.length*4:=by rw[AG (NJ _),AZ,agw]
  have hT4:RL H4 4 (.slice H3.next 0 ts.length ts.length true 4) (fY (List.replicate ts.length od)):=⟨.mk cM.ro (by rw[abM]) (aaU _) (by rw[ac5,<-ah4,Nat.beq_eq];omega),NJ _⟩
  have hV4:RV H4 dx xs (.slice H3.next 0 ts.length ts.length true 4) .ae ⟨ts,0,List.replicate ts.length od,[]⟩:=⟨ze.ar o4,hT4,.nil⟩
  have ON:mV ⟨ts,0,List.replicate ts.length od,[]⟩:=⟨⟨hn,dh,by rw[agw];omega,by simp⟩,by simp,fun t ht a ha=>by
   obtain⟨i,hi⟩:=adR ht
   have:=(Bl hq.2.2 hi).1 a ha
   exact⟨this.1,by show a<(ts.length:Int);omega⟩⟩
  obtain⟨av,a8,au,ay,H5,r1,r2,r3,r4⟩:=Bp hV4 ON.sm
  have n5:=r3.nx
  have EK:cK (.func (.func 97) [] []) [.agg [dx,.int .i64 0,.slice H3.next 0 ts.length ts.length true 4,.ae]] H4=some (.agg (rv av 0 au ay),H5):=r1
  have o5:=aG H5 (rv av 0 au ay) 75 0
  have cA:=aZ H5 (rv av 0 au ay) 75 0
  have stA:st 4 (.ptr H5.next 0) (.agg (rv av 0 au ay)) (al H5 zR 75 0)=some (al H5 (rv av 0 au ay) 75 0):=iI (by simp[r2.v.d.row.one,r2.t.rl.one,r2.s.kC,jN]) rfl rfl (by decide) rfl
  have n6:(al H5 (rv av 0 au ay) 75 0).next=H5.next+1:=rfl
  have apu:aC H5 zR 75 0=some (H5.next,al H5 zR 75 0):=gJ (by simp)
  generalize hA6:al H5 (rv av 0 au ay) 75 0=H6 at *
  have Wu:=r2.v.lt
  obtain⟨H7,s1,s2,s3,s4⟩:=Vh (R:=⟨ts,0,List.replicate ts.length od,[]⟩) cA (r2.ar o5) (fun z=>by have:=Wu _ z;omega) ON.sm ON.len ON.jY
  have htx:∀ j∈H5.next::ah au,H4.next<=j:=fun j hj=>by
   rcases aa7.1 hj with rfl | hj
   ·exact n5
   ·exact r4 j (abo _ (abD _ hj))
  have hQ7:Cs H7 (H.next+1) zR 75 0:=(((sR.out o4 (by simp)).out r3 (by simp)).out o5 (by simp)).out s4 fun z=>by have:=htx _ z;omega
  generalize iH ⟨ts,0,List.replicate ts.length od,[]⟩=R7 at *
  have kA7:aq H7 H5.next 0 4=some (rv av R7.st au ay):=s2.aq 4 0 (by simp)
  obtain⟨H8,w1,w2,w3,w4⟩:=gO (n:=4) (vs:=rv av R7.st au ay) hQ7 rfl rfl (by simp[r2.v.d.row.one,r2.t.rl.one,r2.s.kC,jN])
  have kQ:aq H8 (H.next+1) 0 4=some (rv av R7.st au ay):=w2.aq 4 0 (by simp)
  have k4:aq H4 H.next 0 1=some [dx]:=(pX.out o4 (by simp)).aq 1 0 (by simp)
  have fl1:fl zR [(0,1,.agg [dx]),(2,1,.slice H3.next 0 ts.length ts.length true 4)]=some [dx,.int .i64 0,.slice H3.next 0 ts.length ts.length true 4,.ae]:=by
   rw[zI (l:=[dx]) (n:=1) rfl (by simp),zX rfl (by simp),rZ];rfl
  have smd:same (.agg [dx]) (.agg [dx])=true:=by
   show w6 _ _=true
   unfold w6
   rw[aug h.row.1];rfl
  have d0:((0:Int) != 0)=false:=rfl
  have out:=fD (fD (((fu.trans o4).trans r3).trans o5) s4 fun j hj=>by have:=htx j hj;omega) w3 (kf (ahU _))
  refine⟨av,a8,au,ay,H8,XZ ?_,s3.out w3 (fun j hj=>by rw[No];have:=r4 j hj;omega),out,fun j hj=>by have:=r4 j hj;omega⟩
  unfold LN
  simp(disch:=first|exact zqz|fail)only[aN,n1,bV,k1,g1,d0,k2,k3,gi,AB,fl1,EK,apu,stA,k4,ft smd,s1,kA7,w1,kQ,aj,ak,ag,af,simprocAttr]
 ·rw[if_neg h0]
  have d0:(iF ts != 0)=true:=by simp[h0]
  obtain⟨H4,w1,w2,w3,w4⟩:=gO (n:=4) (vs:=zR) sR rfl rfl rfl
  have k5:aq H4 (H.next+1) 0 4=some zR:=w2.aq 4 0 (by simp)
  refine nK.err (XZ (?_:_=some (_,H4))) fu w3 (ahU _)
  unfold LN
  simp(disch:=first|exact zqz|fail)only[aN,n1,bV,k1,g1,d0,w1,k5,aj,ak,ag,af,simprocAttr]
def rC (R:Rn)(task bL:Int)(data:ai):Rn × Int:=
 if nO R task bL=0 then (iH { R with rs:=R.rs.set task.toNat ⟨3,bL,0,data⟩ },0) else (sj,nO R task bL)
theorem mV.set {R:Rn}(h:mV R)(i:Nat)(t:RT):mV { R with rs:=R.rs.set i t }:=⟨⟨h.sm.n,h.sm.a,by rw[adU];exact h.sm.r,h.sm.s⟩,by rw[adU];exact h.len,h.jY⟩
theorem anB {H:Hp}{dx tx sx:AV}{xs:List AV}{R:Rn}(h:RV H dx xs tx sx R)(hk:mV R)(task bL:Int)(data:ai) :
  nK (.func (.func 79) [] []) [.agg (rv dx R.st tx sx),.int .i64 task,.int .i64 bL,.str data] H (rC R task bL data).1 (rC R task bL data).2:=by
 have aN:bx 75 (.agg (rv dx R.st tx sx)) H=some (H.next,al H (rv dx R.st tx sx) 75 0):=gh (by simp)
 have o1:=aG H (rv dx R.st tx sx) 75 0
 have c1:=aZ H (rv dx R.st tx sx) 75 0
 have n1:(al H (rv dx R.st tx sx) 75 0).next=H.next+1:=rfl
 generalize al H (rv dx R.st tx sx) 75 0=H1 at *
 have o2:=aG H1 zR 75 0
 have c2:=aZ H1 zR 75 0
 have n2:(al H1 zR 75 0).next=H.next+2:=by rw[cu,n1]
 rw[n1] at c2
 generalize bV:al H1 zR 75 0=H2 at *
 have bR:=o1.trans o2
 have kF:=c1.out o2 (by simp)
 have k1:aq H2 H.next 0 4=some (rv dx R.st tx sx):=kF.aq 4 0 (by simp)
 obtain⟨H3,hm,o3⟩:=acR (h.ar bR) task bL
 have n3:=o3.nx
 have fu:=bR.trans o3
 have pX:=kF.out o3 (by simp)
 have sR:=c2.out o3 (by simp)
 unfold rC
 by_cases h0:nO R task bL=0
 ·obtain⟨i,t,rfl,ht,aA,nw,Jz⟩:=Ld h0
  have bD:=(aaw.1 ht).1
  have d0:(nO R (i:Int) bL != 0)=false:=by simp[h0]
  rw[if_pos h0,acB]
  have k3:aq H3 H.next 0 4=some (rv dx R.st tx sx):=pX.aq 4 0 (by simp)
  obtain⟨av,a8,au,ay,H4,r1,r2,r3,r4⟩:=Bp (h.ar fu) hk.sm
  have n4:=r3.nx
  have uE:(rv av R.st au ay).all bq=true:=by simp[r2.v.d.row.one,r2.t.rl.one,r2.s.kC,jN]
  obtain⟨H5,s1,s2,s3,s4⟩:=gO (n:=4) (vs:=rv av R.st au ay) (pX.out r3 (by simp)) rfl rfl uE
  have fr:∀ m,m<H.next+2->∀ j∈nP av a8 au ay,j∉[m]:=fun m hm j hj=>by rw[No];have:=r4 j hj;omega
  have R5:=r2.out s3 (fr _ (by omega))
  have k5:cellAt H5 H.next 2=some au:=s2.cellAt rfl
  obtain⟨b,o,q1,q2,q3,q4,q5⟩:=R5.v.t.at (by decide) (rf ht)
  obtain⟨H6,z1,z2,z3,z4⟩:=R5.set bD q1 ⟨3,bL,0,data⟩
  have xI:∀ m,m<H.next+2->m∉ah au:=fun m hm z=>by have:=r4 m (abo _ (abD _ z));omega
  have s6:=s2.out z3 (xI _ (by omega))
  have gp:=hk.set i ⟨3,bL,0,data⟩
  obtain⟨H7,t1,t2,t3,t4⟩:=Vh (R:={ R with rs:=R.rs.set i ⟨3,bL,0,data⟩ }) s6 z2 (fun z=>by have:=r4 _ z;omega) gp.sm gp.len gp.jY
  have Ix:∀ m,m<H.next+2->m≠H.next->m∉H.next::ah au:=fun m hm aH z=>(aa7.1 z).elim aH (xI m hm)
  have Ik:=(((sR.out r3 (by simp)).out s3 (by rw[No];omega)).out z3 (xI _ (by omega))).out t4 (Ix _ (by omega) (by omega))
  generalize iH { R with rs:=R.rs.set i ⟨3,bL,0,data⟩ }=R7 at *
  have k7:aq H7 H.next 0 4=some (rv av R7.st au ay):=t2.aq 4 0 (by simp)
  obtain⟨H8,w1,w2,w3,w4⟩:=gO (n:=4) (vs:=rv av R7.st au ay) Ik rfl rfl (by simp[r2.v.d.row.one,r2.t.rl.one,r2.s.kC,jN])
  have k8:aq H8 (H.next+1) 0 4=some (rv av R7.st au ay):=w2.aq 4 0 (by simp)
  have z1':st 4 (.ptr b o) (.agg [.int .i64 3,.int .i64 bL,.int .i64 0,.str data]) H5=some H6:=z1
  have sI:∀ j∈ah au,H.next<=j:=fun j hj=>by have:=r4 j (abo _ (abD _ hj));omega
  have out:=fD (fD (fD (fD (fu.trans r3) s3 (kf (aaU _))) z3 sI) t4 (fun j hj=>(aa7.1 hj).elim (fun e=>by omega) (sI j))) w3 (kf (ahU _))
  refine⟨av,a8,au,ay,H8,Zc ?_,t3.out w3 (fr _ (by omega)),out,fun j hj=>by have:=r4 j hj;omega⟩
  unfold MG
  simp(disch:=first|exact zqz|fail)only[aN,n1,bV,k1,hm,d0,k3,r1,s1,k5,q1,z1',t1,k7,w1,k8,aj,ak,ag,af,simprocAttr]
 ·have d0:(nO R task bL != 0)=true:=by simp[h0]
  rw[if_neg h0]
  obtain⟨H4,w1,w2,w3,w4⟩:=gO (n:=4) (vs:=zR) sR rfl rfl rfl
  have k5:aq H4 (H.next+1) 0 4=some zR:=w2.aq 4 0 (by simp)
  refine nK.err (Zc (?_:_=some (_,H4))) fu w3 (ahU _)
  unfold MG
  simp(disch:=first|exact zqz|fail)only[aN,n1,bV,k1,hm,d0,w1,k5,aj,ak,ag,af,simprocAttr]
def BJ:Nat->Nat->Nat
 | 0,d=>d
 | n+1,d=>if d<64000 then BJ n (min (2*d) 64000) else d
def JW (base bL:Nat):Nat:=if base=0\/bL=0 then 0 else BJ (bL-1) (min base 64000)
theorem Kl (ty:Array TypeId)(x y:Int)(H:Hp):gS P .min ty [.int .i64 x,.int .i64 y] H=some (.int .i64 (if y<x then y else x),H):=aaK rfl (id rfl)
theorem abC:∀ (n d:Nat),d<=64000->BJ n d<=64000
 | 0,d,h=>h
 | n+1,d,h=>by
  unfold BJ
  split
  ·exact abC n _ (Nat.min_le_right _ _)
  ·exact h
theorem aq6 (b t:Nat):JW b t<=64000:=by
 unfold JW
 split
 ·omega
 ·exact abC _ _ (Nat.min_le_right _ _)
theorem XY {t:Nat}(ht:t<=1000000){H:Hp}(eQ:K.Fn 1):∀ (n d k:Nat),k+n=t->d<=64000->Jw JN GO cK eQ (.int .i64 (t:Nat)) (.int .i64 (d:Nat)) (.int .i64 (k:Nat)) H=eQ (.int .i64 (BJ n d:Nat)) H
 | 0,d,k,h,hd=>by
  obtain rfl:k=t:=by omega
  rw[XQ]
  simp only[Lq,ez,BJ,ag,af,simprocAttr]
 | n+1,d,k,h,hd=>by
  have h1:k<t:=by omega
  have es:=eE h1 (by omega)
  rw[XQ]
  unfold BJ
  by_cases h2:d<64000
  ·have d2:decide (((d:Nat):Int)<64000)=true:=decide_eq_true (by omega)
   have sh:Cl (.int .i64 ((d:Nat):Int)) (.int .u64 1)=some (.int .i64 ((2*d:Nat):Int)):=by
    have:=atj (k := .i64) (j := .u64) (a:=d) (b:=1)
    rw[show (((1:Nat):Int))=1 from rfl] at this
    rw[this,show min 1 IntKind.i64.bits=1 from rfl,Nat.pow_one,Nat.mul_comm,wrap_i64 (by omega) (by omega)]
   have hm:(if (64000:Int)<((2*d:Nat):Int) then (64000:Int) else ((2*d:Nat):Int))=((min (2*d) 64000:Nat):Int):=by
    split<;>omega
   have Hz:=Kl #[2,2] ((2*d:Nat):Int) 64000 H
   rw[hm] at Hz
   have ih:=XY ht (H:=H) eQ n (min (2*d) 64000) (k+1) (by omega) (Nat.min_le_right _ _)
   rw[if_pos h2]
   simp only[Lq,aU h1,d2,sh,Hz,es,ih,ag,af,simprocAttr]
  ·have d2:decide (((d:Nat):Int)<64000)=false:=decide_eq_false (by omega)
   rw[if_neg h2]
   simp only[Lq,aU h1,d2,ag,af,simprocAttr]
theorem aou {base t:Nat}(hb:base<=1000000)(ht:t<=1000000)(H:Hp):cK (.func (.func 145) [] []) [.int .i64 (base:Nat),.int .i64 (t:Nat)] H=some (.int .i64 (JW base t:Nat),H):=by
 refine amY ?_
 unfold Ya JW
 by_cases h0:base=0
 ·have d0:decide (((base:Nat):Int)<1)=true:=decide_eq_true (by omega)
  rw[if_pos (.inl h0)]
  simp only[d0,ag,af,simprocAttr]<;>rfl
 ·have d0:decide (((base:Nat):Int)<1)=false:=decide_eq_false (by omega)
  by_cases h1:t=0
  ·have d1:decide (((t:Nat):Int)<1)=true:=decide_eq_true (by omega)
   rw[if_pos (.inr h1)]
   simp only[d0,d1,ag,af,simprocAttr]<;>rfl
  ·have d1:decide (((t:Nat):Int)<1)=false:=decide_eq_false (by omega)
   rw[if_neg (fun q=>q.elim h0 h1)]
   have hm:(if (64000:Int)<((base:Nat):Int) then (64000:Int) else ((base:Nat):Int))=((min base 64000:Nat):Int):=by
    split<;>omega
   have Hz:=Kl #[2,2] ((base:Nat):Int) 64000 H
   rw[hm] at Hz
   have ih:=fun eQ=>XY ht (H:=H) eQ (t-1) (min base 64000) 1 (by omega) (Nat.min_le_right _ _)
   rw[show (((1:Nat):Int))=1 from rfl] at ih
   simp only[d0,d1,Hz,ih,ag,af,simprocAttr]
def dM (base tr:Int):Int:=(JW base.toNat tr.toNat:Nat)
def mP (R:Rn)(i:Nat)(t:RT)(d:Tk)(now:Int):Rn:=
 if t.tr<=d.cz then { R with rs:=R.rs.set i { t with ph:=5,gm:=iU (now+dM d.base t.tr) } } else { R with rs:=R.rs.set i { t with ph:=4,gm:=0 },st:=2 }
theorem RO.df {H H':Hp}{dx tx sx:AV}{xs:List AV}{R:Rn}{l:List RT}(h:RO H dx xs tx sx R)(hO:OL H' 132 4 tx (fY l))(k:Out (ah tx) H H'):RO H' dx xs tx sx { R with rs:=l }:=
 ⟨⟨h.v.d.out k fun j hj z=>(h.dt j z).1 hj,hO.rl,h.v.s.out k fun j hj z=>(h.dt j z).2 hj⟩,hO,h.s.out k fun j hj z=>(h.dt j z).2 hj,h.dt,h.ds⟩
theorem Yg {H:Hp}{p i:Nat}{dx tx sx:AV}{xs:List AV}{R:Rn}{t:RT}{d:Tk}(hC:Cs H p (rv dx R.st tx sx) 75 0)(hO:RO H dx xs tx sx R)(hp:p∉nP dx xs tx sx)(ht:R.rs[i]? = some t)(hd:R.ts[i]? = some d)(pI:0<=d.base)(hb:d.base<=1000000)(ht0:0<=t.tr)(ht1:t.tr<=1000000)(now:Int) :
  ∃ H',cK (.func (.func 107) [] []) [.ptr p 0,.int .i64 (i:Nat),.int .i64 now] H=some (.tuple [],H')/\Cs H' p (rv dx (mP R i t d now).st tx sx) 75 0/\RO H' dx xs tx sx (mP R i t d now)/\Out (p::ah tx) H H':=by
 have y8:p∉ah tx:=fun z=>hp (abo _ (abD _ z))
 obtain⟨x,b2,K7,p1,p2,p3,p4,p5,p6⟩:=hO.v.d.at2 hd
 have aA:=yp d x p4 H
 have o1:=aG H (aF d x) 99 0
 have cT:=aZ H (aF d x) 99 0
 have c2:cellAt H p 2=some tx:=hC.cellAt rfl
 have c0:cellAt H p 0=some dx:=hC.cellAt rfl
 obtain⟨b,o,q1,q2,q3,q4,q5⟩:=(hO.v.t.ar o1).at (by decide) (rf ht)
 have r1:cellAt (al H (aF d x) 99 0) b (o+1)=some (.int .i64 t.tr):=q5 1 _ (Bi t).2.1
 have m2:cellAt (al H (aF d x) 99 0) H.next 2=some (.int .i64 d.cz):=cT.cellAt (sw d x).2.2.1
 have m4:cellAt (al H (aF d x) 99 0) H.next 4=some (.int .i64 d.base):=cT.cellAt (sw d x).2.2.2.2.1
 have wB:=hO.ar o1
 have JC:=hC.out o1 (by simp)
 have bD:=(aaw.1 ht).1
 have FR:cK (.func (.func 145) [] []) [.int .i64 d.base,.int .i64 t.tr] (al H (aF d x) 99 0)=some (.int .i64 (dM d.base t.tr),al H (aF d x) 99 0):=by
  have:=aou (base:=d.base.toNat) (t:=t.tr.toNat) (by omega) (by omega) (al H (aF d x) 99 0)
  rw[show ((d.base.toNat:Nat):Int)=d.base by omega,show ((t.tr.toNat:Nat):Int)=t.tr by omega] at this
  exact this
 generalize hA:al H (aF d x) 99 0=H1 at *
 have two:∀ (a c:Int),∃ H3 H2,st 1 (.ptr b o) (.int .i64 a) H1=some H2/\st 1 (.ptr b (o+2)) (.int .i64 c) H2=some H3/\OL H3 132 4 tx (fY (R.rs.set i { t with ph:=a,gm:=c }))/\Out (ah tx) H1 H3:=by
  intro a c
  obtain⟨H2,w1,w2,w3,w4⟩:=wB.t.fP (k:=0) (v := .int .i64 a) (rf ht) q1 rfl (by decide)
  have e2:((fY R.rs).set i ((ee t).set 0 (.int .i64 a)))[i]? = some ((ee t).set 0 (.int .i64 a)):=ahC (by rw[AZ];exact bD)
  obtain⟨H3,v1,v2,v3,v4⟩:=w2.fP (k:=2) (v := .int .i64 c) e2 q1 rfl (by decide)
  rw[List.set_set] at v2
  have e9:((ee t).set 0 (.int .i64 a)).set 2 (.int .i64 c)=ee { t with ph:=a,gm:=c }:=rfl
  rw[e9,Lw] at v2
  rw[afF] at w1
  exact⟨H3,H2,w1,v1,v2,w3.trans v3⟩
 unfold mP
 by_cases hle:t.tr<=d.cz
 ·have dl:decide (t.tr<=d.cz)=true:=decide_eq_true hle
  obtain⟨H3,H2,v1,v2,v3,v4⟩:=two 5 (iU (now+dM d.base t.tr))
  rw[if_pos hle]
  refine⟨H3,XL ?_,JC.out v4 y8,wB.df v3 v4,(o1.mono fun j hj=>by cases hj).trans (v4.mono fun j hj => .tail _ hj)⟩
  unfold Nx
  simp(disch:=first|exact zqz|fail)only[c2,c0,q1,p1,p5,aA,hA,r1,m2,m4,dl,FR,v1,v2,aj,ak,ag,af,simprocAttr]
 ·have dl:decide (t.tr<=d.cz)=false:=decide_eq_false hle
  obtain⟨H3,H2,v1,v2,v3,v4⟩:=two 4 0
  rw[if_neg hle]
  obtain⟨H4,w1,w2,w3,w4⟩:=fP (JC.out v4 y8) (by decide) (o:=1) (by simp) (v := .int .i64 2) rfl
  have e9:(rv dx R.st tx sx).set 1 (.int .i64 2)=rv dx 2 tx sx:=rfl
  rw[e9] at w2
  have xR:=(wB.df v3 v4).out w3 fun j hj=>by rw[No];intro e;subst e;exact hp hj
  refine⟨H4,XL ?_,w2,⟨⟨xR.v.d,xR.v.t,xR.v.s⟩,xR.t,xR.s,xR.dt,xR.ds⟩,((o1.mono fun j hj=>by cases hj).trans (v4.mono fun j hj => .tail _ hj)).trans (w3.mono fun j hj=>by rw[No] at hj;subst hj;exact .head _)⟩
  unfold Nx
  simp(disch:=first|exact zqz|fail)only[c2,c0,q1,p1,p5,aA,hA,r1,m2,m4,dl,v1,v2,w1,aj,ak,ag,af,simprocAttr]
structure vu (R:Rn):Prop where
 d:∀ t∈R.ts,0<=t.base/\t.base<=1000000
 t:∀ t∈R.rs,0<=t.tr/\t.tr<=1000000
def yn (R:Rn)(task bL now:Int):Rn × Int:=
 if nO R task bL=0 then (match R.rs[task.toNat]?,R.ts[task.toNat]? with
  | some t,some d=>(mP R task.toNat t d now,0)
  | _,_=>(sj,0)) else (sj,nO R task bL)
theorem aq0 {H:Hp}{dx tx sx:AV}{xs:List AV}{R:Rn}(h:RV H dx xs tx sx R)(hk:mV R)(hb:vu R)(task bL now:Int) :
  nK (.func (.func 80) [] []) [.agg (rv dx R.st tx sx),.int .i64 task,.int .i64 bL,.int .i64 now] H (yn R task bL now).1 (yn R task bL now).2:=by
 have aN:bx 75 (.agg (rv dx R.st tx sx)) H=some (H.next,al H (rv dx R.st tx sx) 75 0):=gh (by simp)
 have o1:=aG H (rv dx R.st tx sx) 75 0
 have c1:=aZ H (rv dx R.st tx sx) 75 0
 have n1:(al H (rv dx R.st tx sx) 75 0).next=H.next+1:=rfl
 generalize al H (rv dx R.st tx sx) 75 0=H1 at *
 have o2:=aG H1 zR 75 0
 have c2:=aZ H1 zR 75 0
 have n2:(al H1 zR 75 0).next=H.next+2:=by rw[cu,n1]
 rw[n1] at c2
 generalize bV:al H1 zR 75 0=H2 at *
 have bR:=o1.trans o2
 have kF:=c1.out o2 (by simp)
 have k1:aq H2 H.next 0 4=some (rv dx R.st tx sx):=kF.aq 4 0 (by simp)
 obtain⟨H3,hm,o3⟩:=acR (h.ar bR) task bL
 have n3:=o3.nx
 have fu:=bR.trans o3
 have pX:=kF.out o3 (by simp)
 have sR:=c2.out o3 (by simp)
 unfold yn
 by_cases h0:nO R task bL=0
 ·obtain⟨i,t,rfl,ht,aA,nw,Jz⟩:=Ld h0
  have bD:=(aaw.1 ht).1
  have hd:R.ts[i]? = some (R.ts[i]'(by rw[<-hk.len];exact bD)):=aaC _
  have d0:(nO R (i:Int) bL != 0)=false:=by simp[h0]
  rw[if_pos h0,acB,ht,hd]
  simp only
  generalize R.ts[i]'(by rw[<-hk.len];exact bD)=d at *
  have k3:aq H3 H.next 0 4=some (rv dx R.st tx sx):=pX.aq 4 0 (by simp)
  obtain⟨av,a8,au,ay,H4,r1,r2,r3,r4⟩:=Bp (h.ar fu) hk.sm
  have n4:=r3.nx
  have uE:∀ z:Int,(rv av z au ay).all bq=true:=fun z=>by simp[r2.v.d.row.one,r2.t.rl.one,r2.s.kC,jN]
  obtain⟨H5,s1,s2,s3,s4⟩:=gO (n:=4) (vs:=rv av R.st au ay) (pX.out r3 (by simp)) rfl rfl (uE _)
  have fr:∀ m,m<H.next+2->∀ j∈nP av a8 au ay,j∉[m]:=fun m hm j hj=>by rw[No];have:=r4 j hj;omega
  have R5:=r2.out s3 (fr _ (by omega))
  have xI:∀ m,m<H.next+2->m∉ah au:=fun m hm z=>by have:=r4 m (abo _ (abD _ z));omega
  have b1:=hb.d d (aaO hd)
  have b2:=hb.t t (aaO ht)
  obtain⟨H7,t1,t2,t3,t4⟩:=Yg s2 R5 (fun z=>by have:=r4 _ z;omega) ht hd b1.1 b1.2 b2.1 b2.2 now
  have Ix:∀ m,m<H.next+2->m≠H.next->m∉H.next::ah au:=fun m hm aH z=>(aa7.1 z).elim aH (xI m hm)
  have Ik:=((sR.out r3 (by simp)).out s3 (by rw[No];omega)).out t4 (Ix _ (by omega) (by omega))
  generalize mP R i t d now=R7 at *
  have k7:aq H7 H.next 0 4=some (rv av R7.st au ay):=t2.aq 4 0 (by simp)
  obtain⟨H8,w1,w2,w3,w4⟩:=gO (n:=4) (vs:=rv av R7.st au ay) Ik rfl rfl (uE _)
  have k8:aq H8 (H.next+1) 0 4=some (rv av R7.st au ay):=w2.aq 4 0 (by simp)
  have sI:∀ j∈ah au,H.next<=j:=fun j hj=>by have:=r4 j (abo _ (abD _ hj));omega
  have out:=fD (fD (fD (fu.trans r3) s3 (kf (aaU _))) t4 (fun j hj=>(aa7.1 hj).elim (fun e=>by omega) (sI j))) w3 (kf (ahU _))
  refine⟨av,a8,au,ay,H8,acD ?_,t3.out w3 (fr _ (by omega)),out,fun j hj=>by have:=r4 j hj;omega⟩
  unfold Qp
  simp(disch:=first|exact zqz|fail)only[aN,n1,bV,k1,hm,d0,k3,r1,s1,t1,k7,w1,k8,aj,ak,ag,af,simprocAttr]
 ·have d0:(nO R task bL != 0)=true:=by simp[h0]
  rw[if_neg h0]
  obtain⟨H4,w1,w2,w3,w4⟩:=gO (n:=4) (vs:=zR) sR rfl rfl rfl
  have k5:aq H4 (H.next+1) 0 4=some zR:=w2.aq 4 0 (by simp)
  refine nK.err (acD (?_:_=some (_,H4))) fu w3 (ahU _)
  unfold Qp
  simp(disch:=first|exact zqz|fail)only[aN,n1,bV,k1,hm,d0,w1,k5,aj,ak,ag,af,simprocAttr]
theorem ajH {H:Hp}{g:Nat}{name:ai}(hg:cellAt H g 0=some (.str name))(zb:g<H.next)(t:Tk)(x:AV) :
  ∃ H',cK (.func (.func 110) [] [.ptr g 0]) [.agg (aF t x)] H=some (.bool ((t.on==name)&&!(name==[])),H')/\Out [] H H':=by
 have b1:=uk t x H
 have o1:=aG H (aF t x) 99 0
 have c1:=aZ H (aF t x) 99 0
 have AK:cellAt (al H (aF t x) 99 0) g 0=some (.str name):=by rw[vM zb];exact hg
 have k5:=c1.cellAt (sw t x).2.2.2.2.2
 generalize hA:al H (aF t x) 99 0=H1 at *
 refine⟨H1,apP ?_,o1⟩
 unfold XE
 cases h1:(t.on==name) with
 | false=>simp(disch:=first|exact zqz|fail)only[b1,hA,AK,k5,h1,acL,aj,ak,ag,af,simprocAttr]
 | true=>
  cases h2:(name==[]) with
  | false=>simp(disch:=first|exact zqz|fail)only[b1,hA,AK,k5,h1,h2,ac5,aj,ak,ag,af,simprocAttr]
  | true=>simp(disch:=first|exact zqz|fail)only[b1,hA,AK,k5,h1,h2,ac5,aj,ak,ag,af,simprocAttr]
def Nq (name:ai)(c:List AV):Bool:=match c[5]? with | some (AV.str s)=>(s==name)&&!(name==[]) | _=>false
def Km (ts:List Tk)(name:ai):Bool:=ts.any fun t=>(t.on==name)&&!(name==[])
def sZ (R:Rn)(name:ai):Rn × Int:=
 if R.st≠0 then (sj,9) else if R.sg.any (fun s=>name==s) then (sj,5) else if Km R.ts name then (iH { R with sg:=R.sg++[name] },0) else (sj,1)
theorem apV {ts:List Tk}{name:ai}:∀ {xs:List AV},xs.length=ts.length->(List.zipWith aF ts xs).any (Nq name)=Km ts name:=by
 induction ts with
 | nil=>intro xs _;rfl
 | cons t ts ih=>
  intro xs h
  cases xs with
  | nil=>simp at h
  | cons x xs=>
   simp only[aa1,Nat.add_right_cancel_iff] at h
   show (Nq name (aF t x)||(List.zipWith aF ts xs).any (Nq name))=_
   rw[ih h]
   rfl
theorem atr {H:Hp}{dx tx sx:AV}{xs:List AV}{R:Rn}(h:RV H dx xs tx sx R)(hk:mV R)(y7:R.sg.length<=900)(name:ai) :
  nK (.func (.func 81) [] []) [.agg (rv dx R.st tx sx),.str name] H (sZ R name).1 (sZ R name).2:=by
 have aN:bx 75 (.agg (rv dx R.st tx sx)) H=some (H.next,al H (rv dx R.st tx sx) 75 0):=gh (by simp)
 have o1:=aG H (rv dx R.st tx sx) 75 0
 have c1:=aZ H (rv dx R.st tx sx) 75 0
 have n1:(al H (rv dx R.st tx sx) 75 0).next=H.next+1:=rfl
 generalize bW:al H (rv dx R.st tx sx) 75 0=H1 at *
 have oS:=aG H1 [.str name] 9 0
 have cS:=aZ H1 [.str name] 9 0
 have nS:(al H1 [.str name] 9 0).next=H.next+2:=by rw[cu,n1]
 rw[n1] at cS
 generalize hAS:al H1 [.str name] 9 0=HS at *
 have o2:=aG HS zR 75 0
 have c2:=aZ HS zR 75 0
 have n2:(al HS zR 75 0).next=H.next+3:=by rw[cu,nS]
 rw[nS] at c2
 generalize bV:al HS zR 75 0=H2 at *
 have bR:=(o1.trans oS).trans o2
 have kF:=(c1.out oS (by simp)).out o2 (by simp)
 have cS2:=cS.out o2 (by simp)
 have k0:cellAt H2 H.next 0=some dx:=kF.cellAt rfl
 have k1:cellAt H2 H.next 1=some (.int .i64 R.st):=kF.cellAt rfl
 have k3:cellAt H2 H.next 3=some sx:=kF.cellAt rfl
 have kS:cellAt H2 (H.next+1) 0=some (.str name):=cS2.cellAt rfl
 unfold sZ
 by_cases h0:R.st≠0
 ·have d0:(R.st != 0)=true:=by simp[h0]
  rw[if_pos h0]
  have k5:aq H2 (H.next+2) 0 4=some zR:=c2.aq 4 0 (by simp)
  refine nK.err (m:=H.next+2) (Mj (?_:_=some (_,H2))) bR ((Out.refl [] H2).mono fun j hj=>by cases hj) (by omega)
  unfold El
  simp(disch:=first|exact zqz|fail)only[aN,bW,n1,hAS,nS,bV,k1,d0,k5,aj,ak,ag,af,simprocAttr]
 have d0:(R.st != 0)=false:=by simpa using h0
 rw[if_neg h0]
 have mA:=Va (h.s.ar bR) (by omega) name
 cases h5:R.sg.any (fun s=>name==s) with
 | true=>
  rw[h5] at mA
  rw[if_pos rfl]
  obtain⟨H4,w1,w2,w3,w4⟩:=gO (n:=4) (vs:=zR) c2 rfl rfl rfl
  have k5:aq H4 (H.next+2) 0 4=some zR:=w2.aq 4 0 (by simp)
  refine nK.err (Mj (?_:_=some (_,H4))) bR w3 (by omega)
  unfold El
  simp(disch:=first|exact zqz|fail)only[aN,bW,n1,hAS,nS,bV,k1,d0,k3,kS,mA,w1,k5,aj,ak,ag,af,simprocAttr]
 | false=>
  rw[h5] at mA
  rw[if_neg (by simp)]
  have p9:(List.zipWith aF R.ts xs).length<=1000:=by rw[agM];exact ahS (Nat.min_le_left _ _) hk.sm.n
  obtain⟨H3,f1,f2⟩:=adI (fv := .func (.func 110) [] [.ptr (H.next+1) 0]) (p:=Nq name) (h.d.row.ar bR) (by omega) (fun H' k a ha=>by
   obtain⟨i,hi⟩:=adR ha
   rw[aeG] at hi
   cases ht:R.ts[i]? with
   | none=>rw[ht] at hi;simp at hi
   | some t=>
    cases hx:xs[i]? with
    | none=>rw[ht,hx] at hi;simp at hi
    | some x=>
     rw[ht,hx] at hi
     simp only[adE] at hi
     subst hi
     have qe:=k.nx
     exact ajH (g:=H.next+1) (by rw[k.cellAt (by omega) (by simp)];exact kS) (by omega) t x)
  rw[apV h.d.len] at f1
  have fu:=bR.trans f2
  have n3:=f2.nx
  have pX:=kF.out f2 (by simp)
  have cS3:=cS2.out f2 (by simp)
  have sR:=c2.out f2 (by simp)
  cases h6:Km R.ts name with
  | false=>
   rw[h6] at f1
   rw[if_neg (by simp)]
   obtain⟨H4,w1,w2,w3,w4⟩:=gO (n:=4) (vs:=zR) sR rfl rfl rfl
   have k5:aq H4 (H.next+2) 0 4=some zR:=w2.aq 4 0 (by simp)
   refine nK.err (Mj (?_:_=some (_,H4))) fu w3 (by omega)
   unfold El
   simp(disch:=first|exact zqz|fail)only[aN,bW,n1,hAS,nS,bV,k1,d0,k3,kS,mA,k0,f1,w1,k5,aj,ak,ag,af,simprocAttr]
  | true=>
   rw[h6] at f1
   rw[if_pos rfl]
   have k4:aq H3 H.next 0 4=some (rv dx R.st tx sx):=pX.aq 4 0 (by simp)
   obtain⟨av,a8,au,ay,H4,r1,r2,r3,r4⟩:=Bp (h.ar fu) hk.sm
   have n4:=r3.nx
   have uE:∀ z:Int,∀ s:AV,bq s=true->(rv av z au s).all bq=true:=fun z s hs=>by simp[r2.v.d.row.one,r2.t.rl.one,hs,jN]
   obtain⟨H5,s1,s2,s3,s4⟩:=gO (n:=4) (vs:=rv av R.st au ay) (pX.out r3 (by simp)) rfl rfl (uE _ _ r2.s.kC)
   have fr:∀ m,m<H.next+3->∀ j∈nP av a8 au ay,j∉[m]:=fun m hm j hj=>by rw[No];have:=r4 j hj;omega
   have R5:=r2.out s3 (fr _ (by omega))
   have tM:cellAt H5 H.next 3=some ay:=s2.cellAt rfl
   have kS5:cellAt H5 (H.next+1) 0=some (.str name):=((cS3.out r3 (by simp)).out s3 (by rw[No];omega)).cellAt rfl
   have Wu:=R5.v.lt
   have n5:=s3.nx
   have W8:∀ m,m<H.next+3->m∉ah ay:=fun m hm z=>by have:=r4 m (abo _ (abo _ z));omega
   obtain⟨yF,H6,p1,p2,p3,p4,p5⟩:=uB (fM:=9) (z:=[(.str [])]) (vs:=[.str name]) R5.s rfl rfl (by decide) (by rw[gB];simp;omega)
   have qR:strs R.sg++[.str name]=strs (R.sg++[name]):=by simp[strs]
   rw[qR] at p2
   have iu:=p1 _ rfl
   have n6:=p3.nx
   have s6:=s2.out p3 (W8 _ (by omega))
   obtain⟨H7,v1,v2,v3,v4⟩:=Am.K.fP s6 (by decide) (o:=3) (by simp) (v:=yF) p5
   have e9:(rv av R.st au ay).set 3 yF=rv av R.st au yF:=rfl
   rw[e9] at v2
   have n7:=v3.nx
   have pG:∀ j∈ah yF,j∈ah ay\/H5.next<=j:=p4
   have DX:∀ j∈nP av a8 au yF,H.next+3<=j:=fun j hj=>by
    rcases abN.1 hj with hj | hj
    ·have:=r4 j (abD _ hj);omega
    ·rcases abN.1 hj with hj | hj
     ·have:=r4 j (abo _ (abD _ hj));omega
     ·rcases pG j hj with z | z
      ·have:=r4 j (abo _ (abo _ z));omega
      ·omega
   have J1:∀ j,H.next+3<=j->j∉[H.next]:=fun j hj=>by rw[No];omega
   have RO7:RO H7 av a8 au yF { R with sg:=R.sg++[name] }:=by
    have hd6:=(R5.v.d.out p3 fun j hj z=>R5.ds j z hj).out v3 fun j hj=>J1 j (DX j (abD _ hj))
    have Zk:=(R5.t.out p3 fun j hj z=>(R5.dt j hj).2 z).out v3 fun j hj=>J1 j (DX j (abo _ (abD _ hj)))
    have hs6:=p2.out v3 fun j hj=>J1 j (DX j (abo _ (abo _ hj)))
    refine⟨⟨hd6,Zk.rl,hs6.rw⟩,Zk,hs6,fun j hj=>⟨(R5.dt j hj).1,fun z => ?_⟩,fun j hj z => ?_⟩
    ·rcases pG j z with y | y
     ·exact (R5.dt j hj).2 y
     ·have:=R5.t.rl.1.lt j hj;omega
    ·rcases pG j hj with y | y
     ·exact R5.ds j y z
     ·have:=R5.v.d.lt j z;omega
   have gp:mV { R with sg:=R.sg++[name] }:=⟨⟨hk.sm.n,hk.sm.a,hk.sm.r,by show (R.sg++[name]).length<=1000;rw[abj];simp;omega⟩,hk.len,hk.jY⟩
   obtain⟨H8,t1,t2,t3,t4⟩:=Vh (R:={ R with sg:=R.sg++[name] }) v2 RO7 (fun z=>by have:=DX _ z;omega) gp.sm gp.len gp.jY
   have MP:∀ j∈ah au,H.next+3<=j:=fun j hj=>by have:=r4 j (abo _ (abD _ hj));omega
   have cQ8:=((((sR.out r3 (by simp)).out s3 (by rw[No];omega)).out p3 (W8 _ (by omega))).out v3 (by rw[No];omega)).out t4 fun z=>(aa7.1 z).elim (fun e=>by omega) fun z=>by have:=MP _ z;omega
   generalize iH { R with sg:=R.sg++[name] }=R8 at *
   have k8:aq H8 H.next 0 4=some (rv av R8.st au yF):=t2.aq 4 0 (by simp)
   obtain⟨H9,w1,w2,w3,w4⟩:=gO (n:=4) (vs:=rv av R8.st au yF) cQ8 rfl rfl (uE _ _ p5)
   have k9:aq H9 (H.next+2) 0 4=some (rv av R8.st au yF):=w2.aq 4 0 (by simp)
   have out:=fD (fD (fD (fD (fD (fu.trans r3) s3 (kf (aaU _))) p3 (fun j hj=>by have:=r4 j (abo _ (abo _ hj));omega)) v3 (kf (aaU _))) t4 (fun j hj=>(aa7.1 hj).elim (fun e=>by omega) fun z=>by have:=MP _ z;omega)) w3 (kf (by omega))
   refine⟨av,a8,au,yF,H9,Mj ?_,t3.out w3 (fun j hj=>by rw[No];have:=DX j hj;omega),out,fun j hj=>by have:=DX j hj;omega⟩
   unfold El
   simp(disch:=first|exact zqz|fail)only[aN,bW,n1,hAS,nS,bV,k1,d0,k3,kS,mA,k0,f1,k4,r1,s1,tM,kS5,iu,v1,t1,k8,w1,k9,aj,ak,ag,af,simprocAttr]
def zj (H:Hp)(i:Nat)(s:List Nat)(pos:Nat):Prop:=i<H.next/\H.h.get i=some (.tW s pos)
def DF (H:Hp)(s:List Nat):Hp:=⟨H.h.put 34 H.next (.tW s 0),H.next+1⟩
theorem Zl {t:TypeId}(hu:P.underlying t=some .string)(s:List Nat)(H:Hp):zH P t (.str s) H=some (.ptr H.next 0,DF H s):=by
 unfold zH
 rw[hu];rfl
theorem adb (H:Hp)(s:List Nat):zj (DF H s) H.next s 0:=⟨ah3 _,by show (Tr.put 34 H.h H.next _).get H.next=_;rw[Tr.put,Tr.fH,if_pos rfl]⟩
theorem Y8 (H:Hp)(s:List Nat):Out [] H (DF H s):=⟨ahU _,fun j hj _=>by show (Tr.put 34 H.h H.next _).get j=_;rw[Tr.put,Tr.fH,if_neg (by omega)]⟩
theorem zj.out {H H':Hp}{i pos:Nat}{s:List Nat}{S:List Nat}(h:zj H i s pos)(k:Out S H H')(hi:i∉S):zj H' i s pos:=⟨aew h.1 k.1,by rw[k.2 i h.1 hi];exact h.2⟩
theorem Xo {H:Hp}{i pos b:Nat}{s:List Nat}(h:zj H i s pos)(hb:s[pos]? = some b)(h7:b<128) :
  ∃ H',ye (.ptr i 0) true H=some (.tuple [.bool true,.int .i64 (pos:Nat),.int .i32 (b:Nat)],H')/\zj H' i s (pos+1)/\Out [i] H H'/\H'.next=H.next:=by
 have hl:=(aaw.1 hb).1
 have hd:s.drop pos=b::s.drop (pos+1):=by
  rw[aik hl]
  rw[aaC hl] at hb
  cases hb;rfl
 refine⟨Am.setObj H i (.tW s (pos+1)),?_,⟨h.1,by rw[M6,if_pos rfl]⟩,⟨aaU _,fun j _ hn=>by rw[M6,if_neg (by simpa using hn)]⟩,rfl⟩
 have h8:Nat.blt b 128=true:=by rw[ae2];exact h7
 unfold ye
 simp only[h.2,hd,h8,cond_true]
theorem V0 {H:Hp}{i pos:Nat}{s:List Nat}(h:zj H i s pos)(hp:s.length<=pos):ye (.ptr i 0) true H=some (.tuple [.bool false],H):=by
 have hd:s.drop pos=[]:=aiv hp
 unfold ye
 simp only[h.2,hd]
structure Ev where
 kd:Int
 rn:Int
 tk:Int
 ty:Int
 n:Int
 nm:ai
 ky:ai
 dt:ai
def aV (e:Ev):List AV:=[.int .i64 e.kd,.int .i64 e.rn,.int .i64 e.tk,.int .i64 e.ty,.int .i64 e.n,.str e.nm,.str e.ky,.str e.dt]
def fieldsM (k:Int):ai:=
 if k=1 then [77,68] else if k=2 then [82,77,75] else if k=3\/k=5 then [82,84,89] else if k=4 then [82,84,89,68] else if k=6\/k=9 then [78] else if k=7 then [82,77] else if k=8 then [82] else []
def nc (n a b:Int):Bool:=decide (a<=n)&&decide (n<=b)
noncomputable def uv (e:Ev)(c:Nat):Bool:=
 if c=82 then nc e.rn 1 64 else if c=84 then nc e.tk 0 15 else if c=89 then nc e.ty 1 9 else if c=78 then nc e.n 1 (if e.kd=9 then 1048575 else 1099511627776)
 else if c=77 then tP e.nm else if c=75 then decide (e.ky.length<=16) else if e.kd=1 then decide (e.dt.length<=900) else decide (e.dt.length<=64)
def Hv (e x:Ev)(c:Nat):Ev:=
 if c=82 then { x with rn:=e.rn } else if c=84 then { x with tk:=e.tk } else if c=89 then { x with ty:=e.ty } else if c=78 then { x with n:=e.n }
 else if c=77 then { x with nm:=e.nm } else if c=75 then { x with ky:=e.ky } else if c=68 then { x with dt:=e.dt } else x
def yR (k:Int):Ev:=⟨k,0,0,0,0,[],[],[]⟩
def Di (e:Ev)(l:ai):Ev:=l.foldl (Hv e) (yR e.kd)
def Nk (a b:Ev):Bool:=(a.kd==b.kd)&&((a.rn==b.rn)&&((a.tk==b.tk)&&((a.ty==b.ty)&&((a.n==b.n)&&((a.nm==b.nm)&&((a.ky==b.ky)&&(a.dt==b.dt)))))))
noncomputable def yH (e:Ev):Bool := !(fieldsM e.kd==[])&&(Nk (Di e (fieldsM e.kd)) e&&(fieldsM e.kd).all (uv e))
theorem qa (e:Ev):(aV e).length=8:=rfl
theorem WA (e:Ev):(aV e)[0]? = some (.int .i64 e.kd)/\(aV e)[1]? = some (.int .i64 e.rn)/\(aV e)[2]? = some (.int .i64 e.tk)/\(aV e)[3]? = some (.int .i64 e.ty)/\(aV e)[4]? = some (.int .i64 e.n)/\(aV e)[5]? = some (.str e.nm)/\(aV e)[6]? = some (.str e.ky)/\(aV e)[7]? = some (.str e.dt):=⟨rfl,rfl,rfl,rfl,rfl,rfl,rfl,rfl⟩
theorem Rg (k:Int)(H:Hp):cK (.func (.func 48) [] []) [.int .i64 k] H=some (.str (fieldsM k),H):=by
 refine awA ?_
 unfold Z1 fieldsM
 by_cases h1:k=1
 ·subst h1;simp only[ag,af,simprocAttr,↓reduceIte]
 have b1:(k==1)=false:=by simp[h1]
 by_cases h2:k=2
 ·subst h2;simp only[b1,ag,af,simprocAttr]<;>rfl
 have b2:(k==2)=false:=by simp[h2]
 by_cases h3:k=3
 ·subst h3;simp only[b1,b2,ag,af,simprocAttr]<;>rfl
 have b3:(k==3)=false:=by simp[h3]
 by_cases h5:k=5
 ·subst h5;simp only[b1,b2,b3,ag,af,simprocAttr]<;>rfl
 have b5:(k==5)=false:=by simp[h5]
 by_cases h4:k=4
 ·subst h4;simp only[b1,b2,b3,b5,ag,af,simprocAttr]<;>rfl
 have b4:(k==4)=false:=by simp[h4]
 by_cases h6:k=6
 ·subst h6;simp only[b1,b2,b3,b5,b4,ag,af,simprocAttr]<;>rfl
 have b6:(k==6)=false:=by simp[h6]
 by_cases h9:k=9
 ·subst h9;simp only[b1,b2,b3,b5,b4,b6,ag,af,simprocAttr]<;>rfl
 have b9:(k==9)=false:=by simp[h9]
 by_cases h7:k=7
 ·subst h7;simp only[b1,b2,b3,b5,b4,b6,b9,ag,af,simprocAttr]<;>rfl
 have b7:(k==7)=false:=by simp[h7]
 by_cases h8:k=8
 ·subst h8;simp only[b1,b2,b3,b5,b4,b6,b9,b7,ag,af,simprocAttr]<;>rfl
 have b8:(k==8)=false:=by simp[h8]
 simp only[b1,b2,b3,b5,b4,b6,b9,b7,b8,h1,h2,h3,h4,h5,h6,h7,h8,h9,or_self,↓reduceIte,ag,af,simprocAttr]
theorem R1 (n a b:Int)(H:Hp):cK (.func (.func 87) [] []) [.int .i64 n,.int .i64 a,.int .i64 b] H=some (.bool (nc n a b),H):=by
 refine ako ?_
 unfold adj nc
 by_cases h1:a<=n
 ·simp(disch:=first|exact zqz|fail)only[h1,ac5,aj,ak,ag,af,simprocAttr]
 ·simp(disch:=first|exact zqz|fail)only[h1,acL,aj,ak,ag,af,simprocAttr]
theorem aj1 (e:Ev)(c:Nat)(H:Hp):∃ H',cK (.func (.func 52) [] []) [.agg (aV e),.int .i32 (c:Nat)] H=some (.bool (uv e c),H')/\Out [] H H':=by
 have aN:bx 26 (.agg (aV e)) H=some (H.next,al H (aV e) 26 0):=gh (by rw[qa];omega)
 have o1:=aG H (aV e) 26 0
 have c1:=aZ H (aV e) 26 0
 generalize al H (aV e) 26 0=H1 at *
 obtain⟨e0,e1,e2,e3,e4,e5,e6,e7⟩:=WA e
 have k0:=c1.cellAt e0
 have k1:=c1.cellAt e1
 have k2:=c1.cellAt e2
 have k3:=c1.cellAt e3
 have k4:=c1.cellAt e4
 have k5:=c1.cellAt e5
 have k6:=c1.cellAt e6
 have k7:=c1.cellAt e7
 have hd:∀ n:Nat,c≠n->(((c:Nat):Int)==(n:Nat))=false:=fun n hn=>by rw[beq_eq_false_iff_ne];omega
 refine⟨H1,aqy ?_,o1⟩
 unfold RC uv
 by_cases h1:c=82
 ·subst h1;simp(disch:=first|exact zqz|fail)only[aN,k1,R1,↓reduceIte,agD,aj,ak,ag,af,simprocAttr]
 have b1:(((c:Nat):Int)==82)=false:=hd 82 h1
 rw[if_neg h1]
 by_cases h2:c=84
 ·subst h2;simp(disch:=first|exact zqz|fail)only[aN,k2,R1,↓reduceIte,agD,aj,ak,ag,af,simprocAttr]
 have b2:(((c:Nat):Int)==84)=false:=hd 84 h2
 rw[if_neg h2]
 by_cases h3:c=89
 ·subst h3;simp(disch:=first|exact zqz|fail)only[aN,k3,R1,↓reduceIte,agD,aj,ak,ag,af,simprocAttr]
 have b3:(((c:Nat):Int)==89)=false:=hd 89 h3
 rw[if_neg h3]
 by_cases h4:c=78
 ·subst h4
  rw[if_pos rfl]
  by_cases hk:e.kd=9
  ·have bk:(e.kd==9)=true:=by simp[hk]
   rw[if_pos hk]
   unfold nc
   by_cases hn:1<=e.n
   ·simp(disch:=first|exact zqz|fail)only[aN,k0,k4,bk,hn,ac5,agD,aj,ak,ag,af,simprocAttr]
   ·simp(disch:=first|exact zqz|fail)only[aN,k0,k4,bk,hn,acL,agD,aj,ak,ag,af,simprocAttr]
  ·have bk:(e.kd==9)=false:=by simp[hk]
   rw[if_neg hk]
   unfold nc
   by_cases hn:1<=e.n
   ·simp(disch:=first|exact zqz|fail)only[aN,k0,k4,bk,hn,ac5,agD,aj,ak,ag,af,simprocAttr]
   ·simp(disch:=first|exact zqz|fail)only[aN,k0,k4,bk,hn,acL,agD,aj,ak,ag,af,simprocAttr]
 have b4:(((c:Nat):Int)==78)=false:=hd 78 h4
 rw[if_neg h4]
 by_cases h5:c=77
 ·subst h5;simp(disch:=first|exact zqz|fail)only[aN,k5,JS,↓reduceIte,agD,aj,ak,ag,af,simprocAttr]
 have b5:(((c:Nat):Int)==77)=false:=hd 77 h5
 rw[if_neg h5]
 have hle:∀ (a n:Nat),decide (((a:Nat):Int)<=((n:Nat):Int))=decide (a<=n):=fun a n=>by simp
 by_cases h6:c=75
 ·subst h6
  have:=hle e.ky.length 16
  rw[show (((16:Nat):Int))=16 from rfl] at this
  simp(disch:=first|exact zqz|fail)only[aN,k6,this,↓reduceIte,agD,aj,ak,ag,af,simprocAttr]
 have b6:(((c:Nat):Int)==75)=false:=hd 75 h6
 rw[if_neg h6]
 by_cases h7:e.kd=1
 ·have b7:(e.kd==1)=true:=by simp[h7]
  have:=hle e.dt.length 900
  rw[show (((900:Nat):Int))=900 from rfl] at this
  rw[if_pos h7]
  simp(disch:=first|exact zqz|fail)only[aN,k0,k7,b1,b2,b3,b4,b5,b6,b7,this,aj,ak,ag,af,simprocAttr]
 ·have b7:(e.kd==1)=false:=by simp[h7]
  have:=hle e.dt.length 64
  rw[show (((64:Nat):Int))=64 from rfl] at this
  rw[if_neg h7]
  simp(disch:=first|exact zqz|fail)only[aN,k0,k7,b1,b2,b3,b4,b5,b6,b7,this,aj,ak,ag,af,simprocAttr]
theorem VJ {e:Ev}{E X it:Nat}{l:ai}{y:AV}(hl:∀ c∈l,c<128)(h1:E≠X)(h2:E≠it)(h3:X≠it):∀ (r:ai) (i:Nat) (H:Hp) (x:Ev),l.drop i=r->zj H it l i->Cs H E (aV e) 26 0->Cs H X (aV x) 26 0->
  ∃ H',(∀ cF:K.Fn 2,EM JN GO cK cF (.ptr E 0) y (.ptr X 0) (.ptr it 0) H=cF y (.ptr X 0) H')/\Cs H' X (aV (r.foldl (Hv e) x)) 26 0/\Out [it,X] H H'/\H'.next=H.next
 | [],i,H,x,h,hS,hE,hX=>by
  have hi:l.length<=i:=by
   rcases akN i l.length with q | q
   ·rw[aik q] at h;cases h
   ·exact q
  refine⟨H,fun cF => ?_,hX,Out.refl _ _,rfl⟩
  rw[Ab]
  simp only[wC,V0 hS hi,ag,af,simprocAttr]
 | c::r,i,H,x,h,hS,hE,hX=>by
  obtain⟨g1,g2,g3⟩:=eF h
  obtain⟨H1,n1,n2,n3,n4⟩:=Xo hS g2 (hl c (aaO g2))
  have AH:=hE.out n3 (by simpa using h2)
  have hX1:=hX.out n3 (by simpa using h3)
  obtain⟨e0,e1,e2,e3,e4,e5,e6,e7⟩:=WA e
  have hd:∀ n:Nat,c≠n->(((c:Nat):Int)==(n:Nat))=false:=fun n hn=>by rw[beq_eq_false_iff_ne];omega
  have fin:∀ (H2:Hp) (x':Ev),Cs H2 X (aV x') 26 0->Out [X] H1 H2->H2.next=H1.next->Hv e x c=x'->∃ H',(∀ cF:K.Fn 2,EM JN GO cK cF (.ptr E 0) y (.ptr X 0) (.ptr it 0) H2=cF y (.ptr X 0) H')/\Cs H' X (aV ((c::r).foldl (Hv e) x)) 26 0/\Out [it,X] H H'/\H'.next=H.next:=by
   intro H2 x' oM ho hn hx
   obtain⟨H',i1,i2,i3,i4⟩:=VJ (y:=y) hl h1 h2 h3 r (i+1) H2 x' g3 (n2.out ho (by simpa using fun q=>h3 q.symm)) (AH.out ho (by simpa using h1)) oM
   refine⟨H',i1,by rw[List.foldl_cons,hx];exact i2,((n3.mono (fun j hj=>by simp at hj;simp[hj])).trans (ho.mono (fun j hj=>by simp at hj;simp[hj]))).trans i3,by omega⟩
  have sv:∀ (o:Nat) (v:AV),o<8->bq v=true->∃ H2,st 1 (.ptr X o) v H1=some H2/\Cs H2 X ((aV x).set o v) 26 0/\Out [X] H1 H2/\H2.next=H1.next:=fun o v ho hv=>fP hX1 (by decide) (by rw[qa];exact ho) hv
  by_cases q1:c=82
  ·subst q1
   obtain⟨H2,s1,s2,s3,s4⟩:=sv 1 (.int .i64 e.rn) (by omega) rfl
   obtain⟨H',i1,i2,i3,i4⟩:=fin H2 { x with rn:=e.rn } s2 s3 s4 rfl
   refine⟨H',fun cF => ?_,i2,i3,i4⟩
   rw[Ab]
   simp(disch:=first|exact zqz|fail)only[wC,n1,AH.cellAt e1,s1,i1,agD,aj,ak,ag,af,simprocAttr]
  have b1:(((c:Nat):Int)==82)=false:=hd 82 q1
  by_cases q2:c=84
  ·subst q2
   obtain⟨H2,s1,s2,s3,s4⟩:=sv 2 (.int .i64 e.tk) (by omega) rfl
   obtain⟨H',i1,i2,i3,i4⟩:=fin H2 { x with tk:=e.tk } s2 s3 s4 rfl
   refine⟨H',fun cF => ?_,i2,i3,i4⟩
   rw[Ab]
   simp(disch:=first|exact zqz|fail)only[wC,n1,AH.cellAt e2,s1,i1,agD,aj,ak,ag,af,simprocAttr]
  have b2:(((c:Nat):Int)==84)=false:=hd 84 q2
  by_cases q3:c=89
  ·subst q3
   obtain⟨H2,s1,s2,s3,s4⟩:=sv 3 (.int .i64 e.ty) (by omega) rfl
   obtain⟨H',i1,i2,i3,i4⟩:=fin H2 { x with ty:=e.ty } s2 s3 s4 rfl
   refine⟨H',fun cF => ?_,i2,i3,i4⟩
   rw[Ab]
   simp(disch:=first|exact zqz|fail)only[wC,n1,AH.cellAt e3,s1,i1,agD,aj,ak,ag,af,simprocAttr]
  have b3:(((c:Nat):Int)==89)=false:=hd 89 q3
  by_cases q4:c=78
  ·subst q4
   obtain⟨H2,s1,s2,s3,s4⟩:=sv 4 (.int .i64 e.n) (by omega) rfl
   obtain⟨H',i1,i2,i3,i4⟩:=fin H2 { x with n:=e.n } s2 s3 s4 rfl
   refine⟨H',fun cF => ?_,i2,i3,i4⟩
   rw[Ab]
   simp(disch:=first|exact zqz|fail)only[wC,n1,AH.cellAt e4,s1,i1,agD,aj,ak,ag,af,simprocAttr]
  have b4:(((c:Nat):Int)==78)=false:=hd 78 q4
  by_cases q5:c=77
  ·subst q5
   obtain⟨H2,s1,s2,s3,s4⟩:=sv 5 (.str e.nm) (by omega) rfl
   obtain⟨H',i1,i2,i3,i4⟩:=fin H2 { x with nm:=e.nm } s2 s3 s4 rfl
   refine⟨H',fun cF => ?_,i2,i3,i4⟩
   rw[Ab]
   simp(disch:=first|exact zqz|fail)only[wC,n1,AH.cellAt e5,s1,i1,agD,aj,ak,ag,af,simprocAttr]
  have b5:(((c:Nat):Int)==77)=false:=hd 77 q5
  by_cases q6:c=75
  ·subst q6
   obtain⟨H2,s1,s2,s3,s4⟩:=sv 6 (.str e.ky) (by omega) rfl
   obtain⟨H',i1,i2,i3,i4⟩:=fin H2 { x with ky:=e.ky } s2 s3 s4 rfl
   refine⟨H',fun cF => ?_,i2,i3,i4⟩
   rw[Ab]
   simp(disch:=first|exact zqz|fail)only[wC,n1,AH.cellAt e6,s1,i1,agD,aj,ak,ag,af,simprocAttr]
  have b6:(((c:Nat):Int)==75)=false:=hd 75 q6
  by_cases q7:c=68
  ·subst q7
   obtain⟨H2,s1,s2,s3,s4⟩:=sv 7 (.str e.dt) (by omega) rfl
   obtain⟨H',i1,i2,i3,i4⟩:=fin H2 { x with dt:=e.dt } s2 s3 s4 rfl
   refine⟨H',fun cF => ?_,i2,i3,i4⟩
   rw[Ab]
   simp(disch:=first|exact zqz|fail)only[wC,n1,AH.cellAt e7,s1,i1,agD,aj,ak,ag,af,simprocAttr]
  have b7:(((c:Nat):Int)==68)=false:=hd 68 q7
  obtain⟨H',i1,i2,i3,i4⟩:=fin H1 x hX1 (Out.refl _ _) rfl (by unfold Hv;rw[if_neg q1,if_neg q2,if_neg q3,if_neg q4,if_neg q5,if_neg q6,if_neg q7])
  refine⟨H',fun cF => ?_,i2,i3,i4⟩
  rw[Ab]
  simp(disch:=first|exact zqz|fail)only[wC,n1,b1,b2,b3,b4,b5,b6,b7,i1,aj,ak,ag,af,simprocAttr]
abbrev zE:List AV:=[(.int .i64 0),(.int .i64 0),(.int .i64 0),(.int .i64 0),(.int .i64 0),(.str []),(.str []),(.str [])]
theorem amH (e:Ev){l:ai}(hl:∀ c∈l,c<128)(H:Hp):∃ H',cK (.func (.func 49) [] []) [.agg (aV e),.str l] H=some (.agg (aV (Di e l)),H')/\Out [] H H':=by
 have aN:bx 26 (.agg (aV e)) H=some (H.next,al H (aV e) 26 0):=gh (by rw[qa];omega)
 have o1:=aG H (aV e) 26 0
 have c1:=aZ H (aV e) 26 0
 have n1:(al H (aV e) 26 0).next=H.next+1:=rfl
 generalize al H (aV e) 26 0=H1 at *
 have dJ:aC H1 zE 26 0=some (H.next+1,al H1 zE 26 0):=by rw[<-n1];exact gJ (by simp)
 have o2:=aG H1 zE 26 0
 have c2:=aZ H1 zE 26 0
 have n2:(al H1 zE 26 0).next=H.next+2:=by rw[cu,n1]
 rw[n1] at c2
 generalize bV:al H1 zE 26 0=H2 at *
 have k0:cellAt H2 H.next 0=some (.int .i64 e.kd):=(c1.out o2 (by simp)).cellAt rfl
 have hf:fl zE [(0,1,.int .i64 e.kd)]=some (aV (yR e.kd)):=rfl
 have ayi:aC H2 zE 26 0=some (H.next+2,al H2 zE 26 0):=by rw[<-n2];exact gJ (by simp)
 have aA:st 8 (.ptr (H.next+2) 0) (.agg (aV (yR e.kd))) (al H2 zE 26 0)=some (al H2 (aV (yR e.kd)) 26 0):=iI rfl rfl n2.symm (by decide) rfl
 have o3:=aG H2 (aV (yR e.kd)) 26 0
 have c3:=aZ H2 (aV (yR e.kd)) 26 0
 have n3:(al H2 (aV (yR e.kd)) 26 0).next=H.next+3:=by rw[cu,n2]
 rw[n2] at c3
 generalize al H2 (aV (yR e.kd)) 26 0=H3 at *
 have Cc:zH P 9 (.str l) H3=some (.ptr (H.next+3) 0,DF H3 l):=by rw[<-n3];exact Zl Tryz.underlying9 l H3
 have o4:=Y8 H3 l
 have s4:=adb H3 l
 rw[n3] at s4
 have cE:=((c1.out o2 (by simp)).out o3 (by simp)).out o4 (by simp)
 have cV:=(c2.out o3 (by simp)).out o4 (by simp)
 have cX:=c3.out o4 (by simp)
 obtain⟨H5,i1,i2,i3,i4⟩:=VJ (y := .ptr (H.next+1) 0) hl (by omega) (by omega) (by omega) l 0 (DF H3 l) (yR e.kd) abK s4 cE cX
 have cV5:=cV.out i3 (by simp)
 have k8:aq H5 (H.next+2) 0 8=some (aV (Di e l)):=i2.aq 8 0 (by rw[qa];omega)
 obtain⟨H6,t1,t2,t3,t4⟩:=gO (n:=8) (vs:=aV (Di e l)) cV5 rfl rfl rfl
 have k9:aq H6 (H.next+1) 0 8=some (aV (Di e l)):=t2.aq 8 0 (by rw[qa];omega)
 have out:Out [] H H6:=fD (fD (((o1.trans o2).trans o3).trans o4) i3 (fun j hj=>by simp at hj;omega)) t3 (kf (by omega))
 refine⟨H6,apj ?_,out⟩
 unfold UM
 simp(disch:=first|exact zqz|fail)only[aN,n1,bV,n2,k0,hf,aA,Cc,i1,k8,t1,k9,aj,ak,ag,af,simprocAttr]
theorem alV (a b c d e:Int)(f g h:ai)(a' b' c' d' e':Int)(f' g' h':ai)(H:Hp):dX P 50 26 (.agg [.int .i64 a,.int .i64 b,.int .i64 c,.int .i64 d,.int .i64 e,.str f,.str g,.str h]) (.agg [.int .i64 a',.int .i64 b',.int .i64 c',.int .i64 d',.int .i64 e',.str f',.str g',.str h']) H=rJ (fun z:Bool=>some z) [a==a',b==b',c==c',d==d',e==e',f==f',g==g',h==h']:=by kernel_rfl
theorem avd:Program.eqGuardType P P.depth 26=false:=by kernel_rfl
theorem I4:∀ l:List Bool,rJ (fun z:Bool=>some z) l=some (l.all id)
 | []=>rfl
 | b::l=>by
  unfold rJ
  rw[I4 l,ajU]
  cases b<;>rfl
theorem am1 (a b:Ev)(H:Hp):gA P .eql 26 false (.agg (aV a)) (.agg (aV b))=true/\fe P .eql 26 (.agg (aV a)) (.agg (aV b)) H=some (.bool (Nk a b)):=by
 constructor
 ·show (!(Program.eqGuardType P P.depth 26))=true
  rw[avd];rfl
 ·show (dX P 50 26 (.agg (aV a)) (.agg (aV b)) H).map (fun b=>AV.bool b)=_
  have h:dX P 50 26 (.agg (aV a)) (.agg (aV b)) H=_:=alV a.kd a.rn a.tk a.ty a.n a.nm a.ky a.dt b.kd b.rn b.tk b.ty b.n b.nm b.ky b.dt H
  rw[h,I4]
  simp[Nk]
def findF (p:Nat->Bool):ai->Nat->Option Nat
 | [],_=>none
 | c::r,i=>if p c then some i else findF p r (i+1)
theorem VQ (p:Nat->Bool):∀ (l:ai) (i:Nat),(findF p l i).isSome=l.any p
 | [],i=>rfl
 | c::r,i=>by
  unfold findF
  rw[List.any_cons]
  cases h:p c with
  | true=>rfl
  | false=>rw[akA];exact VQ p r (i+1)
theorem Xm {fv:AV}{it:Nat}{l:ai}{p:Nat->Bool}{H0:Hp}(hl:∀ c∈l,c<128)(hp:∀ H,Out [] H0 H->∀ c∈l,∃ H',cK fv [.int .i32 (c:Nat)] H=some (.bool (p c),H')/\Out [] H H')(hit:H0.next<=it):∀ (r:ai) (i:Nat) (H:Hp),l.drop i=r->zj H it l i->Out [] H0 H->
  ∃ H',(∀ j3:K.Fn 0,KG JN GO cK j3 fv (.bool true) (.ptr it 0) H=match findF p r i with | some k=>some (.int .i64 (k:Nat),H') | none=>j3 H')/\Out [] H0 H'
 | [],i,H,h,hS,hO=>by
  have hi:l.length<=i:=by
   rcases akN i l.length with q | q
   ·rw[aik q] at h;cases h
   ·exact q
  refine⟨H,fun j3 => ?_,hO⟩
  rw[UX]
  simp only[Nw,V0 hS hi,ag,af,simprocAttr]
  rfl
 | c::r,i,H,h,hS,hO=>by
  obtain⟨g1,g2,g3⟩:=eF h
  obtain⟨H1,n1,n2,n3,n4⟩:=Xo hS g2 (hl c (aaO g2))
  have wB:Out [] H0 H1:=fD hO n3 (kf hit)
  obtain⟨H2,f1,f2⟩:=hp H1 wB c (aaO g2)
  have Ep:=wB.trans f2
  unfold findF
  cases hc:p c with
  | true=>
   refine⟨H2,fun j3 => ?_,Ep⟩
   rw[UX]
   rw[hc] at f1
   have bt:(true==true)=true:=rfl
   simp(disch:=first|exact zqz|fail)only[Nw,n1,f1,bt,↓reduceIte,aj,ak,ag,af,simprocAttr]
  | false=>
   obtain⟨H',i1,i2⟩:=Xm hl hp hit r (i+1) H2 g3 (n2.out f2 (by simp)) Ep
   refine⟨H',fun j3 => ?_,i2⟩
   rw[UX]
   rw[hc] at f1
   have bt:(false==true)=false:=rfl
   simp(disch:=first|exact zqz|fail)only[Nw,n1,f1,bt,i1,abH,↓reduceIte,aj,ak,ag,af,simprocAttr]
theorem asP {fv:AV}{l:ai}{p:Nat->Bool}{H0:Hp}(hl:∀ c∈l,c<128)(hp:∀ H,Out [] H0 H->∀ c∈l,∃ H',cK fv [.int .i32 (c:Nat)] H=some (.bool (p c),H')/\Out [] H H') :
  ∃ H',cK (.func (.func 50) [] []) [.str l,fv] H0=some (.bool (l.any p),H')/\Out [] H0 H':=by
 have Cc:=Zl Tryz.underlying9 l H0
 have o1:=Y8 H0 l
 have s1:=adb H0 l
 obtain⟨H',i1,i2⟩:=Xm hl hp (aaU _) l 0 (DF H0 l) abK s1 o1
 refine⟨H',avI ?_,i2⟩
 have h1:cK (.func (.func 115) [] []) [.str l,fv,.bool true] H0=some (.int .i64 (mr (findF p l 0)),H'):=by
  refine atz ?_
  unfold XI
  simp only[Cc,i1,ag,af,simprocAttr]
  cases findF p l 0<;>rfl
 have h2:cK (.func (.func 86) [] []) [.str l,fv] H0=some (.int .i64 (mr (findF p l 0)),H'):=by
  refine as7 ?_
  unfold aaz
  simp only[h1,ag,af,simprocAttr]
 unfold aeb
 simp only[h2,Io,VQ,ag,af,simprocAttr]
theorem agO {e:Ev}{E:Nat}{H:Hp}(hE:Cs H E (aV e) 26 0)(c:Nat):∃ H',cK (.func (.func 51) [] [.ptr E 0]) [.int .i32 (c:Nat)] H=some (.bool (!uv e c),H')/\Out [] H H':=by
 obtain⟨H',h1,h2⟩:=aj1 e c H
 have k8:aq H E 0 8=some (aV e):=hE.aq 8 0 (by rw[qa];omega)
 refine⟨H',aqn ?_,h2⟩
 unfold Zp
 simp(disch:=first|exact zqz|fail)only[k8,h1,aj,ak,ag,af,simprocAttr]
theorem Xf (k:Int):∀ c∈fieldsM k,c<128:=by
 unfold fieldsM
 intro c hc
 repeat' split at hc
 all_goals first | (simp at hc;omega) | (simp at hc)
theorem af1 (e:Ev)(H:Hp):∃ H',cK (.func (.func 21) [] []) [.agg (aV e)] H=some (.bool (yH e),H')/\Out [] H H':=by
 have aN:bx 26 (.agg (aV e)) H=some (H.next,al H (aV e) 26 0):=gh (by rw[qa];omega)
 have o1:=aG H (aV e) 26 0
 have c1:=aZ H (aV e) 26 0
 generalize al H (aV e) 26 0=H1 at *
 have k0:cellAt H1 H.next 0=some (.int .i64 e.kd):=c1.cellAt rfl
 have k8:aq H1 H.next 0 8=some (aV e):=c1.aq 8 0 (by rw[qa];omega)
 unfold yH
 cases hf:(fieldsM e.kd==[]) with
 | true=>
  refine⟨H1,PV ?_,o1⟩
  unfold Lp
  simp(disch:=first|exact zqz|fail)only[aN,k0,Rg,hf,acL,aj,ak,ag,af,simprocAttr]
 | false=>
  obtain⟨H2,h1,h2⟩:=amH e (Xf e.kd) H1
  have c2:=c1.out h2 (by simp)
  have k9:aq H2 H.next 0 8=some (aV e):=c2.aq 8 0 (by rw[qa];omega)
  obtain⟨q1,q2⟩:=am1 (Di e (fieldsM e.kd)) e H2
  have hs:same (.agg (aV e)) (.agg (aV e))=true:=by
   have hk:(IntKind.i64==IntKind.i64)=true:=rfl
   simp[same,aV,w6,pL]
  cases he:Nk (Di e (fieldsM e.kd)) e with
  | false=>
   refine⟨H2,PV ?_,o1.trans h2⟩
   rw[he] at q2
   unfold Lp
   simp(disch:=first|exact zqz|fail)only[aN,k0,Rg,hf,k8,h1,k9,q1,og,q2,ft hs,acL,ac5,aj,ak,ag,af,simprocAttr]
  | true=>
   obtain⟨H3,h3,h4⟩:=asP (fv := .func (.func 51) [] [.ptr H.next 0]) (p:=fun c => !uv e c) (H0:=H2) (Xf e.kd) (fun H' k c _=>agO (c2.out k (by simp)) c)
   refine⟨H3,PV ?_,(o1.trans h2).trans h4⟩
   rw[he] at q2
   have lI:(!((fieldsM e.kd).any fun c => !uv e c))=(fieldsM e.kd).all (uv e):=by
    rw[List.not_any_eq_all_not]
    simp
   unfold Lp
   simp(disch:=first|exact zqz|fail)only[aN,k0,Rg,hf,k8,h1,k9,q1,og,q2,ft hs,h3,lI,ac5,aj,ak,ag,af,simprocAttr]
abbrev Ky:=ai × ai
def cg (k:Ky):List AV:=[.str k.1,.str k.2]
theorem X1 (a b c d:ai)(H:Hp):dX P 20 80 (.agg [.str a,.str b]) (.agg [.str c,.str d]) H=rJ (fun z:Bool=>some z) [a==c,b==d]:=by kernel_rfl
theorem TN {k q:Ky}(h:q≠k)(H:Hp):dX P 20 80 (.agg (cg k)) (.agg (cg q)) H=some false:=by
 have h1:dX P 20 80 (.agg (cg k)) (.agg (cg q)) H=_:=X1 k.1 k.2 q.1 q.2 H
 rw[h1,I4]
 simp only[ajU,List.all_nil,id,Bool.and_true,adE,Bool.and_eq_false_iff,beq_eq_false_iff_ne]
 by_cases h2:k.1=q.1
 ·exact .inr fun h3=>h (Prod.ext h2.symm h3.symm)
 ·exact .inl h2
theorem amP (k:Ky)(H:Hp):dX P 20 80 (.agg (cg k)) (.agg (cg k)) H=some true:=by
 have h1:dX P 20 80 (.agg (cg k)) (.agg (cg k)) H=_:=X1 k.1 k.2 k.1 k.2 H
 rw[h1,I4]
 simp
abbrev Ke:=Ky × Int
def sO (E:List (Ke × Nat)):List ME:=E.map fun x=>⟨.agg (cg x.1.1),.int .i64 x.1.2,x.2⟩
theorem TV {H:Hp}{k:Ky}:∀ (E:List (Ke × Nat)) (i:Nat),(∀ x∈E,x.1.1≠k)->nq P H 80 (.agg (cg k)) (sO E) i=some none
 | [],i,_=>rfl
 | x::E,i,h=>by
  show nq P H _ (.agg (cg k)) (⟨.agg (cg x.1.1),.int .i64 x.1.2,x.2⟩::sO E) i=_
  unfold nq
  simp only[TN (h x (.head _)) H]
  exact TV E (i+1) fun y hy=>h y (.tail _ hy)
theorem acT {H:Hp}{k:Ky}:∀ (E:List (Ke × Nat)),(∀ x∈E,x.1.1≠k)->xJ P H 80 (.agg (cg k)) (sO E)=true
 | [],_=>rfl
 | x::E,h=>by
  show xJ P H _ (.agg (cg k)) (⟨.agg (cg x.1.1),.int .i64 x.1.2,x.2⟩::sO E)=_
  unfold xJ
  simp only[TN (h x (.head _)) H]
  exact acT E fun y hy=>h y (.tail _ hy)
theorem ade {H:Hp}{k:Ky}{x:Ke × Nat}{B:List (Ke × Nat)}(hx:x.1.1=k)(hB:∀ y∈B,y.1.1≠k):∀ (A:List (Ke × Nat)) (i:Nat),(∀ y∈A,y.1.1≠k)->
  ∃ j,nq P H 80 (.agg (cg k)) (sO (A++x::B)) i=some (some (j,⟨.agg (cg x.1.1),.int .i64 x.1.2,x.2⟩))
 | [],i,_=>by
  refine⟨i,?_⟩
  show nq P H _ (.agg (cg k)) (⟨.agg (cg x.1.1),.int .i64 x.1.2,x.2⟩::sO B) i=_
  unfold nq
  subst hx
  simp only[amP,acT B hB,cond_true]
 | y::A,i,h=>by
  obtain⟨j,hj⟩:=ade hx hB A (i+1) fun z hz=>h z (.tail _ hz)
  refine⟨j,?_⟩
  show nq P H _ (.agg (cg k)) (⟨.agg (cg y.1.1),.int .i64 y.1.2,y.2⟩::sO (A++x::B)) i=_
  unfold nq
  simp only[TN (h y (.head _)) H]
  exact hj
theorem Vb (k:Ky):pf P 20 80 (.agg (cg k))=true:=by kernel_rfl
def la (ks:List Ke)(k:Ky):Option Int:=(ks.find? (fun x=>x.1==k)).map (·.2)
theorem Jk {ks:List Ke}{k:Ky}(h:la ks k=none):∀ x∈ks,x.1≠k:=by
 unfold la at h
 rw[Option.map_eq_none_iff,List.find?_eq_none] at h
 intro x hx q
 exact h x hx (by rw[q];exact beq_self_eq_true _)
theorem Q8 {ks:List Ke}{k:Ky}{id:Int}(h:la ks k=some id):∃ a b,ks=a++(k,id)::b/\∀ x∈a,x.1≠k:=by
 unfold la at h
 rw[aam] at h
 obtain⟨x,h1,rfl⟩:=h
 rw[List.find?_eq_some_iff_append] at h1
 obtain⟨h2,a,b,rfl,h3⟩:=h1
 have:x.1=k:=by simpa using h2
 subst this
 exact⟨a,b,rfl,fun y hy q=>by have:=h3 y hy;rw[q] at this;simp at this⟩
abbrev kv (km:Nat)(lx:AV):List AV:=[.int .i64 128,.map km,lx]
structure KO (H:Hp)(kp km:Nat)(lx:AV)(ks:List Ke):Prop where
 c:Cs H kp (kv km lx) 136 0
 m:∃ bs c,bs.length=ks.length/\Mp H km (sO (ks.zip bs)) c
 l:OL H 80 2 lx (ks.map fun x=>cg x.1)
 nd:(ks.map (·.1)).Nodup
 d1:kp≠km
 d2:∀ j∈ah lx,j≠kp/\j≠km
def BM (kp km:Nat)(lx:AV):List Nat:=kp::km::ah lx
theorem KO.out {H H':Hp}{kp km:Nat}{lx:AV}{ks:List Ke}{S:List Nat}(h:KO H kp km lx ks)(k:Out S H H')(hs:∀ j∈BM kp km lx,j∉S):KO H' kp km lx ks:=by
 obtain⟨bs,c,h1,h2⟩:=h.m
 exact⟨h.c.out k (hs _ (.head _)),⟨bs,c,h1,h2.out k (hs _ (.tail _ (.head _)))⟩,h.l.out k fun j hj=>hs j (.tail _ (.tail _ hj)),h.nd,h.d1,h.d2⟩
theorem KO.ar {H H':Hp}{kp km:Nat}{lx:AV}{ks:List Ke}(h:KO H kp km lx ks)(k:Out [] H H'):KO H' kp km lx ks:=h.out k fun _ _ q=>by cases q
theorem KO.lt {H:Hp}{kp km:Nat}{lx:AV}{ks:List Ke}(h:KO H kp km lx ks):∀ j∈BM kp km lx,j<H.next:=by
 intro j hj
 obtain⟨bs,c,h1,h2⟩:=h.m
 rcases aa7.1 hj with rfl | hj
 ·exact h.c.1
 ·rcases aa7.1 hj with rfl | hj
  ·exact h2.1
  ·exact h.l.1.rw.lt j hj
theorem aqT (H:Hp):∃ kp km H',cK (.func (.func 44) [] []) [.int .i64 128] H=some (.ptr kp 0,H')/\KO H' kp km .ae []/\Out [] H H'/\H.next<=kp/\H.next<=km:=by
 obtain⟨H1,m1,m2,m3,m4⟩:=NK H
 have hf:fl [(.int .i64 0),.jZ,.ae] [(0,1,.int .i64 128),(1,1,.map H.next)]=some (kv H.next .ae):=rfl
 have aN:bx 136 (.agg (kv H.next .ae)) H1=some (H1.next,al H1 (kv H.next .ae) 136 0):=gh (by simp)
 have o2:=aG H1 (kv H.next .ae) 136 0
 have c2:=aZ H1 (kv H.next .ae) 136 0
 refine⟨H1.next,H.next,al H1 (kv H.next .ae) 136 0,akJ ?_,⟨c2,⟨[],0,rfl,m2.out o2 (by simp)⟩,OL.nil _ _ _,by simp,by omega,fun j hj=>by cases hj⟩,m3.trans o2,by omega,aaU _⟩
 unfold ada
 simp only[amO,Kl,Int.reduceLT,if_false,if_true,m1,hf,aN,ag,af,simprocAttr]
theorem Lh {ks:List Ke}{bs:List Nat}{k:Ky}(h:∀ x∈ks,x.1≠k):∀ y∈ks.zip bs,y.1.1≠k:=fun y hy=>h y.1 (List.of_mem_zip hy).1
theorem aoz {a b:List Ke}{x:Ke}{bs:List Nat}(h:bs.length=(a++x::b).length):∃ b1 c b2,(a++x::b).zip bs=a.zip b1++(x,c)::b.zip b2:=by
 have h1:a.length<bs.length:=by rw[h,abj,aa1];omega
 refine⟨bs.take a.length,bs[a.length],bs.drop (a.length+1),?_⟩
 conv=>lhs;rw[show bs=bs.take a.length++bs[a.length]::bs.drop (a.length+1) by rw[List.getElem_cons_drop,ai3]]
 rw[List.zip_append (by rw[afs];omega)]
 rfl
theorem Mi {H:Hp}{km:Nat}{ks:List Ke}(hm:∃ bs c,bs.length=ks.length/\Mp H km (sO (ks.zip bs)) c)(iO:(ks.map (·.1)).Nodup)(k:Ky)(ok:Bool) :
  rH P 133 (.map km) (.agg (cg k)) ok H=some (bif ok then .tuple [.int .i64 ((la ks k).getD 0),.bool (la ks k).isSome] else .int .i64 ((la ks k).getD 0)):=by
 obtain⟨bs,c,h1,h2⟩:=hm
 have hu:P.underlying 133=some (.map 80 3):=Tryz.underlying133
 have hz:((P.info? 3).bind (·.zero)).bind jL=some (.int .i64 0):=by kernel_rfl
 unfold rH
 cases hg:la ks k with
 | none=>
  simp only[hu,Vb,cond_true,Hm h2,TV _ 0 (Lh (bs:=bs) (Jk hg)),hz,ae6]
  cases ok<;>rfl
 | some id=>
  obtain⟨a,b,rfl,h3⟩:=Q8 hg
  obtain⟨b1,c1,b2,h4⟩:=aoz h1
  rw[h4] at h2
  have hb:∀ x∈b,x.1≠k:=by
   intro x hx q
   rw[afg,ac4,af2,aju] at iO
   exact iO.2.1.1 (adD.2 ⟨x,hx,q⟩)
  obtain⟨j,hj⟩:=ade (H:=H) (x:=((k,id),c1)) (k:=k) rfl (Lh (bs:=b2) hb) (a.zip b1) 0 (Lh h3)
  simp only[hu,Vb,cond_true,Hm h2,hj]
  cases ok<;>rfl
theorem Az (k:Ky):(cg k).length=2:=rfl
theorem arc {H:Hp}{kp km:Nat}{lx:AV}{ks:List Ke}(h:KO H kp km lx ks)(k:Ky):∃ H',cK (.func (.func 83) [] []) [.ptr kp 0,.agg (cg k)] H=some (.tuple [.int .i64 ((la ks k).getD 0),.bool (la ks k).isSome],H')/\Out [] H H':=by
 have aN:bx 80 (.agg (cg k)) H=some (H.next,al H (cg k) 80 0):=gh (by rw[Az];omega)
 have o1:=aG H (cg k) 80 0
 have c1:=aZ H (cg k) 80 0
 generalize al H (cg k) 80 0=H1 at *
 have h1:=h.ar o1
 have k1:cellAt H1 kp 1=some (.map km):=h1.c.cellAt rfl
 have k2:aq H1 H.next 0 2=some (cg k):=c1.aq 2 0 (by rw[Az];omega)
 have lk:=Mi h1.m h1.nd k true
 refine⟨H1,af0 ?_,o1⟩
 unfold ZJ
 simp(disch:=first|exact zqz|fail)only[aN,k1,k2,lk,cond_true,aj,ak,ag,af,simprocAttr]
theorem aiq {H:Hp}{kp km:Nat}{lx:AV}{ks:List Ke}(h:KO H kp km lx ks)(hn:ks.length<128){k:Ky}(hk:la ks k=none)(id:Int) :
  ∃ ur H',cK (.func (.func 33) [] []) [.ptr kp 0,.agg (cg k),.int .i64 id] H=some (.tuple [.int .i64 id,.bool true],H')/\KO H' kp km ur (ks++[(k,id)])/\Out (BM kp km lx) H H'/\∀ j∈ah ur,j∈ah lx\/H.next<=j:=by
 have aN:bx 80 (.agg (cg k)) H=some (H.next,al H (cg k) 80 0):=gh (by rw[Az];omega)
 have o1:=aG H (cg k) 80 0
 have c1:=aZ H (cg k) 80 0
 have n1:(al H (cg k) 80 0).next=H.next+1:=rfl
 generalize al H (cg k) 80 0=H1 at *
 have h1:=h.ar o1
 have ba:=h.lt
 have k0:cellAt H1 kp 0=some (.int .i64 128):=h1.c.cellAt rfl
 have k1:cellAt H1 kp 1=some (.map km):=h1.c.cellAt rfl
 have k2:cellAt H1 kp 2=some lx:=h1.c.cellAt rfl
 have kx:aq H1 H.next 0 2=some (cg k):=c1.aq 2 0 (by rw[Az];omega)
 have lk:=Mi h1.m h1.nd k true
 rw[hk] at lk
 have hlen:=h1.l.rl.len (by decide)
 rw[adY] at hlen
 have dn:(((ks.length:Nat):Int)==128)=false:=by rw[beq_eq_false_iff_ne];omega
 obtain⟨bs,c,b1,b2⟩:=h1.m
 have hu:P.underlying 133=some (.map 80 3):=Tryz.underlying133
 have aoe:sO ((ks++[(k,id)]).zip (bs++[c]))=sO (ks.zip bs)++[⟨.agg (cg k),.int .i64 id,c⟩]:=by
  rw[List.zip_append b1.symm];simp[sO]
 obtain⟨H2,u1,u2,u3,u4⟩:∃ H2,pZ P 133 (.map km) (.agg (cg k)) (.int .i64 id) H1=some H2/\Mp H2 km (sO ((ks++[(k,id)]).zip (bs++[c]))) (c+1)/\Out [km] H1 H2/\H2.next=H1.next:=by
  rw[aoe]
  refine⟨_,?_,(b2.set _ _).1,(b2.set _ _).2,rfl⟩
  unfold pZ
  simp only[hu,Vb,cond_true,b2.2,TV _ 0 (Lh (bs:=bs) (Jk hk))]
 have hkm:km<H.next:=ba km (.tail _ (.head _))
 have hkp:kp<H.next:=ba kp (.head _)
 have q2:cellAt H2 kp 2=some lx:=by rw[u3.cellAt h1.c.1 (by simpa using h.d1)];exact k2
 have qx:aq H2 H.next 0 2=some (cg k):=by rw[u3.aq c1.1 (by rw[No];omega)];exact kx
 have hf:fl [(.str []),(.str [])] [(0,2,.agg (cg k))]=some (cg k):=rfl
 have oG:OL H2 80 2 lx (ks.map fun x=>cg x.1):=h1.l.out u3 fun j hj=>by rw[No];exact (h.d2 j hj).2
 have dJ:aC H2 (cg k) 80 0=some (H2.next,al H2 (cg k) 80 0):=gJ (by rw[Az];omega)
 obtain⟨ur,H3,p1,p2,p3,p4,p5⟩:=oG.push (fM:=80) (z:=[(.str []),(.str [])]) (vs:=cg k) rfl rfl (by decide) (by rw[adY];omega)
 have iu:=p1 H2.next rfl
 have c3:Cs H3 kp (kv km lx) 136 0:=(h1.c.out u3 (by simpa using h.d1)).out p3 fun q=>(h.d2 kp q).1 rfl
 obtain⟨H4,s1,s2,s3,s4⟩:=fP c3 (by decide) (o:=2) (by simp) (v:=ur) p5
 have a2:=aG H2 (cg k) 80 0
 have q3:cellAt (al H2 (cg k) 80 0) kp 2=some lx:=by rw[a2.cellAt (by rw[u4,n1];omega) (by simp)];exact q2
 have gC:H2.next=H.next+1:=by rw[u4,n1]
 have fh:∀ j∈ah ur,j≠kp/\j≠km:=fun j hj=>by
  rcases p4 j hj with q | q
  ·exact h.d2 j q
  ·omega
 have m3:Mp H3 km (sO ((ks++[(k,id)]).zip (bs++[c]))) (c+1):=u2.out p3 fun q=>(h.d2 km q).2 rfl
 refine⟨ur,H4,ab0 ?_,⟨s2,⟨bs++[c],c+1,by simp[b1],m3.out s3 (by rw[No];exact fun q=>h.d1 q.symm)⟩,?_,?_,h.d1,fh⟩,?_,fun j hj=>(p4 j hj).imp (fun q=>q) fun q=>by omega⟩
 ·unfold MO
  simp(disch:=first|exact zqz|fail)only[aN,k0,k1,k2,kx,lk,hlen,dn,u1,q2,qx,hf,dJ,iu,s1,q3,ft (oe h1.l.1.rw),aho,cond_true,aj,ak,ag,af,simprocAttr]
 ·rw[afg]
  exact p2.out s3 fun j hj=>by rw[No];exact (fh j hj).1
 ·rw[afg]
  rw[af2]
  refine⟨h.nd,by simp,fun x hx y hy q => ?_⟩
  simp at hy
  obtain⟨z,hz,rfl⟩:=adD.1 hx
  exact Jk hk z hz (q.trans hy)
 ·refine ((((o1.mono (S':=BM kp km lx) (fun j hj=>by cases hj)).trans (u3.mono fun j hj => ?_)).trans (p3.mono fun j hj => .tail _ (.tail _ hj))).trans (s3.mono fun j hj => ?_))
  ·rw[No] at hj;subst hj;exact .tail _ (.head _)
  ·rw[No] at hj;subst hj;exact .head _
theorem alz {H:Hp}{kp km:Nat}{lx:AV}{ks:List Ke}(h:KO H kp km lx ks){k:Ky}{LY:Int}(hk:la ks k=some LY)(id:Int) :
  ∃ H',cK (.func (.func 33) [] []) [.ptr kp 0,.agg (cg k),.int .i64 id] H=some (.tuple [.int .i64 LY,.bool false],H')/\Out [] H H':=by
 have aN:bx 80 (.agg (cg k)) H=some (H.next,al H (cg k) 80 0):=gh (by rw[Az];omega)
 have o1:=aG H (cg k) 80 0
 have c1:=aZ H (cg k) 80 0
 generalize al H (cg k) 80 0=H1 at *
 have h1:=h.ar o1
 have k1:cellAt H1 kp 1=some (.map km):=h1.c.cellAt rfl
 have kx:aq H1 H.next 0 2=some (cg k):=c1.aq 2 0 (by rw[Az];omega)
 have lk:=Mi h1.m h1.nd k true
 rw[hk] at lk
 refine⟨H1,ab0 ?_,o1⟩
 unfold MO
 simp(disch:=first|exact zqz|fail)only[aN,k1,kx,lk,ahx,ahb,cond_true,aj,ak,ag,af,simprocAttr]
def gj (x:Ke):List AV:=[.str x.1.1,.str x.1.2,.int .i64 x.2]
theorem atq {ks:List Ke}(iO:(ks.map (·.1)).Nodup){i:Nat}{x:Ke}(h:ks[i]? = some x):la ks x.1=some x.2:=by
 cases hg:la ks x.1 with
 | none=>exact absurd rfl (Jk hg x (aaO h))
 | some id=>
  obtain⟨a,b,rfl,h3⟩:=Q8 hg
  have hx:=aaO h
  rcases abN.1 hx with hx | hx
  ·exact absurd rfl (h3 x hx)
  ·rcases aa7.1 hx with hx | hx
   ·rw[hx]
   ·rw[afg,ac4,af2,aju] at iO
    exact absurd (adD.2 ⟨x,hx,rfl⟩) iO.2.1.1
theorem aao {kp km:Nat}{lx:AV}{ks:List Ke}{H0:Hp}(hn:ks.length<=1000)(hK0:KO H0 kp km lx ks):∀ (r:List Ke) (i:Nat) (H:Hp) (ox:AV),i<=ks.length->ks.drop i=r->Out [] H0 H->OL H 82 3 ox ((ks.take i).map gj)->(∀ j∈ah ox,H0.next<=j)->
  ∃ rL H',(∀ cG:K.Fn 1,Jj JN GO cK cG (.ptr kp 0) ox lx (.int .i64 (ks.length:Nat)) (.int .i64 (i:Nat)) H=cG rL H')/\OL H' 82 3 rL (ks.map gj)/\Out [] H0 H'/\∀ j∈ah rL,H0.next<=j
 | [],i,H,ox,hi,h,hO,hL,hr=>by
  obtain rfl:=drop_nil hi h
  refine⟨ox,H,fun cG => ?_,by rw[List.take_length] at hL;exact hL,hO,hr⟩
  rw[Xy]
  simp only[PW,ez,ag,af,simprocAttr]
 | x::r,i,H,ox,hi,h,hO,hL,hr=>by
  obtain⟨g1,g2,g3⟩:=eF h
  have es:=eE g1 (by omega)
  have hK:=hK0.ar hO
  obtain⟨b,o,q1,q2,q3,q4,q5⟩:=hK.l.rl.at (by decide) (i:=i) (c:=cg x.1) (by rw[aeI,g2];rfl)
  have aA:st 2 (.ptr H.next 0) (.agg (cg x.1)) (al H [(.str []),(.str [])] 80 0)=some (al H (cg x.1) 80 0):=iI rfl rfl rfl (by decide) rfl
  have o1:=aG H (cg x.1) 80 0
  have c1:=aZ H (cg x.1) 80 0
  have n1:(al H (cg x.1) 80 0).next=H.next+1:=rfl
  have apC:aC H [(.str []),(.str [])] 80 0=some (H.next,al H [(.str []),(.str [])] 80 0):=gJ (by simp)
  generalize bW:al H (cg x.1) 80 0=H1 at *
  have T6:=hK.ar o1
  have k1:cellAt H1 kp 1=some (.map km):=T6.c.cellAt rfl
  have kx:aq H1 H.next 0 2=some (cg x.1):=c1.aq 2 0 (by rw[Az];omega)
  have lk:=Mi T6.m T6.nd x.1 false
  rw[atq hK.nd g2] at lk
  have qM:fl [(.str []),(.str []),(.int .i64 0)] [(0,2,.agg (cg x.1)),(2,1,.int .i64 x.2)]=some (gj x):=rfl
  have Bs:fl [(.str []),(.str []),(.int .i64 0)] [(0,3,.agg (gj x))]=some (gj x):=rfl
  have hL1:OL H1 82 3 ox ((ks.take i).map gj):=hL.out o1 fun j hj=>by simp
  have dJ:aC H1 (gj x) 82 0=some (H1.next,al H1 (gj x) 82 0):=gJ (by simp[gj])
  obtain⟨rL,H2,p1,p2,p3,p4,p5⟩:=hL1.push (fM:=82) (z:=[(.str []),(.str []),(.int .i64 0)]) (vs:=gj x) rfl rfl (by decide) (by rw[adY,afs];omega)
  have iu:=p1 H1.next rfl
  have Ep:Out [] H0 H2:=fD (hO.trans o1) p3 hr
  have hO0:=hO.1
  obtain⟨ox2,H',i1,i2,i3,i4⟩:=aao hn hK0 r (i+1) H2 rL g1 g3 Ep (by rw[aiI,g2,afg];exact p2) (fun j hj=>(p4 j hj).elim (hr j) fun q=>by omega)
  refine⟨ox2,H',fun cG => ?_,i2,i3,i4⟩
  rw[Xy]
  simp(disch:=first|exact zqz|fail)only[PW,aU g1,q1,q4,apC,aA,kx,k1,lk,qM,Bs,dJ,iu,ahb,cond_false,es,i1,aj,ak,ag,af,simprocAttr]
theorem Rb {H:Hp}{kp km:Nat}{lx:AV}{ks:List Ke}(hn:ks.length<=1000)(h:KO H kp km lx ks) :
  ∃ ox H',cK (.func (.func 32) [] []) [.ptr kp 0] H=some (ox,H')/\OL H' 82 3 ox (ks.map gj)/\Out [] H H'/\∀ j∈ah ox,H.next<=j:=by
 have k2:cellAt H kp 2=some lx:=h.c.cellAt rfl
 have hlen:=h.l.rl.len (by decide)
 rw[adY] at hlen
 obtain⟨ox,H',i1,i2,i3,i4⟩:=aao hn h ks 0 H .ae (ace _) abK (Out.refl _ _) (by rw[ai2];exact OL.nil _ _ _) (fun j hj=>by cases hj)
 rw[show (((0:Nat):Int))=0 from rfl] at i1
 refine⟨ox,H',ahV ?_,i2,i3,i4⟩
 unfold ad1
 simp(disch:=first|exact zqz|fail)only[k2,hlen,i1,aj,ak,ag,af,simprocAttr]
def Dj (l m:List Nat):Prop:=∀ j∈l,j∉m
theorem Dj.symm {l m:List Nat}(h:Dj l m):Dj m l:=fun j hj hl=>h j hl hj
theorem Lj {L:List (List Nat)}{k N:Nat}{l l':List Nat}(h:L.Pairwise Dj)(hk:L[k]? = some l)(hN:∀ m∈L,∀ j∈m,j<N)(hl:∀ j∈l',j∈l\/N<=j):(L.set k l').Pairwise Dj:=by
 rw[List.pairwise_iff_getElem] at h ⊢
 obtain⟨kO,mn⟩:=aaw.1 hk
 have key:∀ (i:Nat) (hi:i<L.length),i≠k->Dj l' L[i]:=by
  intro i hi hik j hj hm
  rcases hl j hj with q | q
  ·rcases Nat.lt_or_gt_of_ne hik with c | c
   ·exact h i k hi kO c j hm (by rw[mn];exact q)
   ·exact h k i kO hi c j (by rw[mn];exact q) hm
  ·have:=hN _ (List.getElem_mem hi) j hm;omega
 intro i j hi hj mE
 rw[adU] at hi hj
 rw[List.getElem_set,List.getElem_set]
 by_cases h1:k=i
 ·subst h1
  rw[if_pos rfl,if_neg (by omega)]
  exact key j hj (by omega)
 ·rw[if_neg h1]
  by_cases h2:k=j
  ·subst h2
   rw[if_pos rfl]
   exact (key i hi (by omega)).symm
  ·rw[if_neg h2]
   exact h i j hi hj mE
theorem Ar {L:List (List Nat)}(h:L.Pairwise Dj){i j:Nat}(mE:i≠j){l m:List Nat}(hi:L[i]? = some l)(hj:L[j]? = some m):Dj l m:=by
 rw[List.pairwise_iff_getElem] at h
 obtain⟨a1,a2⟩:=aaw.1 hi
 obtain⟨b1,b2⟩:=aaw.1 hj
 subst a2;subst b2
 rcases Nat.lt_or_gt_of_ne mE with c | c
 ·exact h i j a1 b1 c
 ·exact (h j i b1 a1 c).symm
structure RA where
 dx:AV
 xs:List AV
 tx:AV
 sx:AV
def RA.fp (r:RA):List Nat:=nP r.dx r.xs r.tx r.sx
structure Fm where
 ck:Int
 bf:List ai
 bK:List (ai × ai)
 ax:List (Rn × ai)
 ks:List Ke
structure FA where
 tm:Nat
 kp:Nat
 km:Nat
 nx:AV
 rx:AV
 kl:AV
 bC:List RA
def bT (r:RA)(x:Rn × ai):List AV:=[r.dx,.int .i64 x.1.st,r.tx,r.sx,.str x.2]
def zg (E:List ((ai × ai) × Nat)):List ME:=E.map fun x=>⟨.str x.1.1,.str x.1.2,x.2⟩
def lD (p:Nat)(a:FA):List (List Nat):=[[p],[a.tm],[a.kp],[a.km],ah a.nx,ah a.rx,ah a.kl]
def own (p:Nat)(a:FA):List Nat:=(lD p a).flatten
def dU (a:FA):List Nat:=a.bC.flatMap RA.fp
abbrev fv (a:FA)(f:Fm):List AV:=[.int .i64 f.ck,a.nx,.map a.tm,a.rx,.ptr a.kp 0]
structure FL (H:Hp)(p:Nat)(a:FA)(f:Fm):Prop where
 c:Cs H p (fv a f) 67 0
 n:Ow H 9 1 a.nx (strs f.bf)
 t:∃ bs c,bs.length=f.bK.length/\Mp H a.tm (zg (f.bK.zip bs)) c
 vz:(f.bK.map (·.1)).Nodup
 r:OL H 77 5 a.rx (List.zipWith bT a.bC f.ax)
 v:∀ (i:Nat) (r:RA) (x:Rn × ai),a.bC[i]? = some r->f.ax[i]? = some x->RV H r.dx r.xs r.tx r.sx x.1
 len:a.bC.length=f.ax.length
 k:KO H a.kp a.km a.kl f.ks
 dj:(lD p a).Pairwise Dj
 lo:∀ j∈own p a,11<=j
 dU:∀ j∈dU a,j∉own p a/\j<H.next
theorem jR {p j k:Nat}{a:FA}{l:List Nat}(h:(lD p a)[k]? = some l)(hj:j∈l):j∈own p a:=aj2.2 ⟨l,aaO h,hj⟩
theorem FL.lt {H:Hp}{p:Nat}{a:FA}{f:Fm}(h:FL H p a f):∀ j∈own p a,j<H.next:=by
 intro j hj
 obtain⟨l,hl,hj⟩:=aj2.1 hj
 obtain⟨bs,c,_,hm⟩:=h.t
 have hk:=h.k.lt
 simp only[lD,aa7,akm,or_false] at hl
 rcases hl with rfl | rfl | rfl | rfl | rfl | rfl | rfl
 ·rw[No] at hj;subst hj;exact h.c.1
 ·rw[No] at hj;subst hj;exact hm.1
 ·rw[No] at hj;subst hj;exact hk _ (.head _)
 ·rw[No] at hj;subst hj;exact hk _ (.tail _ (.head _))
 ·exact h.n.rw.lt j hj
 ·exact h.r.1.rw.lt j hj
 ·exact hk _ (.tail _ (.tail _ hj))
theorem FL.UW {H:Hp}{p:Nat}{a:FA}{f:Fm}(h:FL H p a f):∀ m∈lD p a,∀ j∈m,j<H.next:=fun m hm j hj=>h.lt j (aj2.2 ⟨m,hm,hj⟩)
theorem G9 {a:FA}{i:Nat}{r:RA}(h:a.bC[i]? = some r):∀ j∈r.fp,j∈dU a:=fun j hj=>ahi.2 ⟨r,aaO h,hj⟩
theorem FL.out {H H':Hp}{p:Nat}{a:FA}{f:Fm}{S:List Nat}(h:FL H p a f)(k:Out S H H')(hs:∀ j∈own p a,j∉S)(hi:∀ j∈DfK.dU a,j∉S):FL H' p a f:=by
 obtain⟨bs,c,h1,h2⟩:=h.t
 have hk:=h.k.lt
 refine⟨h.c.out k (hs _ (jR (k:=0) rfl (.head _))),h.n.out k fun j hj=>hs _ (jR (k:=4) rfl hj),⟨bs,c,h1,h2.out k (hs _ (jR (k:=1) rfl (.head _)))⟩,h.vz,h.r.out k fun j hj=>hs _ (jR (k:=5) rfl hj),fun i r x hr hx=>(h.v i r x hr hx).out k fun j hj=>hi j (G9 hr j hj),h.len,h.k.out k fun j hj => ?_,h.dj,h.lo,fun j hj=>⟨(h.dU j hj).1,aew (h.dU j hj).2 k.1⟩⟩
 rcases aa7.1 hj with rfl | hj
 ·exact hs _ (jR (k:=2) rfl (.head _))
 ·rcases aa7.1 hj with rfl | hj
  ·exact hs _ (jR (k:=3) rfl (.head _))
  ·exact hs _ (jR (k:=6) rfl hj)
theorem FL.ar {H H':Hp}{p:Nat}{a:FA}{f:Fm}(h:FL H p a f)(k:Out [] H H'):FL H' p a f:=h.out k (fun _ _ q=>by cases q) fun _ _ q=>by cases q
structure FSt (H H':Hp)(p:Nat)(a a':FA):Prop where
 o:Out (own p a) H H'
 w:∀ j∈own p a',j∈own p a\/H.next<=j
 i:∀ j∈DfK.dU a',j∈DfK.dU a\/H.next<=j
theorem FSt.same {H H':Hp}(k:Out [] H H')(p:Nat)(a:FA):FSt H H' p a a:=⟨k.mono fun j hj=>(by cases hj),fun j hj => .inl hj,fun j hj => .inl hj⟩
theorem FSt.trans {H H' lH:Hp}{p:Nat}{a b c:FA}(h:FSt H H' p a b)(k:FSt H' lH p b c):FSt H lH p a c:=
 ⟨h.o.then k.o h.w,fun j hj=>(k.w j hj).elim (h.w j) fun q => .inr (ahS h.o.1 q),fun j hj=>(k.i j hj).elim (h.i j) fun q => .inr (ahS h.o.1 q)⟩
theorem FL.part {H H':Hp}{p:Nat}{a:FA}{f:Fm}{S:List Nat}{i:Nat}(h:FL H p a f)(k:Out S H H')(hS:(lD p a)[i]? = some S) :
  (i≠0->Cs H' p (fv a f) 67 0)/\(i≠4->Ow H' 9 1 a.nx (strs f.bf))/\(i≠1->∃ bs c,bs.length=f.bK.length/\Mp H' a.tm (zg (f.bK.zip bs)) c)/\(i≠5->OL H' 77 5 a.rx (List.zipWith bT a.bC f.ax))/\
  (i≠2->i≠3->i≠6->KO H' a.kp a.km a.kl f.ks)/\(∀ (i:Nat) (r:RA) (x:Rn × ai),a.bC[i]? = some r->f.ax[i]? = some x->RV H' r.dx r.xs r.tx r.sx x.1):=by
 have sep:∀ {j:Nat} {l:List Nat},i≠j->(lD p a)[j]? = some l->∀ x∈l,x∉S:=fun mE hl=>(Ar h.dj mE hS hl).symm
 obtain⟨bs,c,h1,h2⟩:=h.t
 refine⟨fun hi=>h.c.out k (sep hi rfl p (.head _)),fun hi=>h.n.out k (sep hi rfl),fun hi=>⟨bs,c,h1,h2.out k (sep hi rfl a.tm (.head _))⟩,fun hi=>h.r.out k (sep hi rfl),fun i1 i2 i3=>h.k.out k fun j hj => ?_,fun m r x hr hx=>(h.v m r x hr hx).out k fun j hj q=>(h.dU j (G9 hr j hj)).1 (jR hS q)⟩
 rcases aa7.1 hj with rfl | hj
 ·exact sep i1 rfl _ (.head _)
 ·rcases aa7.1 hj with rfl | hj
  ·exact sep i2 rfl _ (.head _)
  ·exact sep i3 rfl _ hj
theorem FL.aaZ {H H':Hp}{p:Nat}{a:FA}{f:Fm}(h:FL H p a f)(hn:H.next<=H'.next):∀ j∈DfK.dU a,j∉own p a/\j<H'.next:=fun j hj=>⟨(h.dU j hj).1,aew (h.dU j hj).2 hn⟩
theorem FL.clock {H:Hp}{p:Nat}{a:FA}{f:Fm}(h:FL H p a f)(z:Int):∃ H',st 1 (.ptr p 0) (.int .i64 z) H=some H'/\FL H' p a { f with ck:=z }/\FSt H H' p a a:=by
 obtain⟨H',s1,s2,s3,s4⟩:=fP h.c (by decide) (o:=0) (by simp) (v := .int .i64 z) rfl
 obtain⟨p0,p4,p1,p5,pk,pv⟩:=h.part s3 (i:=0) rfl
 exact⟨H',s1,⟨s2,p4 (by decide),p1 (by decide),h.vz,p5 (by decide),pv,h.len,pk (by decide) (by decide) (by decide),h.dj,h.lo,h.aaZ s3.1⟩,s3.mono fun j hj=>jR (k:=0) rfl hj,fun j hj => .inl hj,fun j hj => .inl hj⟩
theorem UU {p k N:Nat}{a a':FA}{l l':List Nat}(hs:lD p a'=(lD p a).set k l')(hk:(lD p a)[k]? = some l)(hl:∀ j∈l',j∈l\/N<=j):∀ j∈own p a',j∈own p a\/N<=j:=by
 intro j hj
 obtain⟨m,hm,hj⟩:=aj2.1 hj
 rw[hs] at hm
 rcases agt hm with q | rfl
 ·exact .inl (aj2.2 ⟨m,q,hj⟩)
 ·exact (hl j hj).imp (fun q=>jR hk q) id
theorem FL.an1 {H:Hp}{p:Nat}{a:FA}{f:Fm}(h:FL H p a f)(s:ai)(hn:f.bf.length<=1000) :
  ∃ lO H1 H2,(∀ i,i=H.next->eV 9 1 [(.str [])] false a.nx (.slice i 0 1 1 true 1) (al H [.str s] 9 0)=some (lO,H1))/\st 1 (.ptr p 1) lO H1=some H2/\FL H2 p { a with nx:=lO } { f with bf:=f.bf++[s] }/\FSt H H2 p a { a with nx:=lO }/\bq lO=true:=by
 obtain⟨lO,H1,p1,p2,p3,p4,p5⟩:=uB (fM:=9) (z:=[(.str [])]) (vs:=[.str s]) h.n rfl rfl (by decide) (by rw[gB];simp;omega)
 obtain⟨q0,q4,q1,q5,qk,qv⟩:=h.part p3 (i:=4) rfl
 obtain⟨H2,s1,s2,s3,s4⟩:=fP (q0 (by decide)) (by decide) (o:=1) (by simp) (v:=lO) p5
 have hs:lD p { a with nx:=lO }=(lD p a).set 4 (ah lO):=rfl
 have rM:(lD p { a with nx:=lO }).Pairwise Dj:=by rw[hs];exact Lj h.dj (k:=4) rfl h.UW p4
 have sep:∀ {j:Nat} {l:List Nat},0≠j->(lD p { a with nx:=lO })[j]? = some l->∀ x∈l,x∉[p]:=fun mE hl=>(Ar rM mE (i:=0) rfl hl).symm
 have hw:=UU (a:=a) (N:=H.next) hs (k:=4) rfl p4
 have hi:∀ j∈DfK.dU { a with nx:=lO },j∉own p { a with nx:=lO }/\j<H2.next:=fun j hj=>⟨fun q=>(hw j q).elim (h.dU j hj).1 fun z=>by have:=(h.dU j hj).2;omega,by have:=(h.dU j hj).2;have:=p3.1;have:=s3.1;omega⟩
 obtain⟨bs,c,t1,t2⟩:=q1 (by decide)
 have hO:Out (own p a) H H2:=(p3.mono fun j hj=>jR (k:=4) rfl hj).trans (s3.mono fun j hj=>jR (k:=0) rfl hj)
 refine⟨lO,H1,H2,p1,s1,⟨s2,?_,⟨bs,c,t1,t2.out s3 (sep (j:=1) (by decide) rfl _ (.head _))⟩,h.vz,(q5 (by decide)).out s3 (sep (j:=5) (by decide) rfl),fun i r x hr hx=>(qv i r x hr hx).out s3 fun j hj q=>(hi j (G9 (a:={ a with nx:=lO }) hr j hj)).1 (jR (k:=0) rfl q),h.len,(qk (by decide) (by decide) (by decide)).out s3 fun j hj => ?_,rM,fun j hj=>(hw j hj).elim (h.lo j) fun q => ?_,hi⟩,⟨hO,hw,fun j hj => .inl hj⟩,p5⟩
 ·rw[show strs (f.bf++[s])=strs f.bf++[.str s] by rw[FZ];rfl]
  exact p2.out s3 (sep (j:=4) (by decide) rfl)
 ·rcases aa7.1 hj with rfl | hj
  ·exact sep (j:=2) (by decide) rfl _ (.head _)
  ·rcases aa7.1 hj with rfl | hj
   ·exact sep (j:=3) (by decide) rfl _ (.head _)
   ·exact sep (j:=6) (by decide) rfl _ hj
 ·have:=h.lo p (jR (k:=0) rfl (.head _));have:=h.c.1;omega
theorem NH {l:List ((ai × ai) × Nat)}{s:ai}(h:∀ x∈l,x.1.1≠s):∀ e∈zg l,∃ q,e.key = .str q/\q≠s:=by
 intro e he
 obtain⟨x,hx,rfl⟩:=adD.1 he
 exact⟨_,rfl,h x hx⟩
def fw (l:List (ai × ai))(s:ai):Option ai:=(l.find? (fun x=>x.1==s)).map (·.2)
theorem Ls {l:List (ai × ai)}{k:ai}(h:fw l k=none):∀ x∈l,x.1≠k:=by
 unfold fw at h
 rw[Option.map_eq_none_iff,List.find?_eq_none] at h
 intro x hx q
 exact h x hx (by rw[q];exact beq_self_eq_true _)
theorem afL {l:List (ai × ai)}{k t:ai}(h:fw l k=some t):∃ a b,l=a++(k,t)::b/\∀ x∈a,x.1≠k:=by
 unfold fw at h
 rw[aam] at h
 obtain⟨x,h1,rfl⟩:=h
 rw[List.find?_eq_some_iff_append] at h1
 obtain⟨h2,a,b,rfl,h3⟩:=h1
 have:x.1=k:=by simpa using h2
 subst this
 exact⟨a,b,rfl,fun y hy q=>by have:=h3 y hy;rw[q] at this;simp at this⟩
theorem auT {a b:List (ai × ai)}{x:ai × ai}{bs:List Nat}(h:bs.length=(a++x::b).length):∃ b1 c b2,(a++x::b).zip bs=a.zip b1++(x,c)::b.zip b2:=by
 have h1:a.length<bs.length:=by rw[h,abj,aa1];omega
 refine⟨bs.take a.length,bs[a.length],bs.drop (a.length+1),?_⟩
 conv=>lhs;rw[show bs=bs.take a.length++bs[a.length]::bs.drop (a.length+1) by rw[List.getElem_cons_drop,ai3]]
 rw[List.zip_append (by rw[afs];omega)]
 rfl
theorem Nt {l:List (ai × ai)}{bs:List Nat}{k:ai}(h:∀ x∈l,x.1≠k):∀ y∈l.zip bs,y.1.1≠k:=fun y hy=>h y.1 (List.of_mem_zip hy).1
theorem J8 {H:Hp}{tm:Nat}{l:List (ai × ai)}(hm:∃ bs c,bs.length=l.length/\Mp H tm (zg (l.zip bs)) c)(iO:(l.map (·.1)).Nodup)(k:ai)(ok:Bool) :
  qI .str (.str []) ok (.map tm) (.str k) H=some (bif ok then .tuple [.str ((fw l k).getD []),.bool (fw l k).isSome] else .str ((fw l k).getD [])):=by
 obtain⟨bs,c,h1,h2⟩:=hm
 cases hg:fw l k with
 | none=>
  rw[XJ h2 (NH (Nt (bs:=bs) (Ls hg)))]
  cases ok<;>rfl
 | some t=>
  obtain⟨a,b,rfl,h3⟩:=afL hg
  obtain⟨b1,c1,b2,h4⟩:=auT h1
  rw[h4] at h2
  have hb:∀ x∈b,x.1≠k:=by
   intro x hx q
   rw[afg,ac4,af2,aju] at iO
   exact iO.2.1.1 (adD.2 ⟨x,hx,q⟩)
  have lh:zg (a.zip b1++((k,t),c1)::b.zip b2)=zg (a.zip b1)++⟨.str k,.str t,c1⟩::zg (b.zip b2):=by simp[zg]
  rw[lh] at h2
  rw[aef (k:=k) h2 rfl (NH (Nt (bs:=b1) h3)) (NH (Nt (bs:=b2) hb))]
  cases ok<;>rfl
theorem FL.auW {H:Hp}{p:Nat}{a:FA}{f:Fm}(h:FL H p a f){s:ai}(hs:fw f.bK s=none)(t:ai) :
  ∃ H',wP .str (.map a.tm) (.str s) (.str t) H=some H'/\FL H' p a { f with bK:=f.bK++[(s,t)] }/\FSt H H' p a a:=by
 obtain⟨bs,c,t1,t2⟩:=h.t
 obtain⟨H',u1,u2,u3⟩:=adz t2 (NH (Nt (bs:=bs) (Ls hs))) (.str t)
 obtain⟨q0,q4,q1,q5,qk,qv⟩:=h.part u3 (i:=1) rfl
 refine⟨H',u1,⟨q0 (by decide),q4 (by decide),⟨bs++[c],c+1,by simp[t1],?_⟩,?_,q5 (by decide),qv,h.len,qk (by decide) (by decide) (by decide),h.dj,h.lo,h.aaZ u3.1⟩,u3.mono fun j hj=>jR (k:=1) rfl hj,fun j hj => .inl hj,fun j hj => .inl hj⟩
 ·rw[List.zip_append t1.symm]
  simpa[zg] using u2
 ·rw[afg,af2]
  refine⟨h.vz,by simp,fun x hx y hy q => ?_⟩
  simp at hy
  obtain⟨z,hz,rfl⟩:=adD.1 hx
  exact Ls hs z hz (q.trans hy)
theorem L6 {bC:List RA}{xs:List (Rn × ai)}{i:Nat}{r:RA}{x:Rn × ai}(h1:bC[i]? = some r)(h2:xs[i]? = some x):(List.zipWith bT bC xs)[i]? = some (bT r x):=by rw[aeG,h1,h2]
theorem ZS {H:Hp}{r:RA}{x:Rn × ai}(h:RV H r.dx r.xs r.tx r.sx x.1):(bT r x).all bq=true:=by
 simp[bT,h.d.row.one,h.t.one,h.s.one,jN,EI]
theorem FL.ach {H:Hp}{p:Nat}{a:FA}{f:Fm}(h:FL H p a f){i b o:Nat}{x:Rn × ai}(hx:f.ax[i]? = some x)(oK:∀ kd,ia 5 a.rx (.int kd i)=some (.ptr b o)){r':RA}{R':Rn}(hR:RV H r'.dx r'.xs r'.tx r'.sx R')(hn:∀ j∈r'.fp,j∉own p a) :
  ∃ H',st 4 (.ptr b o) (.agg (rv r'.dx R'.st r'.tx r'.sx)) H=some H'/\FL H' p { a with bC:=a.bC.set i r' } { f with ax:=f.ax.set i (R',x.2) }/\Out (ah a.rx) H H'/\(∀ j∈DfK.dU { a with bC:=a.bC.set i r' },j∈DfK.dU a\/j∈r'.fp):=by
 have bD:=(aaw.1 hx).1
 have hr:a.bC[i]? = some (a.bC[i]'(by rw[h.len];exact bD)):=aaC _
 generalize a.bC[i]'(by rw[h.len];exact bD)=r at hr
 have S6:∀ v∈rv r'.dx R'.st r'.tx r'.sx,bq v=true:=by
  intro v hv
  simp only[aa7,akm,or_false] at hv
  rcases hv with rfl | rfl | rfl | rfl
  ·exact hR.d.row.one
  ·rfl
  ·exact hR.t.one
  ·exact hR.s.one
 obtain⟨H',s1,s2,s3,s4⟩:=h.r.OT (k:=0) (vs:=rv r'.dx R'.st r'.tx r'.sx) (L6 hr hx) oK S6 (by simp) (by decide)
 rw[afF] at s1
 obtain⟨q0,q4,q1,q5,qk,qv⟩:=h.part s3 (i:=5) rfl
 have e9:js (bT r x) 0 (rv r'.dx R'.st r'.tx r'.sx)=bT r' (R',x.2):=rfl
 rw[e9] at s2
 have GP:(List.zipWith bT a.bC f.ax).set i (bT r' (R',x.2))=List.zipWith bT (a.bC.set i r') (f.ax.set i (R',x.2)):=by
  apply ajs
  intro m
  rw[aeG,ah2,ah2,ah2,aeG]
  by_cases hm:i=m
  ·subst hm
   rw[if_pos rfl,if_pos rfl,if_pos rfl,if_pos (by rw[agM];have:=h.len;omega),if_pos (by rw[h.len];exact bD),if_pos bD]
  ·rw[if_neg hm,if_neg hm,if_neg hm]
 rw[GP] at s2
 have BP:∀ j∈DfK.dU { a with bC:=a.bC.set i r' },j∈DfK.dU a\/j∈r'.fp:=by
  intro j hj
  obtain⟨m,hm,jP⟩:=ahi.1 hj
  rcases agt hm with q | q
  ·exact .inl (ahi.2 ⟨m,q,jP⟩)
  ·rw[q] at jP;exact .inr jP
 refine⟨H',?_,⟨q0 (by decide),q4 (by decide),q1 (by decide),h.vz,s2,?_,by rw[adU,adU];exact h.len,qk (by decide) (by decide) (by decide),h.dj,h.lo,fun j hj => ?_⟩,s3,BP⟩
 ·unfold st
  have:Nat.beq 4 (rv r'.dx R'.st r'.tx r'.sx).length=true:=rfl
  simp only[Dv,this,cond_true]
  exact s1
 ·intro m r2 x2 h1 h2
  simp only at h1 h2
  rw[ah2] at h1 h2
  by_cases hm:i=m
  ·subst hm
   rw[if_pos rfl,if_pos (by rw[h.len];exact bD)] at h1
   rw[if_pos rfl,if_pos bD] at h2
   cases h1;cases h2
   exact hR.out s3 fun j hj q=>hn j hj (jR (k:=5) rfl q)
  ·rw[if_neg hm] at h1 h2
   exact qv m r2 x2 h1 h2
 ·have mb:=s3.1
  rcases BP j hj with q | q
  ·exact⟨(h.dU j q).1,by have:=(h.dU j q).2;omega⟩
  ·exact⟨hn j q,by have:=hR.lt j q;omega⟩
theorem FL.P6 {H:Hp}{p:Nat}{a:FA}{f:Fm}(h:FL H p a f){r':RA}{x:Rn × ai}(hR:RV H r'.dx r'.xs r'.tx r'.sx x.1)(hn:∀ j∈r'.fp,j∉own p a)(hlen:f.ax.length<=1000) :
  ∃ ef H1 H2,(∀ i,i=H.next->eV 77 5 [.ae,(.int .i64 0),.ae,.ae,(.str [])] false a.rx (.slice i 0 1 1 true 5) (al H (bT r' x) 77 0)=some (ef,H1))/\st 1 (.ptr p 3) ef H1=some H2/\FL H2 p { a with rx:=ef,bC:=a.bC++[r'] } { f with ax:=f.ax++[x] }/\Out (own p a) H H2/\(∀ j∈own p { a with rx:=ef,bC:=a.bC++[r'] },j∈own p a\/H.next<=j)/\(∀ j∈DfK.dU { a with rx:=ef,bC:=a.bC++[r'] },j∈DfK.dU a\/j∈r'.fp)/\bq ef=true:=by
 obtain⟨ef,H1,p1,p2,p3,p4,p5⟩:=h.r.push (fM:=77) (z:=[.ae,(.int .i64 0),.ae,.ae,(.str [])]) (vs:=bT r' x) (ZS hR) rfl (by decide) (by rw[agM];have:=h.len;omega)
 obtain⟨q0,q4,q1,q5,qk,qv⟩:=h.part p3 (i:=5) rfl
 obtain⟨H2,s1,s2,s3,s4⟩:=fP (q0 (by decide)) (by decide) (o:=3) (by simp) (v:=ef) p5
 have hs:lD p { a with rx:=ef,bC:=a.bC++[r'] }=(lD p a).set 5 (ah ef):=rfl
 have rM:(lD p { a with rx:=ef,bC:=a.bC++[r'] }).Pairwise Dj:=by rw[hs];exact Lj h.dj (k:=5) rfl h.UW p4
 have sep:∀ {j:Nat} {l:List Nat},0≠j->(lD p { a with rx:=ef,bC:=a.bC++[r'] })[j]? = some l->∀ x∈l,x∉[p]:=fun mE hl=>(Ar rM mE (i:=0) rfl hl).symm
 have hw:=UU (a:=a) (N:=H.next) hs (k:=5) rfl p4
 have BP:∀ j∈DfK.dU { a with rx:=ef,bC:=a.bC++[r'] },j∈DfK.dU a\/j∈r'.fp:=by
  intro j hj
  obtain⟨m,hm,jP⟩:=ahi.1 hj
  rcases abN.1 hm with q | q
  ·exact .inl (ahi.2 ⟨m,q,jP⟩)
  ·rw[No] at q;rw[q] at jP;exact .inr jP
 have fA:=hR.lt
 have hi:∀ j∈DfK.dU { a with rx:=ef,bC:=a.bC++[r'] },j∉own p { a with rx:=ef,bC:=a.bC++[r'] }/\j<H2.next:=fun j hj=>by
  have mb:=p3.1;have axA:=s3.1
  rcases BP j hj with q | q
  ·exact⟨fun z=>(hw j z).elim (h.dU j q).1 fun y=>by have:=(h.dU j q).2;omega,by have:=(h.dU j q).2;omega⟩
  ·exact⟨fun z=>(hw j z).elim (hn j q) fun y=>by have:=fA j q;omega,by have:=fA j q;omega⟩
 obtain⟨bs,c,t1,t2⟩:=q1 (by decide)
 have hO:Out (own p a) H H2:=(p3.mono fun j hj=>jR (k:=5) rfl hj).trans (s3.mono fun j hj=>jR (k:=0) rfl hj)
 have GP:List.zipWith bT a.bC f.ax++[bT r' x]=List.zipWith bT (a.bC++[r']) (f.ax++[x]):=by rw[List.zipWith_append h.len];rfl
 rw[GP] at p2
 refine⟨ef,H1,H2,p1,s1,⟨s2,(q4 (by decide)).out s3 (sep (j:=4) (by decide) rfl),⟨bs,c,t1,t2.out s3 (sep (j:=1) (by decide) rfl _ (.head _))⟩,h.vz,p2.out s3 (sep (j:=5) (by decide) rfl),fun i r y hr hy => ?_,by simp[h.len],(qk (by decide) (by decide) (by decide)).out s3 fun j hj => ?_,rM,fun j hj=>(hw j hj).elim (h.lo j) fun q => ?_,hi⟩,hO,hw,BP,p5⟩
 ·have lG:=hi
  have key:RV H1 r.dx r.xs r.tx r.sx y.1:=by
   simp only at hr hy
   by_cases bD:i<a.bC.length
   ·rw[abX bD] at hr
    rw[abX (by rw[<-h.len];exact bD)] at hy
    exact qv i r y hr hy
   ·rw[ack (by omega)] at hr
    rw[ack (by rw[<-h.len];omega),<-h.len] at hy
    have h0:i-a.bC.length=0:=by
     have:=(aaw.1 hr).1
     simp at this;omega
    rw[h0] at hr hy
    cases hr;cases hy
    exact hR.out p3 fun j hj q=>hn j hj (jR (k:=5) rfl q)
  exact key.out s3 fun j hj q=>(hi j (G9 (a:={ a with rx:=ef,bC:=a.bC++[r'] }) hr j hj)).1 (jR (k:=0) rfl q)
 ·rcases aa7.1 hj with rfl | hj
  ·exact sep (j:=2) (by decide) rfl _ (.head _)
  ·rcases aa7.1 hj with rfl | hj
   ·exact sep (j:=3) (by decide) rfl _ (.head _)
   ·exact sep (j:=6) (by decide) rfl _ hj
 ·have:=h.lo p (jR (k:=0) rfl (.head _));have:=h.c.1;omega
theorem FL.gL {H:Hp}{p:Nat}{a:FA}{f:Fm}(h:FL H p a f)(hn:f.ks.length<128){k:Ky}(hk:la f.ks k=none)(id:Int) :
  ∃ ve H',cK (.func (.func 33) [] []) [.ptr a.kp 0,.agg (cg k),.int .i64 id] H=some (.tuple [.int .i64 id,.bool true],H')/\FL H' p { a with kl:=ve } { f with ks:=f.ks++[(k,id)] }/\FSt H H' p a { a with kl:=ve }:=by
 obtain⟨ve,H',k1,k2,k3,k4⟩:=aiq h.k hn hk id
 have hS:∀ j∈BM a.kp a.km a.kl,j∈[a.kp]\/j∈[a.km]\/j∈ah a.kl:=fun j hj=>by
  rcases aa7.1 hj with rfl | hj
  ·exact .inl (.head _)
  ·rcases aa7.1 hj with rfl | hj
   ·exact .inr (.inl (.head _))
   ·exact .inr (.inr hj)
 have sep:∀ {j:Nat} {l:List Nat},j≠2->j≠3->j≠6->(lD p a)[j]? = some l->∀ x∈l,x∉BM a.kp a.km a.kl:=fun h2 h3 h6 hl x hx q=>by
  rcases hS x q with z | z | z
  ·exact Ar h.dj h2 hl (j:=2) rfl x hx z
  ·exact Ar h.dj h3 hl (j:=3) rfl x hx z
  ·exact Ar h.dj h6 hl (j:=6) rfl x hx z
 have hso:∀ j∈BM a.kp a.km a.kl,j∈own p a:=fun j hj=>by
  rcases hS j hj with z | z | z
  ·exact jR (k:=2) rfl z
  ·exact jR (k:=3) rfl z
  ·exact jR (k:=6) rfl z
 have hs:lD p { a with kl:=ve }=(lD p a).set 6 (ah ve):=rfl
 have rM:(lD p { a with kl:=ve }).Pairwise Dj:=by rw[hs];exact Lj h.dj (k:=6) rfl h.UW k4
 have hw:=UU (a:=a) (N:=H.next) hs (k:=6) rfl k4
 have hi:∀ j∈DfK.dU { a with kl:=ve },j∉own p { a with kl:=ve }/\j<H'.next:=fun j hj=>⟨fun q=>(hw j q).elim (h.dU j hj).1 fun z=>by have:=(h.dU j hj).2;omega,by have:=(h.dU j hj).2;have:=k3.1;omega⟩
 obtain⟨bs,c,t1,t2⟩:=h.t
 refine⟨ve,H',k1,⟨h.c.out k3 (sep (j:=0) (by decide) (by decide) (by decide) rfl _ (.head _)),h.n.out k3 (sep (j:=4) (by decide) (by decide) (by decide) rfl),⟨bs,c,t1,t2.out k3 (sep (j:=1) (by decide) (by decide) (by decide) rfl _ (.head _))⟩,h.vz,h.r.out k3 (sep (j:=5) (by decide) (by decide) (by decide) rfl),fun i r x hr hx=>(h.v i r x hr hx).out k3 fun j hj q=>(h.dU j (G9 hr j hj)).1 (hso j q),h.len,k2,rM,fun j hj=>(hw j hj).elim (h.lo j) fun q => ?_,hi⟩,k3.mono hso,hw,fun j hj => .inl hj⟩
 have:=h.lo p (jR (k:=0) rfl (.head _));have:=h.c.1;omega
def XC (n:Nat):Bool:=Nat.ble (dec n).length 4&&(dec n).all (fun b=>Nat.ble 48 b&&Nat.ble b 57)&&(match Lib.atoiAll ((dec n).map UInt8.ofNat) with | .ok v=>v==(n:Int) | _=>false)
theorem ajk:∀ n:Fin 1001,XC n.val=true:=by decide +kernel
theorem DD {n:Int}(h0:0<=n)(h1:n<=1000):qO (dec n)=some n.toNat/\(dec n).length<=4/\∀ b∈dec n,48<=b/\b<=57:=by
 obtain⟨m,rfl⟩:∃ m:Nat,n=m:=⟨n.toNat,by omega⟩
 have h:=ajk ⟨m,by omega⟩
 unfold XC at h
 simp only[aaT,afV,aeO] at h
 obtain⟨⟨l,d⟩,a⟩:=h
 refine⟨?_,l,fun b hb=>d b hb⟩
 unfold qO
 rw[if_pos l]
 have e:xS (dec (m:Int))=(dec (m:Int)).map UInt8.ofNat:=rfl
 rw[e]
 revert a
 cases Lib.atoiAll ((dec (m:Int)).map UInt8.ofNat) with
 | ok v=>
  intro a
  obtain rfl:v=(m:Int):=by simpa using a
  simp
 | _=>intro a;cases a
theorem ajw {s:ai}{n:Nat}(h:qO s=some n):dec (n:Int)=s:=by
 unfold qO at h
 split at h
 ·split at h
  ·split at h
   ·rename_i v _ hv
    cases h
    rw[show ((v.toNat:Nat):Int)=v by omega]
    exact hv.1
   ·cases h
  ·cases h
 ·cases h
theorem Z4 {p:Nat->Bool}:∀ {l:ai},l.dropWhile p=[]->∀ b∈l,p b=true
 | [],_,b,hb=>by cases hb
 | a::l,h,b,hb=>by
  rw[List.dropWhile_cons] at h
  split at h
  ·rename_i ha
   rcases aa7.1 hb with rfl | hb
   ·exact ha
   ·exact Z4 h b hb
  ·cases h
theorem aim {s c:ai}(h:Bm s c=[]):∀ b∈s,b∈c:=by
 rw[afR] at h
 replace h:=Z4 h
 intro b hb
 have tT:b∈s.reverse:=List.mem_reverse.2 hb
 rw[<-List.takeWhile_append_dropWhile (p:=(c.contains ·)) (l:=s.reverse),abN] at tT
 rcases tT with q | q
 ·have:=aeO.1 (List.all_takeWhile (p:=(c.contains ·)) (l:=s.reverse)) b q
  simpa using this
 ·have:=h b (List.mem_reverse.2 q)
  simpa using this
theorem afe {s:ai}(h:tP s=true):s≠[]/\s.length<=16/\∀ b∈s,b∈sN:=by
 unfold tP at h
 simp only[aaT,aj7,beq_eq_false_iff_ne,decide_eq_true_eq,beq_iff_eq] at h
 exact⟨h.1,by omega,aim h.2.2⟩
theorem adW:∀ b∈sN,b≠32/\b≠44/\b≠59/\b≠61/\b<256:=by decide
theorem alp:∀ b:Nat,48<=b->b<=57->b∈sN:=by
 intro b h1 h2
 have:∀ k:Fin 10,48+k.val∈sN:=by decide
 have:=this ⟨b-48,by omega⟩
 simpa[show 48+(b-48)=b by omega] using this
def jT (ts:List Tk)(a:Int):ai:=(names ts).getD a.toNat []
def iD (ts:List Tk):Bool->List Int->ai
 | _,[]=>[]
 | f,a::r=>((if f then [32,97,102,116,101,114,61] else [44])++jT ts a)++iD ts false r
def jv (key:ai)(n p:Int):ai:=if n=p then [] else key++dec n
def eU (ts:List Tk)(t:Tk):ai:=
 ((t.name++iD ts true t.after)++((jv [32,114,101,116,114,121,61] t.cz 0++jv [32,119,97,105,116,61] t.wait 10)++jv [32,98,97,115,101,61] t.base 1))++(if t.on=[] then [] else [32,111,110,61]++t.on)
noncomputable def lM (ts:List Tk):ai:=if iF ts=0 then jV 59 (ts.map (eU ts)) else []
def Ay (k v:ai):ai:=k++61::v
def kG (c:Prop) [Decidable c] (k v:ai):List ai:=if c then [] else [Ay k v]
def Av (ts:List Tk)(t:Tk):List ai:=t.name::(kG (t.after=[]) xr (jV 44 (t.after.map (jT ts)))++(kG (t.cz=0) yW (dec t.cz)++(kG (t.wait=10) xz (dec t.wait)++(kG (t.base=1) xa (dec t.base)++kG (t.on=[]) tG t.on))))
theorem MX (c:Nat):∀ (l:List ai) (a:ai),jV c (a::l)=a++l.flatMap (fun s=>c::s)
 | [],a=>by simp[jV]
 | b::l,a=>by
  show a++c::jV c (b::l)=_
  rw[MX c l b];simp
theorem YF (c:Nat):∀ (l:List ai),l≠[]->(jV c l).length+1=dC l+l.length
 | [],h=>absurd rfl h
 | [a],_=>by simp[jV,dC]
 | a::b::l,_=>by
  have:=YF c (b::l) (by simp)
  show (a++c::jV c (b::l)).length+1=_
  simp[dC] at this ⊢
  omega
theorem RU {c b:Nat}:∀ {l:List ai},b∈jV c l->b=c\/∃ s∈l,b∈s
 | [],h=>by cases h
 | [a],h => .inr ⟨a,.head _,h⟩
 | a::d::l,h=>by
  have h:b∈a++c::jV c (d::l):=h
  rw[abN,aa7] at h
  rcases h with h | h | h
  ·exact .inr ⟨a,.head _,h⟩
  ·exact .inl h
  ·exact (RU h).imp id fun⟨s,hs,hb⟩=>⟨s,.tail _ hs,hb⟩
theorem PI (ts:List Tk):∀ l,iD ts false l=(l.map (jT ts)).flatMap (fun s=>44::s)
 | []=>rfl
 | a::r=>by simp[iD,PI ts r]
theorem aa0 (ts:List Tk)(a:Int)(r:List Int):iD ts true (a::r)=32::(xr++61::jV 44 ((a::r).map (jT ts))):=by
 rw[ac4,MX,<-PI]
 simp[iD]
theorem Yy (ts:List Tk)(t:Tk):eU ts t=jV 32 (Av ts t):=by
 have h1:iD ts true t.after=(kG (t.after=[]) xr (jV 44 (t.after.map (jT ts)))).flatMap (fun s=>32::s):=by
  unfold kG Ay
  cases h:t.after with
  | nil=>rfl
  | cons a r=>rw[aa0];simp
 have h2:∀ (k v:ai) (n p:Int),v=dec n->jv (32::(k++[61])) n p=(kG (n=p) k v).flatMap (fun s=>32::s):=by
  intro k v n p hv
  subst hv
  unfold jv kG Ay
  split<;>simp
 have h3:(if t.on=[] then [] else [32,111,110,61]++t.on)=(kG (t.on=[]) tG t.on).flatMap (fun s=>32::s):=by
  unfold kG Ay
  split<;>simp
 have a:=h2 yW _ t.cz 0 rfl
 have b:=h2 xz _ t.wait 10 rfl
 have c:=h2 xa _ t.base 1 rfl
 unfold eU Av
 rw[MX,akj,akj,akj,akj,<-h1,<-h3,<-a,<-b,<-c]
 simp only[afk,List.cons_append,ai6]
theorem agb {c:Nat}{a:ai}(r:ai)(h:c∉a):cut c (a++c::r)=(a,r,true):=by
 unfold cut
 rw[Xx r 0 h,aeJ]
 simp only
 rw[List.take_left',List.drop_append]
 ·simp
 ·rfl
theorem awy:∀ j i:Fin 5,i.val<=j.val->∃ k,lz[j.val]? = some k/\61∉k/\(lz.drop i.val).findIdx? (fun a=>k==a)=some (j.val-i.val):=by
 intro j i h
 have:∀ j i:Fin 5,i.val<=j.val->61∉lz[j.val]! /\ (lz.drop i.val).findIdx? (fun a=>lz[j.val]! == a)=some (j.val-i.val):=by decide
 refine⟨lz[j.val]!,?_,this j i h⟩
 have h5:∀ j:Fin 5,lz[j.val]? = some lz[j.val]! := by decide
 exact h5 j
theorem ai5 {bf r:List ai}{t:Tk}{i j:Nat}{k v:ai}(hk:lz[j]? = some k)(hi:i<=j):mW bf (Ay k v::r) t (lz.drop i)=match jH t k v bf with | none=>none | some t'=>mW bf r t' (lz.drop (j+1)):=by
 have hj:j<5:=(aaw.1 hk).1
 obtain⟨k',h1,h2,h3⟩:=awy ⟨j,hj⟩ ⟨i,by omega⟩ hi
 rw[hk] at h1
 cases h1
 have hc:=agb v h2
 rw[mW]
 unfold Ay
 rw[hc]
 simp only
 simp only at h3
 rw[h3]
 simp only
 rw[if_neg (by simp),List.drop_drop]
 rw[show i+(j-i+1)=j+1 by omega]
 try (cases jH t k v bf<;>rfl)
theorem HZ {bf r:List ai}{t t':Tk}{i j:Nat}{k v:ai}{c:Prop} [Decidable c] (hk:lz[j]? = some k) (hi:i<=j) (h1:c->t'=t) (h2:¬ c->jH t k v bf=some t') :
  ∃ i',i'<=j+1/\mW bf (kG c k v++r) t (lz.drop i)=mW bf r t' (lz.drop i'):=by
 by_cases hc:c
 ·refine⟨i,by omega,?_⟩
  rw[h1 hc];unfold kG;rw[if_pos hc];rfl
 ·refine⟨j+1,aaU _,?_⟩
  unfold kG;rw[if_neg hc]
  show mW bf (Ay k v::r) t _=_
  rw[ai5 hk hi,h2 hc]
theorem Yt:∀ {l:List ai} {i:Nat} {s:ai},l.Nodup->l[i]? = some s->l.findIdx? (fun a=>s==a)=some i
 | [],i,s,_,h=>by simp at h
 | a::l,0,s,hn,h=>by
  simp only[aek,adE] at h
  subst h
  simp[ai8]
 | a::l,i+1,s,hn,h=>by
  simp only[adL] at h
  rw[aju] at hn
  have aH:(s==a)=false:=by
   rw[beq_eq_false_iff_ne];intro e;subst e
   exact hn.1 (aaO h)
  rw[ai8,aH,Yt hn.2 h];rfl
theorem Iq {ts:List Tk}{a:Int}(h0:0<=a)(h1:a<=(ts.length:Int)-1):(names ts)[a.toNat]? = some (jT ts a)/\jT ts a∈names ts:=by
 have hl:a.toNat<(names ts).length:=by unfold names;rw[adY];omega
 have:(names ts)[a.toNat]? = some (jT ts a):=by
  unfold jT
  rw[ah7,aaC hl];rfl
 exact⟨this,aaO this⟩
theorem ZI {ts:List Tk}(hn:(names ts).Nodup):∀ {l:List Int},(∀ a∈l,0<=a/\a<=(ts.length:Int)-1)->uj (names ts) (l.map (jT ts))=some l
 | [],_=>rfl
 | a::l,h=>by
  obtain⟨a0,a1⟩:=h a (.head _)
  show uj (names ts) (jT ts a::l.map (jT ts))=_
  rw[uj,Yt hn (Iq a0 a1).1]
  simp only
  rw[ZI hn fun b hb=>h b (.tail _ hb)]
  show some ((a.toNat:Int)::l)=_
  rw[show ((a.toNat:Nat):Int)=a by omega]
structure Fit (ts:List Tk):Prop where
 nd:(names ts).Nodup
 nm:∀ s∈names ts,s≠[]/\s.length<=16/\∀ b∈s,b∈sN
 jY:∀ t∈ts,(∀ a∈t.after,0<=a/\a<=(ts.length:Int)-1)/\t.after.length<=16
 num:∀ t∈ts,0<=t.cz/\t.cz<=8/\1<=t.wait/\t.wait<=1000/\1<=t.base/\t.base<=1000
 on:∀ t∈ts,t.on=[]\/(t.on.length<=16/\∀ b∈t.on,b∈sN)
theorem Fit.agB {ts:List Tk}(h:Fit ts){s:ai}(hs:s∈names ts):44∉s:=fun q=>(adW 44 ((h.nm s hs).2.2 44 q)).2.1 rfl
theorem asG {ts:List Tk}(hF:Fit ts){t:Tk}(ht:t∈ts):wm (names ts) (Av ts t)=some t:=by
 obtain⟨n1,n2,n3,n4,n5,n6⟩:=hF.num t ht
 obtain⟨a1,a2⟩:=hF.jY t ht
 have hm:∀ s∈t.after.map (jT ts),s∈names ts:=fun s hs=>by
  obtain⟨a,ha,rfl⟩:=adD.1 hs
  exact (Iq (a1 a ha).1 (a1 a ha).2).2
 unfold wm Av
 show mW (names ts) _ ⟨t.name,[],0,10,1,[]⟩ (lz.drop 0)=_
 obtain⟨i1,l1,e1⟩:=HZ (bf:=names ts) (r:=kG (t.cz=0) yW (dec t.cz)++(kG (t.wait=10) xz (dec t.wait)++(kG (t.base=1) xa (dec t.base)++kG (t.on=[]) tG t.on))) (t:=⟨t.name,[],0,10,1,[]⟩) (t':=⟨t.name,t.after,0,10,1,[]⟩) (i:=0) (j:=0) (k:=xr) (v:=jV 44 (t.after.map (jT ts))) (c:=t.after=[]) rfl (aaU _) (fun h=>by rw[h]) fun h=>by
  unfold jH
  rw[if_pos rfl,Md (by simpa using h) fun s hs=>hF.agB (hm s hs),ZI hF.nd a1];rfl
 obtain⟨i2,l2,e2⟩:=HZ (bf:=names ts) (r:=kG (t.wait=10) xz (dec t.wait)++(kG (t.base=1) xa (dec t.base)++kG (t.on=[]) tG t.on)) (t:=⟨t.name,t.after,0,10,1,[]⟩) (t':=⟨t.name,t.after,t.cz,10,1,[]⟩) (i:=i1) (j:=1) (k:=yW) (v:=dec t.cz) (c:=t.cz=0) rfl l1 (fun h=>by rw[h]) fun h=>by
  unfold jH
  rw[if_neg (by decide),if_pos rfl,(DD n1 (by omega)).1]
  have e:((t.cz.toNat:Nat):Int)=t.cz:=by omega
  simp only[ae6,e]
 obtain⟨i3,l3,e3⟩:=HZ (bf:=names ts) (r:=kG (t.base=1) xa (dec t.base)++kG (t.on=[]) tG t.on) (t:=⟨t.name,t.after,t.cz,10,1,[]⟩) (t':=⟨t.name,t.after,t.cz,t.wait,1,[]⟩) (i:=i2) (j:=2) (k:=xz) (v:=dec t.wait) (c:=t.wait=10) rfl l2 (fun h=>by rw[h]) fun h=>by
  unfold jH
  rw[if_neg (by decide),if_neg (by decide),if_pos rfl,(DD (by omega) n4).1]
  have e:((t.wait.toNat:Nat):Int)=t.wait:=by omega
  simp only[ae6,e]
 obtain⟨i4,l4,e4⟩:=HZ (bf:=names ts) (r:=kG (t.on=[]) tG t.on) (t:=⟨t.name,t.after,t.cz,t.wait,1,[]⟩) (t':=⟨t.name,t.after,t.cz,t.wait,t.base,[]⟩) (i:=i3) (j:=3) (k:=xa) (v:=dec t.base) (c:=t.base=1) rfl l3 (fun h=>by rw[h]) fun h=>by
  unfold jH
  rw[if_neg (by decide),if_neg (by decide),if_neg (by decide),if_pos rfl,(DD (by omega) n6).1]
  have e:((t.base.toNat:Nat):Int)=t.base:=by omega
  simp only[ae6,e]
 obtain⟨i5,l5,e5⟩:=HZ (bf:=names ts) (r:=[]) (t:=⟨t.name,t.after,t.cz,t.wait,t.base,[]⟩) (t':=t) (i:=i4) (j:=4) (k:=tG) (v:=t.on) (c:=t.on=[]) rfl l4 (fun h=>by rw[<-h]) fun h=>by
  unfold jH
  rw[if_neg (by decide),if_neg (by decide),if_neg (by decide),if_neg (by decide),if_pos rfl,if_neg h]
 rw[af9] at e5
 rw[List.tail_cons,e1,e2,e3,e4,e5,mW]
theorem aff {ts:List Tk}(hF:Fit ts){t:Tk}(ht:t∈ts):∀ s∈Av ts t,∀ b∈s,b∈sN\/b=44\/b=61:=by
 obtain⟨n1,n2,n3,n4,n5,n6⟩:=hF.num t ht
 obtain⟨a1,a2⟩:=hF.jY t ht
 have aY:∀ (c:Prop) [Decidable c] (k v:ai),(∀ b∈k,b∈sN)->(¬ c->∀ b∈v,b∈sN\/b=44)->∀ s∈kG c k v,∀ b∈s,b∈sN\/b=44\/b=61:=by
  intro c _ k v hk hv s hs b hb
  unfold kG at hs
  split at hs
  ·cases hs
  ·rename_i hc
   rw[No] at hs
   subst hs
   unfold Ay at hb
   rw[abN,aa7] at hb
   rcases hb with hb | hb | hb
   ·exact .inl (hk b hb)
   ·exact .inr (.inr hb)
   ·exact (hv hc b hb).imp id .inl
 have R4:∀ n:Int,0<=n->n<=1000->∀ b∈dec n,b∈sN\/b=44:=fun n h0 h1 b hb=>by
  obtain⟨x,y⟩:=(DD h0 h1).2.2 b hb
  exact .inl (alp b x y)
 intro s hs
 unfold Av at hs
 simp only[aa7,abN] at hs
 rcases hs with rfl | hs | hs | hs | hs | hs
 ·intro b hb
  exact .inl ((hF.nm _ (adD.2 ⟨t,ht,rfl⟩)).2.2 b hb)
 ·refine aY _ _ _ (by decide) (fun _ b hb => ?_) s hs
  rcases RU hb with rfl | ⟨u,hu,hb⟩
  ·exact .inr rfl
  ·obtain⟨a,ha,rfl⟩:=adD.1 hu
   exact .inl ((hF.nm _ (Iq (a1 a ha).1 (a1 a ha).2).2).2.2 b hb)
 ·exact aY _ _ _ (by decide) (fun _=>R4 _ n1 (by omega)) s hs
 ·exact aY _ _ _ (by decide) (fun _=>R4 _ (by omega) n4) s hs
 ·exact aY _ _ _ (by decide) (fun _=>R4 _ (by omega) n6) s hs
 ·refine aY _ _ _ (by decide) (fun hc b hb => ?_) s hs
  rcases hF.on t ht with q | q
  ·exact absurd q hc
  ·exact .inl (q.2 b hb)
theorem okB {b:Nat}(h:b∈sN\/b=44\/b=61):b≠32/\b≠59/\b<256:=by
 rcases h with h | rfl | rfl
 ·have:=adW b h;omega
 ·decide
 ·decide
theorem acH {ts:List Tk}(hF:Fit ts){t:Tk}(ht:t∈ts):∀ b∈eU ts t,b≠59/\b<256:=by
 intro b hb
 rw[Yy] at hb
 rcases RU hb with rfl | ⟨s,hs,hb⟩
 ·decide
 ·have:=okB (aff hF ht s hs b hb);omega
theorem VG {ts:List Tk}(hF:Fit ts){t:Tk}(ht:t∈ts):kZ (eU ts t)=Av ts t:=by
 unfold kZ
 rw[Yy]
 exact Md (by unfold Av;simp) fun s hs q=>(okB (aff hF ht s hs 32 q)).1 rfl
theorem Yz {ts:List Tk}(hF:Fit ts):∀ {us:List Tk},(∀ t∈us,t∈ts)->oY (names ts) (us.map (eU ts))=some us
 | [],_=>rfl
 | u::us,h=>by
  show oY (names ts) (eU ts u::us.map (eU ts))=_
  rw[oY,VG hF (h u (.head _)),asG hF (h u (.head _)),Yz hF fun t ht=>h t (.tail _ ht)];rfl
theorem arK {ts:List Tk}(h:(List.range ts.length).any (dup ts)=false):(names ts).Nodup:=by
 rw[ajt] at h
 have key:∀ k,k<=ts.length->(names (ts.take k)).Nodup:=by
  intro k
  induction k with
  | zero=>intro _;rw[ai2];exact akK
  | succ k ih=>
   intro hk
   have hg:ts[k]? = some (ts[k]'(by omega)):=aaC (by omega)
   have h1:=h k (akH.2 (by omega))
   unfold dup at h1
   rw[hg] at h1
   rw[aiI,hg]
   have h2:((names (ts.take k)).any fun s=>s==(ts[k]'(by omega)).name)=false:=by
    simp only at h1
    rwa[ah4] at h1
   rw[ajt] at h2
   unfold names at ih h2 ⊢
   rw[afg,af2]
   refine⟨ih (by omega),by simp,fun a ha b hb e => ?_⟩
   simp only[Option.toList_some,ac4,akP,No] at hb
   subst hb
   exact h2 a ha (by simp[e])
 have:=key ts.length (aaU _)
 rwa[List.take_length] at this
theorem au0 {ts:List Tk}(h:iF ts=0)(dh:∀ t∈ts,t.after.length<=16):Fit ts/\1<=ts.length/\ts.length<=16:=by
 unfold iF at h
 split at h
 ·cases h
 ·rename_i h1
  split at h
  ·cases h
  ·rename_i h2
   split at h
   ·cases h
   ·rename_i h6
    split at h
    ·cases h
    ·rename_i h3
     split at h
     ·cases h
     ·rename_i h4
      have h1:=aiO.1 h1
      have ha:=LV (by simpa using h4)
      rw[ah4,ajt] at h2 h3
      have hq:∀ t∈ts,xq t=false/\tB t=false/\∀ a∈t.after,0<=a/\a<=(ts.length:Int)-1:=fun t ht=>by
       obtain⟨i,hi⟩:=adR ht
       have bD:=(aaw.1 hi).1
       have a:=h2 i (akH.2 bD)
       have b:=h3 i (akH.2 bD)
       unfold p1 at a
       unfold p3 at b
       rw[hi] at a b
       exact⟨by simpa using a,by simpa using b,fun a ha'=>⟨((Bl ha hi).1 a ha').1,((Bl ha hi).1 a ha').2.1⟩⟩
      refine⟨⟨arK (by simpa using h6),fun s hs => ?_,fun t ht=>⟨(hq t ht).2.2,dh t ht⟩,fun t ht => ?_,fun t ht => ?_⟩,h1⟩
      ·obtain⟨t,ht,rfl⟩:=adD.1 hs
       have:=(hq t ht).1
       unfold xq at this
       rw[ajm] at this
       exact afe (by simpa using this.1)
      ·have:=(hq t ht).2.1
       unfold tB at this
       simp only[ajm,Bool.not_eq_false',aaT,decide_eq_true_eq] at this
       omega
      ·have:=(hq t ht).1
       unfold xq at this
       rw[ajm,Bool.and_eq_false_iff] at this
       rcases this.2 with q | q
       ·exact .inl (by simpa using q)
       ·exact .inr (afe (by simpa using q)).2
theorem afw {ts:List Tk}:∀ {r:List ai} {l:List Int},uj (names ts) r=some l->l.map (jT ts)=r
 | [],l,h=>by cases h;rfl
 | s::r,l,h=>by
  unfold uj at h
  split at h
  ·rename_i i hi
   rw[aam] at h
   obtain⟨l',h1,rfl⟩:=h
   rw[ac4,afw h1]
   have hs:jT ts (i:Int)=s:=by
    rw[List.findIdx?_eq_some_iff_getElem] at hi
    obtain⟨h2,h3,_⟩:=hi
    have h4:(names ts)[i]=s:=by simpa using (beq_iff_eq.1 h3).symm
    unfold jT
    rw[acB,ah7,aaC h2,h4];rfl
   rw[hs]
  ·cases h
theorem atD (ts:List Tk):∀ (l:List Int),l≠[]->(iD ts true l).length=7+(jV 44 (l.map (jT ts))).length/\(iD ts false l).length=1+(jV 44 (l.map (jT ts))).length
 | [],h=>absurd rfl h
 | a::r,_=>by
  constructor
  ·rw[aa0];simp;omega
  ·rw[PI,ac4,MX,List.flatMap_cons];simp;omega
theorem acZ (ts:List Tk):∀ (l m:List Int) (f:Bool),(iD ts f (l++m)).length=(iD ts f l).length+(iD ts (f&&l.isEmpty) m).length
 | [],m,f=>by simp[iD]
 | a::l,m,f=>by
  have:=acZ ts l m false
  simp[iD] at this ⊢
  omega
theorem at7 {ts:List Tk}{t t':Tk}{k v:ai}(h:jH t k v (names ts)=some t'):(eU ts t').length<=(eU ts t).length+k.length+v.length+2/\t'.name=t.name:=by
 have told:∀ (key:ai) (n p q:Int),(jv key n p).length<=(jv key q p).length+key.length+(dec n).length:=by
  intro key n p q
  unfold jv
  split<;>split<;>simp<;>omega
 have wj:∀ {n:Nat},qO v=some n->(dec (n:Int)).length=v.length:=fun h=>by rw[ajw h]
 unfold jH at h
 split at h
 ·rename_i hk
  subst hk
  rw[aam] at h
  obtain⟨l,h1,rfl⟩:=h
  have h2:=afw h1
  have hl:l≠[]:=by
   intro e;subst e
   exact zP 44 v h2.symm
  have h3:=atD ts l hl
  rw[h2,acP] at h3
  have h4:=acZ ts t.after l true
  refine⟨?_,rfl⟩
  unfold eU
  simp only[abj] at h4 ⊢
  have h5:(iD ts (true&&t.after.isEmpty) l).length<=7+v.length:=by
   cases (true&&t.after.isEmpty)
   ·rw[h3.2];omega
   ·rw[h3.1];omega
  show _<=_+5+_+2
  omega
 ·split at h
  ·rename_i _ hk
   subst hk
   rw[aam] at h
   obtain⟨n,h1,rfl⟩:=h
   refine⟨?_,rfl⟩
   have a:=told [32,114,101,116,114,121,61] (n:Int) 0 t.cz
   have b:=wj h1
   unfold eU
   simp only[abj,aa1,acG] at a ⊢
   omega
  ·split at h
   ·rename_i _ _ hk
    subst hk
    rw[aam] at h
    obtain⟨n,h1,rfl⟩:=h
    refine⟨?_,rfl⟩
    have a:=told [32,119,97,105,116,61] (n:Int) 10 t.wait
    have b:=wj h1
    unfold eU
    simp only[abj,aa1,acG] at a ⊢
    omega
   ·split at h
    ·rename_i _ _ _ hk
     subst hk
     rw[aam] at h
     obtain⟨n,h1,rfl⟩:=h
     refine⟨?_,rfl⟩
     have a:=told [32,98,97,115,101,61] (n:Int) 1 t.base
     have b:=wj h1
     unfold eU
     simp only[abj,aa1,acG] at a ⊢
     omega
    ·split at h
     ·rename_i _ _ _ _ hk
      subst hk
      split at h
      ·cases h
      ·rename_i hv
       cases h
       refine⟨?_,rfl⟩
       unfold eU
       simp only[if_neg hv,abj,aa1,acG]
       omega
     ·rw[aam] at h
      obtain⟨n,h1,rfl⟩:=h
      exact⟨by omega,rfl⟩
theorem aqH {c:Nat}{s:ai}(h:(cut c s).1.length≠s.length):s.length=(cut c s).1.length+1+(cut c s).2.1.length:=by
 unfold cut at h ⊢
 cases hi:kg c s 0 with
 | none=>rw[hi] at h;exact absurd rfl h
 | some i=>
  obtain⟨a,r,rfl,h2,h3⟩:=Hu hi
  rw[aeJ] at h2
  subst h2
  simp
  omega
theorem afO {ts:List Tk}:∀ {r:List ai} {t t':Tk} {ks:List ai},mW (names ts) r t ks=some t'->(eU ts t').length<=(eU ts t).length+dC r+r.length/\t'.name=t.name
 | [],t,t',ks,h=>by cases h;exact⟨by simp,rfl⟩
 | s::r,t,t',ks,h=>by
  unfold mW at h
  split at h
  ·cases h
  ·split at h
   ·cases h
   ·rename_i aH
    split at h
    ·cases h
    ·rename_i t1 h1
     obtain⟨a1,a2⟩:=at7 h1
     obtain⟨b1,b2⟩:=afO h
     have:=aqH aH
     have hs:dC (s::r)=s.length+dC r:=by simp[dC]
     refine⟨?_,b2.trans a2⟩
     rw[hs];simp only[aa1];omega
theorem atg {ts:List Tk}{p:ai}{t:Tk}(h:wm (names ts) (kZ p)=some t):(eU ts t).length<=p.length:=by
 unfold wm at h
 obtain⟨h1,h2⟩:=afO h
 have h3:dC (kZ p)+(kZ p).length=p.length+1:=Fg 32 p
 have aH:kZ p≠[]:=zP 32 p
 cases hw:kZ p with
 | nil=>exact absurd hw aH
 | cons a b=>
  rw[hw] at h1 h3
  have e:eU ts ⟨(a::b).headD [],[],0,10,1,[]⟩=a:=by simp[eU,iD,jv]
  rw[e] at h1
  have hs:dC (a::b)=a.length+dC b:=by simp[dC]
  rw[hs] at h3
  simp only[List.tail_cons,aa1] at h1 h3
  omega
theorem aar {bf:List ai}:∀ {r:List ai} {t t':Tk} {ks:List ai},mW bf r t ks=some t'->t'.name=t.name
 | [],t,t',ks,h=>by cases h;rfl
 | s::r,t,t',ks,h=>by
  unfold mW at h
  split at h
  ·cases h
  ·split at h
   ·cases h
   ·split at h
    ·cases h
    ·rename_i t1 h1
     rw[aar h]
     unfold jH at h1
     split at h1
     ·rw[aam] at h1;obtain⟨m,_,rfl⟩:=h1;rfl
     ·split at h1
      ·rw[aam] at h1;obtain⟨m,_,rfl⟩:=h1;rfl
      ·split at h1
       ·rw[aam] at h1;obtain⟨m,_,rfl⟩:=h1;rfl
       ·split at h1
        ·rw[aam] at h1;obtain⟨m,_,rfl⟩:=h1;rfl
        ·split at h1
         ·split at h1
          ·cases h1
          ·cases h1;rfl
         ·rw[aam] at h1;obtain⟨m,_,rfl⟩:=h1;rfl
theorem WX {bf:List ai}:∀ {r:List ai} {ts:List Tk},oY bf r=some ts->names ts=r.map pO
 | [],ts,h=>by cases h;rfl
 | s::r,ts,h=>by
  unfold oY at h
  split at h
  ·cases h
  ·rename_i t ht
   rw[aam] at h
   obtain⟨l,h1,rfl⟩:=h
   have h2:=WX h1
   unfold wm at ht
   have h3:=aar ht
   unfold names at h2 ⊢
   rw[ac4,ac4,h2,h3]
theorem VU {ts:List Tk}:∀ {r:List ai} {us:List Tk},oY (names ts) r=some us->dC (us.map (eU ts))<=dC r/\us.length=r.length
 | [],us,h=>by cases h;exact⟨aaU _,rfl⟩
 | s::r,us,h=>by
  unfold oY at h
  split at h
  ·cases h
  ·rename_i t ht
   rw[aam] at h
   obtain⟨l,h1,rfl⟩:=h
   obtain⟨a,b⟩:=VU h1
   have c:=atg ht
   simp only[dC,ac4,List.sum_cons,aa1] at a b c ⊢
   omega
theorem acj {ts:List Tk}(hn:ts.length<=16)(ha:wG ts):∀ t∈ts,t.after.length<=16:=fun t ht=>by
 obtain⟨i,hi⟩:=adR ht
 obtain⟨x1,x2⟩:=Bl ha hi
 have:=Oq (n:=ts.length) (fun a h=>⟨(x1 a h).1,(x1 a h).2.1⟩) x2
 omega
theorem Qi {text:ai}(h:(aM text).2=0):iF (aM text).1=0/\Fit (aM text).1/\1<=(aM text).1.length/\(aM text).1.length<=16/\(lM (aM text).1).length<=text.length/\text.length<=1024/\aM (lM (aM text).1)=((aM text).1,0):=by
 obtain⟨g1,g2,g3,g4,g5,g6⟩:=LH h
 have dh:=acj g3 g4
 obtain⟨hF,f1,f2⟩:=au0 g1 dh
 have hb:¬ 1024<text.length:=fun hb=>by unfold aM at h;rw[if_pos hb] at h;cases h
 have nJ:oY ((da 59 text).map pO) (da 59 text)=some (aM text).1:=by
  unfold aM at h ⊢
  rw[if_neg hb] at h ⊢
  cases hq:oY ((da 59 text).map pO) (da 59 text) with
  | none=>rw[hq] at h;cases h
  | some ts=>
   rw[hq] at h
   simp only at h ⊢
   by_cases h0:iF ts=0
   ·rw[if_pos h0]
   ·rw[if_neg h0] at h;exact absurd h h0
 generalize (aM text).1=ts at *
 have xK:=WX nJ
 rw[<-xK] at nJ
 obtain⟨s1,s2⟩:=VU nJ
 have lh:=Fg 59 text
 have aH:ts.map (eU ts)≠[]:=by
  intro e
  have:(ts.map (eU ts)).length=0:=by rw[e];rfl
  rw[adY] at this;omega
 have rA:=YF 59 _ aH
 rw[adY] at rA
 have pU:lM ts=jV 59 (ts.map (eU ts)):=by unfold lM;rw[if_pos g1]
 have hlen:(lM ts).length<=text.length:=by rw[pU];omega
 refine⟨g1,hF,f1,f2,hlen,by omega,?_⟩
 have akU:da 59 (lM ts)=ts.map (eU ts):=by
  rw[pU]
  refine Md aH fun p hp q => ?_
  obtain⟨t,ht,rfl⟩:=adD.1 hp
  exact (acH hF ht 59 q).1 rfl
 have awp:(ts.map (eU ts)).map pO=names ts:=by
  rw[List.map_map]
  unfold names
  refine List.map_congr_left fun t ht => ?_
  show pO (eU ts t)=t.name
  unfold pO
  rw[VG hF ht];rfl
 unfold aM
 rw[if_neg (by omega),akU,awp,Yz hF fun t ht=>ht]
 simp only
 rw[if_pos g1]
theorem ae3 (k:IntKind)(a:Int):same (.int k a) (.int k a)=true:=by cases k<;>simp[same,pL]
theorem O4 {key:ai}{n p:Int}(hk:key.length<=100)(h0:0<=n)(h1:n<=1000){H:Hp}(hg:Gl H):∃ H',cK (.func (.func 92) [] []) [.str key,.int .i64 n,.int .i64 p] H=some (.str (jv key n p),H')/\Out [] H H':=by
 by_cases he:n=p
 ·have d:(n==p)=true:=beq_iff_eq.2 he
  refine⟨H,adC ?_,Out.refl _ _⟩
  unfold Rs jv
  simp only[d,if_pos he,ag,af,Int.reduceBEq,Int.reduceBNe,Int.reduceLT,Int.reduceLE,Int.reduceGT,Int.reduceGE,Int.reduceNeg]
 ·have d:(n==p)=false:=beq_eq_false_iff_ne.2 he
  obtain⟨H',i1,i2⟩:=Wa (n:=n) (by omega) (by omega) hg
  have hl:=(DD h0 h1).2.1
  have hs:=yA (a:=key) (b:=dec n) (by omega)
  refine⟨H',adC ?_,i2⟩
  unfold Rs jv
  simp only[d,if_neg he,i1,hs,ag,af,Int.reduceBEq,Int.reduceBNe,Int.reduceLT,Int.reduceLE,Int.reduceGT,Int.reduceGE,Int.reduceNeg]
theorem EZ {key:ai}{n p:Int}(h0:0<=n)(h1:n<=1000):(jv key n p).length<=key.length+4:=by
 unfold jv
 split
 ·simp
 ·have:=(DD h0 h1).2.1
  rw[abj];omega
theorem acU {ts:List Tk}(hF:Fit ts){a:Int}(h0:0<=a)(h1:a<=(ts.length:Int)-1):(jT ts a).length<=16:=(hF.nm _ (Iq h0 h1).2).2.1
theorem P3 {ts:List Tk}{dx:AV}{xs:List AV}{D:Nat}{l:List Int}{lx bw bQ cH cj bZ:AV}{H:Hp}(hF:Fit ts)(hl:l.length<=16)(ha:∀ a∈l,0<=a/\a<=(ts.length:Int)-1)(fc:Rw H 1 lx (ints l))(hD:cellAt H D 0=some dx)(hR:RD H dx xs ts)(aX:K.Fn 1)(aD:K.Fn 5)(gF:K.Fn 7) :
  ∀ (r:List Int) (k:Nat) (s:ai),k<=l.length->l.drop k=r->s.length<=100+100*k->
  I8 JN GO cK aX aD gF (.ptr D 0) bZ bw (.str s) bQ cH cj lx (.int .i64 (l.length:Nat)) (.int .i64 (k:Nat)) H=gF (.ptr D 0) bZ bw (.str (s++iD ts (k==0) r)) bQ cH cj H
 | [],k,s,hk,h,hs=>by
  obtain rfl:=drop_nil hk h
  rw[RQ]
  simp only[K6,ez,iD,af9,ag,af,Int.reduceBEq,Int.reduceBNe,Int.reduceLT,Int.reduceLE,Int.reduceGT,Int.reduceGE,Int.reduceNeg]
 | a::r,k,s,hk,h,hs=>by
  obtain⟨h1,h2,h3⟩:=eF h
  obtain⟨q,q1,q2⟩:=fc.gw (BB h2) .i64
  have es:=eE h1 (by omega)
  obtain⟨a0,a1⟩:=ha a (aaO h2)
  have iJ:=acU hF a0 a1
  obtain⟨m,rfl⟩:∃ m:Nat,a=m:=⟨a.toNat,by omega⟩
  have hm:ts[m]? = some (ts[m]'(by omega)):=aaC (by omega)
  obtain⟨x,b,o,g0,g1,g2,g3,g4,g5,g6⟩:=hR.at hm
  have xK:(ts[m]'(by omega)).name=jT ts (m:Int):=by
   have:=(Iq a0 a1).1
   unfold names at this
   rw[acB,aeI,hm] at this
   simpa using this
  rw[xK] at g6
  cases k with
  | zero=>
   have s1:=yA (a:=s) (b:=[32,97,102,116,101,114,61]) (by simp;omega)
   have s2:=yA (a:=s++[32,97,102,116,101,114,61]) (b:=jT ts (m:Int)) (by simp;omega)
   have ih:=P3 (bZ:=bZ) (bw:=bw) (bQ:=bQ) (cH:=cH) (cj:=cj) hF hl ha fc hD hR aX aD gF r 1 (s++[32,97,102,116,101,114,61]++jT ts (m:Int)) (by omega) h3 (by simp;omega)
   have e:s++iD ts ((0:Nat)==0) ((m:Int)::r)=s++[32,97,102,116,101,114,61]++jT ts (m:Int)++iD ts ((1:Nat)==0) r:=by simp[iD]
   have d0:(((0:Nat):Int)==0)=true:=rfl
   rw[e,RQ]
   simp(disch:=first|exact zqq|fail)only[K6,aU h1,q1,q2,d0,s1,hD,g3,g6,s2,es,ih,aj,ak,Nat.reduceAdd,ag,af,Int.reduceBEq,Int.reduceBNe,Int.reduceLT,Int.reduceLE,Int.reduceGT,Int.reduceGE,Int.reduceNeg]
  | succ k=>
   have s1:=yA (a:=s) (b:=[44]) (by simp;omega)
   have s2:=yA (a:=s++[44]) (b:=jT ts (m:Int)) (by simp;omega)
   have ih:=P3 (bZ:=bZ) (bw:=bw) (bQ:=bQ) (cH:=cH) (cj:=cj) hF hl ha fc hD hR aX aD gF r (k+1+1) (s++[44]++jT ts (m:Int)) (by omega) h3 (by simp;omega)
   have e:s++iD ts ((k+1)==0) ((m:Int)::r)=s++[44]++jT ts (m:Int)++iD ts ((k+1+1)==0) r:=by simp[iD]
   have d0:(((k+1:Nat):Int)==0)=false:=beq_false_of_ne (by omega)
   rw[e,RQ]
   simp(disch:=first|exact zqq|fail)only[K6,aU h1,q1,q2,d0,s1,hD,g3,g6,s2,es,ih,aj,ak,Nat.reduceAdd,ag,af,Int.reduceBEq,Int.reduceBNe,Int.reduceLT,Int.reduceLE,Int.reduceGT,Int.reduceGE,Int.reduceNeg]
theorem aaQ {ts:List Tk}(hF:Fit ts):∀ {l:List Int} (f:Bool),(∀ a∈l,0<=a/\a<=(ts.length:Int)-1)->(iD ts f l).length<=23*l.length
 | [],f,_=>by simp[iD]
 | a::r,f,h=>by
  obtain⟨h0,h1⟩:=h a (.head _)
  have:=acU hF h0 h1
  have ih:=aaQ hF (l:=r) false fun b hb=>h b (.tail _ hb)
  cases f<;>simp[iD]<;>omega
theorem O0 {ts:List Tk}(hF:Fit ts){t:Tk}(ht:t∈ts):(t.name++iD ts true t.after).length<=400/\(eU ts t).length<=600:=by
 obtain⟨n1,n2,n3,n4,n5,n6⟩:=hF.num t ht
 obtain⟨a1,a2⟩:=hF.jY t ht
 have b1:=(hF.nm _ (adD.2 ⟨t,ht,rfl⟩)).2.1
 have b2:=aaQ hF true a1
 have c1:=EZ (key:=[32,114,101,116,114,121,61]) (p:=0) n1 (by omega)
 have c2:=EZ (key:=[32,119,97,105,116,61]) (p:=10) (show 0<=t.wait by omega) n4
 have c3:=EZ (key:=[32,98,97,115,101,61]) (p:=1) (show 0<=t.base by omega) n6
 have c4:(if t.on=[] then [] else [32,111,110,61]++t.on).length<=20:=by
  split
  ·simp
  ·rcases hF.on t ht with q | q
   ·contradiction
   ·simp;omega
 simp only[aa1,acG] at c1 c2 c3
 refine⟨by rw[abj];omega,?_⟩
 unfold eU
 simp only[abj] at c4 ⊢
 omega
theorem ZD {ts:List Tk}{dx:AV}{xs:List AV}{D:Nat}(hF:Fit ts)(hn:ts.length<=16)(Hr:11<=D) :
  ∀ (r:List Tk) (i:Nat) (H:Hp) (lx:AV),i<=ts.length->ts.drop i=r->Gl H->cellAt H D 0=some dx->D<H.next->RD H dx xs ts->Ow H 9 1 lx (strs ((ts.take i).map (eU ts)))->(∀ j∈ah lx,j≠D/\j∉lU dx xs/\11<=j)->
  ∃ ur H',(∀ aX:K.Fn 1,GY JN GO cK aX (.ptr D 0) lx dx (.int .i64 (ts.length:Nat)) (.int .i64 (i:Nat)) H=aX ur H')/\Rw H' 1 ur (strs (ts.map (eU ts)))/\Out (ah lx) H H'
 | [],i,H,lx,hi,h,hg,hD,xP,hR,hO,hd=>by
  obtain rfl:=drop_nil hi h
  refine⟨lx,H,fun aX => ?_,by rw[List.take_length] at hO;exact hO.rw,Out.refl _ _⟩
  rw[Qs]
  simp only[HD,ez,ag,af,Int.reduceBEq,Int.reduceBNe,Int.reduceLT,Int.reduceLE,Int.reduceGT,Int.reduceGE,Int.reduceNeg]
 | t::r,i,H,lx,hi,h,hg,hD,xP,hR,hO,hd=>by
  obtain⟨h1,h2,h3⟩:=eF h
  have ht:=aaO h2
  obtain⟨x,b,o,q0,q1,q2,q3,q4,q5,q6⟩:=hR.at h2
  have es:=eE h1 (by omega)
  obtain⟨n1,n2,n3,n4,n5,n6⟩:=hF.num t ht
  obtain⟨a1,a2⟩:=hF.jY t ht
  obtain⟨e0,e1,e2,e3,e4,e5⟩:=sw t x
  have o1:=aG H (aF t x) 99 0
  have cT:=aZ H (aF t x) 99 0
  have zx:cellAt (al H (aF t x) 99 0) D 0=some dx:=by rw[vM xP];exact hD
  have yr:=hR.ar o1
  have hl:=q2.jn
  rw[lK] at hl
  obtain⟨l1,l2⟩:=O0 hF ht
  have axL:t.name.length<=16:=(hF.nm _ (adD.2 ⟨t,ht,rfl⟩)).2.1
  have s1:=fun aX aD gF=>P3 (bZ:=lx) (bw := .ptr H.next 0) (bQ:=dx) (cH := .int .i64 (ts.length:Nat)) (cj := .int .i64 (i:Nat)) hF a2 a1 (q2.ar o1) zx yr aX aD gF t.after 0 t.name (ace _) abK (by omega)
  rw[show (((0:Nat):Int))=0 from rfl] at s1
  have Al:((0:Nat)==0)=true:=rfl
  rw[Al] at s1
  have aA:=yp t x q1 H
  obtain⟨H2,t1,o2⟩:=O4 (key:=[32,114,101,116,114,121,61]) (p:=0) (by decide) n1 (by omega) (hg.ar o1)
  obtain⟨H3,t2,o3⟩:=O4 (key:=[32,119,97,105,116,61]) (p:=10) (by decide) (show 0<=t.wait by omega) n4 (hg.ar (o1.trans o2))
  obtain⟨H4,t3,o4⟩:=O4 (key:=[32,98,97,115,101,61]) (p:=1) (by decide) (show 0<=t.base by omega) n6 (hg.ar ((o1.trans o2).trans o3))
  have c2:=cT.out o2 (by simp)
  have c3:=c2.out o3 (by simp)
  have c4:=c3.out o4 (by simp)
  have k1:cellAt (al H (aF t x) 99 0) H.next 3=some (.int .i64 t.wait):=cT.cellAt e3
  have k2:cellAt (al H (aF t x) 99 0) H.next 4=some (.int .i64 t.base):=cT.cellAt e4
  have k3:cellAt H2 H.next 3=some (.int .i64 t.wait):=c2.cellAt e3
  have k4:cellAt H2 H.next 4=some (.int .i64 t.base):=c2.cellAt e4
  have k5:cellAt H3 H.next 4=some (.int .i64 t.base):=c3.cellAt e4
  have k6:cellAt H4 H.next 5=some (.str t.on):=c4.cellAt e5
  have b1:=EZ (key:=[32,114,101,116,114,121,61]) (p:=0) n1 (by omega)
  have b2:=EZ (key:=[32,119,97,105,116,61]) (p:=10) (show 0<=t.wait by omega) n4
  have b3:=EZ (key:=[32,98,97,115,101,61]) (p:=1) (show 0<=t.base by omega) n6
  simp only[aa1,acG] at b1 b2 b3
  have u1:=yA (a:=jv [32,114,101,116,114,121,61] t.cz 0) (b:=jv [32,119,97,105,116,61] t.wait 10) (by omega)
  have u2:=yA (a:=jv [32,114,101,116,114,121,61] t.cz 0++jv [32,119,97,105,116,61] t.wait 10) (b:=jv [32,98,97,115,101,61] t.base 1) (by rw[abj];omega)
  have u3:=yA (a:=t.name++iD ts true t.after) (b:=jv [32,114,101,116,114,121,61] t.cz 0++jv [32,119,97,105,116,61] t.wait 10++jv [32,98,97,115,101,61] t.base 1) (by simp only[abj] at l1 ⊢;omega)
  have gk:Out [] H H4:=((o1.trans o2).trans o3).trans o4
  have axQ:=gk.nx
  have rr:(ts.take (i+1)).map (eU ts)=(ts.take i).map (eU ts)++[eU ts t]:=by rw[aiI,h2];simp
  obtain⟨lx1,H5,p1,p2,p3,p4,p5⟩:=uB (fM:=9) (z:=[(.str [])]) (vs:=[.str (eU ts t)]) (hO.out gk (by simp)) rfl rfl (by decide) (by simp[strs];omega)
  have qR:strs ((ts.take i).map (eU ts))++[.str (eU ts t)]=strs ((ts.take (i+1)).map (eU ts)):=by rw[rr];simp[strs]
  rw[qR] at p2
  have o5:Out (ah lx) H H5:=(gk.mono fun j hj=>by cases hj).trans p3
  have hn5:=p3.nx
  have fA:=hR.lt
  have hd5:∀ j∈ah lx1,j≠D/\j∉lU dx xs/\11<=j:=fun j hj=>(p4 j hj).elim (hd j) fun z=>⟨by omega,fun y=>by have:=fA j y;omega,by omega⟩
  obtain⟨ur,H',i1,i2,i3⟩:=ZD hF hn Hr r (i+1) H5 lx1 h1 h3 (hg.out o5 fun j hj=>(hd j hj).2.2) (by rw[o5.cellAt xP fun z=>(hd D z).1 rfl];exact hD) (by omega) (hR.out o5 fun j hj z=>(hd j z).2.1 hj) p2 hd5
  have iu:=p1 _ rfl
  refine⟨ur,H',fun aX => ?_,i2,o5.then i3 fun j hj=>(p4 j hj).imp id fun z=>by omega⟩
  have Zw:eU ts t=((t.name++iD ts true t.after)++((jv [32,114,101,116,114,121,61] t.cz 0++jv [32,119,97,105,116,61] t.wait 10)++jv [32,98,97,115,101,61] t.base 1))++(if t.on=[] then [] else [32,111,110,61]++t.on):=rfl
  generalize jv [32,114,101,116,114,121,61] t.cz 0=T1 at *
  generalize jv [32,119,97,105,116,61] t.wait 10=T2 at *
  generalize jv [32,98,97,115,101,61] t.base 1=T3 at *
  generalize t.name++iD ts true t.after=s0 at *
  generalize eU ts t=sT at *
  by_cases vE:t.on=[]
  ·have d:(t.on==([]:ai))=true:=by rw[vE];rfl
   have qW:s0++(T1++T2++T3)=sT:=by
    rw[Zw,if_pos vE,af9]
   rw[qW] at u3
   rw[Qs]
   simp(disch:=first|exact zqq|fail)only[HD,aU h1,q3,q5,aA,e0,e1,e2,hl,s1,t1,t2,t3,k1,k2,k3,k4,k5,k6,u1,u2,u3,ft (ae3 _ _),d,iu,es,i1,aj,ak,Nat.reduceAdd,ag,af,Int.reduceBEq,Int.reduceBNe,Int.reduceLT,Int.reduceLE,Int.reduceGT,Int.reduceGE,Int.reduceNeg]
  ·have d:(t.on==([]:ai))=false:=by simp[vE]
   have lu:t.on.length<=16:=(hF.on t ht).elim (fun q=>absurd q vE) fun q=>q.1
   have u4:=yA (a:=[32,111,110,61]) (b:=t.on) (by simp;omega)
   have u5:=yA (a:=s0++(T1++T2++T3)) (b:=[32,111,110,61]++t.on) (by simp only[abj,aa1,acG] at l1 ⊢;omega)
   have qW:s0++(T1++T2++T3)++([32,111,110,61]++t.on)=sT:=by
    rw[Zw,if_neg vE]
   rw[qW] at u5
   rw[Qs]
   simp(disch:=first|exact zqq|fail)only[HD,aU h1,q3,q5,aA,e0,e1,e2,hl,s1,t1,t2,t3,k1,k2,k3,k4,k5,k6,u1,u2,u3,u4,u5,ft (ae3 _ _),d,iu,es,i1,aj,ak,Nat.reduceAdd,ag,af,Int.reduceBEq,Int.reduceBNe,Int.reduceLT,Int.reduceLE,Int.reduceGT,Int.reduceGE,Int.reduceNeg]
theorem Yu {ts:List Tk}{dx:AV}{xs:List AV}{H:Hp}(hg:Gl H)(hF:Fit ts)(h1:1<=ts.length)(hn:ts.length<=16)(adn:iF ts=0)(hR:RD H dx xs ts) :
  ∃ H',cK (.func (.func 55) [] []) [dv dx] H=some (.str (lM ts),H')/\Out [] H H':=by
 have fE:=hR.row.one
 have gi:=hR.aK
 have o1:=aG H [dx] 72 0
 have N5:=hg.nx
 have hc:aq (al H [dx] 72 0) H.next 0 1=some [dx]:=GG rfl (by simp)
 obtain⟨H2,g1,o2⟩:=N7 (ts:=ts) (by omega) (fun t ht=>by have:=(hF.jY t ht).2;omega) (hR.ar o1)
 rw[adn] at g1
 have gC:=o2.nx
 rw[cu] at gC
 have hD2:cellAt H2 H.next 0=some dx:=by rw[o2.cellAt (by rw[cu];omega) (by simp),xu rfl];rfl
 have kK:=(hR.ar o1).ar o2
 have aN:bx 72 (.agg [dx]) H=some (H.next,al H [dx] 72 0):=gh (by simp)
 obtain⟨lx,H3,l1,l2,l3⟩:=ZD (D:=H.next) hF hn (by omega) ts 0 H2 .ae (ace _) abK (hg.ar (o1.trans o2)) hD2 (by omega) kK .nil (fun j hj=>by cases hj)
 rw[show (((0:Nat):Int))=0 from rfl] at l1
 have l3':Out [] H2 H3:=l3
 have sE:∀ us:List Tk,(∀ t∈us,t∈ts)->dC (us.map (eU ts))<=600*us.length:=by
  intro us
  induction us with
  | nil=>intro _;simp[dC]
  | cons u us ih=>
   intro h
   have a:=ih fun t ht=>h t (.tail _ ht)
   have b:=(O0 hF (h u (.head _))).2
   simp only[dC,ac4,List.sum_cons,aa1] at a ⊢
   omega
 have hs:=sE ts fun t ht=>ht
 obtain⟨H4,j1,j2⟩:=al9 (sep:=[59]) rfl l2 (by rw[adY];omega) (fun s hs=>by
  obtain⟨t,ht,rfl⟩:=adD.1 hs
  have:=(O0 hF ht).2;omega) (by omega) (fun s hs b hb=>by
  rcases aa7.1 hs with rfl | hs
  ·rw[No] at hb;subst hb;decide
  ·obtain⟨t,ht,rfl⟩:=adD.1 hs
   exact (acH hF ht b hb).2)
 rw[abp] at j1
 have pU:lM ts=jV 59 (ts.map (eU ts)):=by unfold lM;rw[if_pos adn]
 rw[<-pU] at j1
 refine⟨H4,Wt ?_,((o1.trans o2).trans l3').trans j2⟩
 have d:((0:Int) != 0)=false:=rfl
 unfold KM
 simp(disch:=first|exact zqq|fail)only[aN,hc,g1,d,hD2,gi,l1,j1,aj,ak,Nat.reduceAdd,ag,af,Int.reduceBEq,Int.reduceBNe,Int.reduceLT,Int.reduceLE,Int.reduceGT,Int.reduceGE,Int.reduceNeg]
end Go.Proofs.YtodfajmihkagnaaGreatDoor.DfK
