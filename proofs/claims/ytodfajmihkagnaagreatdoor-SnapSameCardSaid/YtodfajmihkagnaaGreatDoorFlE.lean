/- Laws that the proof uses. -/
import Derived.Test.YtodfajmihkagnaaGreatDoorDfD6
import Derived.Test.YtodfajmihkagnaaGreatDoorDfKb
set_option linter.unusedVariables false
set_option linter.unusedSimpArgs false
set_option maxRecDepth 100000
set_option maxHeartbeats 2000000
namespace Go.Proofs.YtodfajmihkagnaaGreatDoor.bq
open Go Am Am.K lq mU kJ oW
section
section
section
section
section
section
section
theorem Pk {text:Str}(h:(aF text).2≠0):(aF text).1=[]:=by
 unfold aF at h⊢;by_cases h1:1024<text.length;·rw[zz2 h1]
 ·rw[zz1 h1] at h⊢;cases lP:qG ((cN 59 text).map rL) (cN 59 text) with
  |none=>rfl|some ts=>
   rw[lP] at h;by_cases h2:jH ts=0;·simp only[zz2 h2] at h;exact absurd rfl h
   ·simp only[zz1 h2]
theorem ZC (text:Str):(aF text).1.length<=16/\∀t∈(aF text).1,t.after.length<=16:=by
 by_cases h:(aF text).2=0;·obtain⟨g1,g2,g3,g4,g5,g6⟩:=IA h;exact⟨g3,akD g3 g4⟩
 ·rw[Pk h];exact⟨abg _,λt ht=>by cases ht⟩
theorem aci (f:Fm)(s:Str):(tT f s).length<=16/\∀t∈tT f s,t.after.length<=16:=by
 unfold tT;cases ey f.aM s with
 |none=>exact⟨abg _,λt ht=>by cases ht⟩|some t=>exact ZC t
noncomputable def GZ (f:Fm)(e:Ev):Fm×Int:=
 match ey f.aM e.nm with
 |none=>(f,4)|some t=>if e.ky≠[]/\(lY f.ks (e.nm,e.ky)).isSome=true then (f,5) else if f.aw.length=64 then (f,6) else if e.rn≠(f.aw.length:Int)+1 then (f,1) else
  if (bh (aF t).1).2≠0 then (f,(bh (aF t).1).2) else
  ({f with aw:=f.aw++[((bh (aF t).1).1,e.nm)],ks:=if e.ky=[] then f.ks else f.ks++[((e.nm,e.ky),e.rn)]},0)
theorem aDq {H:Hp}{p:Nat}{a:FA}{f:Fm}(h:FL H p a f)(hg:Gl H)(hk:f.ks.length<128)(hr:f.aw.length<=64)(e:Ev):
  ∃a' H',cK (zf 41) [.ptr p 0,.agg (aS e)] H=some (zi (GZ f e).2,H')/\FL H' p a' (GZ f e).1/\FSt H H' p a a':=by
 have aO:bx 26 (.agg (aS e)) H=some (H.next,al H (aS e) 26 0):=iz (by rw[tN];omega);have o1:=aD H (aS e) 26 0;have c1:=aP H (aS e) 26 0;have n1:(al H (aS e) 26 0).next=H.next+1:=rfl;generalize al H (aS e) 26 0=H1 at*
 have h1:=h.au o1;have E1:cellAt H1 H.next 1=some (zi e.rn):=c1.cellAt rfl;have E5:cellAt H1 H.next 5=some (.str e.nm):=c1.cellAt rfl;have E6:cellAt H1 H.next 6=some (.str e.ky):=c1.cellAt rfl;obtain⟨dx,xs,H2,p1,p2,p3,p4⟩:=ahE h1 (hg.au o1) e.nm;have eU:=p2.row.one;have o3:=aD H2 [dx] 72 0;have c3:=aP H2 [dx] 72 0;have n3:(al H2 [dx] 72 0).next=H2.next+1:=rfl;have aC:st 1 (.ptr H2.next 0) (dv dx) (al H2 [.ah] 72 0)=some (al H2 [dx] 72 0):=gy (by simp[eU]) rfl rfl zzx rfl;generalize jg:al H2 [dx] 72 0=H3 at*
 have h3:=(h1.au p3).au o3;have gg:=(o1.trans p3).trans o3;have Xd:=(c1.out p3 zzy).out o3 zzy;obtain⟨H4,q1,q2⟩:=aAn h3 e.nm e.ky;have h4:=h3.au q2;have gq:=gg.trans q2;have Rr:=Xd.out q2 zzy;have F5:cellAt H3 H.next 5=some (.str e.nm):=Xd.cellAt rfl;have F6:cellAt H3 H.next 6=some (.str e.ky):=Xd.cellAt rfl;have G1:cellAt H4 H.next 1=some (zi e.rn):=Rr.cellAt rfl;have G6:cellAt H4 H.next 6=some (.str e.ky):=Rr.cellAt rfl;have k3:cellAt H4 p 3=some a.rx:=h4.c.cellAt rfl;have fS:=h4.JH;unfold GZ;unfold tT at p2;cases hs:ey f.aM e.nm with
 |none=>
  rw[hs] at p1;refine⟨a,H4,Ai ?_,h4,FSt.same gq p a⟩;unfold zP;simp(disch:=try exact zqz)only[aO,E5,p1,aC,F5,F6,q1,af0,ar,aq,zz0,simprocAttr]
 |some t=>
  rw[hs] at p1 p2;simp only at p2⊢;by_cases Ki:e.ky=[]
  ·have b1:(!(e.ky==[]))=false:=by simp[Ki]
   rw[zz1 (by simp[Ki])];by_cases kH:f.aw.length=64
   ·have b2:(((f.aw.length:Nat):Int)==64)=true:=by simp[kH]
    rw[zz2 kH];refine⟨a,H4,Ai ?_,h4,FSt.same gq p a⟩;unfold zP;simp(disch:=try exact zqz)only[aO,E5,p1,aC,F5,F6,q1,agd,G6,b1,k3,fS,b2,ar,aq,zz0,simprocAttr]
   ·have b2:(((f.aw.length:Nat):Int)==64)=false:=by rw[zz8];omega
    rw[zz1 kH];have hw:IntKind.wrap .i64 (((f.aw.length:Nat):Int)+1)=((f.aw.length:Nat):Int)+1:=wrap_i64 zzz zzz;by_cases iU:e.rn=(f.aw.length:Int)+1
    ·have b3:(e.rn != ((f.aw.length:Nat):Int)+1)=false:=by simp[iU]
     rw[zz1 (by simp[iU])];have hb:=ZC t;have k5:av H4 H2.next 0 1=some [dx]:=(c3.out q2 zzy).av 1 0 zzy;obtain⟨ay,aU,ax,az,H5,r1,r2,r3,r4⟩:=T8 ((p2.au o3).au q2) (by have:=hb.1;omega) (λu hu=>by have:=hb.2 u hu;omega);have o6:=aD H5 (rv ay (bh (aF t).1).1.st ax az) 75 0;have c6:=aP H5 (rv ay (bh (aF t).1).1.st ax az) 75 0;have n6:(al H5 (rv ay (bh (aF t).1).1.st ax az) 75 0).next=H5.next+1:=rfl;have xe:st 4 (.ptr H5.next 0) (.agg (rv ay (bh (aF t).1).1.st ax az)) (al H5 [.ah,(zi 0),.ah,.ah] 75 0)=some (al H5 (rv ay (bh (aF t).1).1.st ax az) 75 0):=gy (by simp[r2.v.d.row.one,r2.t.rl.one,r2.s.lg,iV]) rfl rfl zzx rfl;generalize hA6:al H5 (rv ay (bh (aF t).1).1.st ax az) 75 0=H6 at*
     have h6:=(h4.au r3).au o6;have FV:=(gq.trans r3).trans o6;by_cases he:(bh (aF t).1).2=0
     ·have b4:((bh (aF t).1).2 != 0)=false:=by simp[he]
      rw[zz1 (by simp[he]),zz2 Ki];have m3:cellAt H6 p 3=some a.rx:=h6.c.cellAt rfl;have m4:av H6 H5.next 0 4=some (rv ay (bh (aF t).1).1.st ax az):=c6.av 4 0 zzy;have FF:=(Rr.out r3 zzy).out o6 zzy;have m5:cellAt H6 H.next 5=some (.str e.nm):=FF.cellAt rfl;have Oz:RV H6 ay aU ax az (bh (aF t).1).1:=r2.v.au o6;have tt:∀j∈(RA.mk ay aU ax az).fp,j∉own p a:=λj hj q=>by have:=r4 j hj;have:=h4.lt j q;omega
      obtain⟨cn,H7,H8,a1,a2,a3,a4,a5,a6,a7⟩:=h6.Y2 (r':=⟨ay,aU,ax,az⟩) (x:=((bh (aF t).1).1,e.nm)) Oz tt zzz;have GS:=a1 H6.next rfl;have f1:fl [.ah,(zi 0),.ah,.ah,(.str [])] [(0,4,.agg (rv ay (bh (aF t).1).1.st ax az)),(4,1,.str e.nm)]=some (bE ⟨ay,aU,ax,az⟩ ((bh (aF t).1).1,e.nm)):=by rw[z8 (l:=rv ay (bh (aF t).1).1.st ax az) (n:=4) rfl zzy,yW rfl zzy,pW];rfl
      have f2:fl [.ah,(zi 0),.ah,.ah,(.str [])] [(0,5,.agg (bE ⟨ay,aU,ax,az⟩ ((bh (aF t).1).1,e.nm)))]=some (bE ⟨ay,aU,ax,az⟩ ((bh (aF t).1).1,e.nm)):=by rw[z8 (l:=bE ⟨ay,aU,ax,az⟩ ((bh (aF t).1).1,e.nm)) (n:=5) rfl zzy,pW];rfl
      have cB:aA H6 (bE ⟨ay,aU,ax,az⟩ ((bh (aF t).1).1,e.nm)) 77 0=some (H6.next,al H6 (bE ⟨ay,aU,ax,az⟩ ((bh (aF t).1).1,e.nm)) 77 0):=eA (by simp[bE]);have m6:cellAt (al H6 (bE ⟨ay,aU,ax,az⟩ ((bh (aF t).1).1,e.nm)) 77 0) p 3=some a.rx:=by rw[xE h6.c.1];exact m3
      have ot:=lG h6.r.1.rw;have Mg:H.next∉own p a:=λq=>by have:=h.lt _ q;omega
      have m8:cellAt H8 H.next 6=some (.str e.ky):=(FF.out a4 Mg).cellAt rfl;have sD:FSt H H8 p a {a with rx:=cn,ras:=a.ras++[⟨ay,aU,ax,az⟩]}:=by have:=gq.1;have:=FV.1;exact⟨(FV.mono λj hj=>by cases hj).trans a4,λj hj=>(a5 j hj).imp (λq=>q) λq=>zzz,λj hj=>(a6 j hj).imp (λq=>q) λq=>by have:=r4 j q;omega⟩
      refine⟨_,H8,Ai ?_,a3,sD⟩;unfold zP;simp(disch:=try exact zqz)only[aO,E5,p1,aC,F5,F6,q1,agd,G6,b1,k3,fS,b2,G1,hw,b3,k5,r1,xe,b4,m3,m4,m5,f1,f2,cB,GS,a2,m6,eP ot,m8,ar,aq,zz0,simprocAttr]
     ·have b4:((bh (aF t).1).2 != 0)=true:=by simp[he]
      rw[zz2 he];refine⟨a,H6,Ai ?_,h6,FSt.same FV p a⟩;unfold zP;simp(disch:=try exact zqz)only[aO,E5,p1,aC,F5,F6,q1,agd,G6,b1,k3,fS,b2,G1,hw,b3,k5,r1,xe,b4,ar,aq,zz0,simprocAttr]
    ·have b3:(e.rn != ((f.aw.length:Nat):Int)+1)=true:=by simp[iU]
     rw[zz2 iU];refine⟨a,H4,Ai ?_,h4,FSt.same gq p a⟩;unfold zP;simp(disch:=try exact zqz)only[aO,E5,p1,aC,F5,F6,q1,agd,G6,b1,k3,fS,b2,G1,hw,b3,ar,aq,zz0,simprocAttr]
  ·have b1:(!(e.ky==[]))=true:=by simp[Ki]
   cases Kg:lY f.ks (e.nm,e.ky) with
   |some SQ=>
    rw[zz2 ⟨Ki,rfl⟩];rw[Kg] at q1;refine⟨a,H4,Ai ?_,h4,FSt.same gq p a⟩;unfold zP;simp(disch:=try exact zqz)only[aO,E5,p1,aC,F5,F6,q1,agd,afK,G6,b1,ar,aq,zz0,simprocAttr]
   |none=>
   rw[zz1 zzy];rw[Kg] at q1;by_cases kH:f.aw.length=64
   ·have b2:(((f.aw.length:Nat):Int)==64)=true:=by simp[kH]
    rw[zz2 kH];refine⟨a,H4,Ai ?_,h4,FSt.same gq p a⟩;unfold zP;simp(disch:=try exact zqz)only[aO,E5,p1,aC,F5,F6,q1,agd,af0,G6,b1,k3,fS,b2,ar,aq,zz0,simprocAttr]
   ·have b2:(((f.aw.length:Nat):Int)==64)=false:=by rw[zz8];omega
    rw[zz1 kH];have hw:IntKind.wrap .i64 (((f.aw.length:Nat):Int)+1)=((f.aw.length:Nat):Int)+1:=wrap_i64 zzz zzz;by_cases iU:e.rn=(f.aw.length:Int)+1
    ·have b3:(e.rn != ((f.aw.length:Nat):Int)+1)=false:=by simp[iU]
     rw[zz1 (by simp[iU])];have hb:=ZC t;have k5:av H4 H2.next 0 1=some [dx]:=(c3.out q2 zzy).av 1 0 zzy;obtain⟨ay,aU,ax,az,H5,r1,r2,r3,r4⟩:=T8 ((p2.au o3).au q2) (by have:=hb.1;omega) (λu hu=>by have:=hb.2 u hu;omega);have o6:=aD H5 (rv ay (bh (aF t).1).1.st ax az) 75 0;have c6:=aP H5 (rv ay (bh (aF t).1).1.st ax az) 75 0;have n6:(al H5 (rv ay (bh (aF t).1).1.st ax az) 75 0).next=H5.next+1:=rfl;have xe:st 4 (.ptr H5.next 0) (.agg (rv ay (bh (aF t).1).1.st ax az)) (al H5 [.ah,(zi 0),.ah,.ah] 75 0)=some (al H5 (rv ay (bh (aF t).1).1.st ax az) 75 0):=gy (by simp[r2.v.d.row.one,r2.t.rl.one,r2.s.lg,iV]) rfl rfl zzx rfl;generalize hA6:al H5 (rv ay (bh (aF t).1).1.st ax az) 75 0=H6 at*
     have h6:=(h4.au r3).au o6;have FV:=(gq.trans r3).trans o6;by_cases he:(bh (aF t).1).2=0
     ·have b4:((bh (aF t).1).2 != 0)=false:=by simp[he]
      rw[zz1 (by simp[he]),zz1 Ki];have m3:cellAt H6 p 3=some a.rx:=h6.c.cellAt rfl;have m4:av H6 H5.next 0 4=some (rv ay (bh (aF t).1).1.st ax az):=c6.av 4 0 zzy;have FF:=(Rr.out r3 zzy).out o6 zzy;have m5:cellAt H6 H.next 5=some (.str e.nm):=FF.cellAt rfl;have Oz:RV H6 ay aU ax az (bh (aF t).1).1:=r2.v.au o6;have tt:∀j∈(RA.mk ay aU ax az).fp,j∉own p a:=λj hj q=>by have:=r4 j hj;have:=h4.lt j q;omega
      obtain⟨cn,H7,H8,a1,a2,a3,a4,a5,a6,a7⟩:=h6.Y2 (r':=⟨ay,aU,ax,az⟩) (x:=((bh (aF t).1).1,e.nm)) Oz tt zzz;have GS:=a1 H6.next rfl;have f1:fl [.ah,(zi 0),.ah,.ah,(.str [])] [(0,4,.agg (rv ay (bh (aF t).1).1.st ax az)),(4,1,.str e.nm)]=some (bE ⟨ay,aU,ax,az⟩ ((bh (aF t).1).1,e.nm)):=by rw[z8 (l:=rv ay (bh (aF t).1).1.st ax az) (n:=4) rfl zzy,yW rfl zzy,pW];rfl
      have f2:fl [.ah,(zi 0),.ah,.ah,(.str [])] [(0,5,.agg (bE ⟨ay,aU,ax,az⟩ ((bh (aF t).1).1,e.nm)))]=some (bE ⟨ay,aU,ax,az⟩ ((bh (aF t).1).1,e.nm)):=by rw[z8 (l:=bE ⟨ay,aU,ax,az⟩ ((bh (aF t).1).1,e.nm)) (n:=5) rfl zzy,pW];rfl
      have cB:aA H6 (bE ⟨ay,aU,ax,az⟩ ((bh (aF t).1).1,e.nm)) 77 0=some (H6.next,al H6 (bE ⟨ay,aU,ax,az⟩ ((bh (aF t).1).1,e.nm)) 77 0):=eA (by simp[bE]);have m6:cellAt (al H6 (bE ⟨ay,aU,ax,az⟩ ((bh (aF t).1).1,e.nm)) 77 0) p 3=some a.rx:=by rw[xE h6.c.1];exact m3
      have ot:=lG h6.r.1.rw;have Mg:H.next∉own p a:=λq=>by have:=h.lt _ q;omega
      have m8:cellAt H8 H.next 6=some (.str e.ky):=(FF.out a4 Mg).cellAt rfl;have sD:FSt H H8 p a {a with rx:=cn,ras:=a.ras++[⟨ay,aU,ax,az⟩]}:=by have:=gq.1;have:=FV.1;exact⟨(FV.mono λj hj=>by cases hj).trans a4,λj hj=>(a5 j hj).imp (λq=>q) λq=>zzz,λj hj=>(a6 j hj).imp (λq=>q) λq=>by have:=r4 j q;omega⟩
      have m1:cellAt H8 H.next 1=some (zi e.rn):=(FF.out a4 Mg).cellAt rfl;have m9:cellAt H8 H.next 5=some (.str e.nm):=(FF.out a4 Mg).cellAt rfl;have m0:cellAt H8 p 4=some (.ptr a.kp 0):=a3.c.cellAt rfl;have f3:fl [(.str []),(.str [])] [(0,1,.str e.nm),(1,1,.str e.ky)]=some (bN (e.nm,e.ky)):=rfl;obtain⟨uO,H9,y1,y2,y3⟩:=a3.iO hk Kg e.rn;have Ji:cK (zf 33) [.ptr a.kp 0,.agg (bN (e.nm,e.ky)),zi e.rn] H8=some (.tuple [zi e.rn,.bool true],H9):=y1;refine⟨_,H9,Ai ?_,y2,sD.trans y3⟩;unfold zP;simp(disch:=try exact zqz)only[aO,E5,p1,aC,F5,F6,q1,agd,af0,G6,b1,k3,fS,b2,G1,hw,b3,k5,r1,xe,b4,m3,m4,m5,f1,f2,cB,GS,a2,m6,eP ot,m8,m1,m9,m0,f3,Ji,ar,aq,zz0,simprocAttr]
     ·have b4:((bh (aF t).1).2 != 0)=true:=by simp[he]
      rw[zz2 he];refine⟨a,H6,Ai ?_,h6,FSt.same FV p a⟩;unfold zP;simp(disch:=try exact zqz)only[aO,E5,p1,aC,F5,F6,q1,agd,af0,G6,b1,k3,fS,b2,G1,hw,b3,k5,r1,xe,b4,ar,aq,zz0,simprocAttr]
    ·have b3:(e.rn != ((f.aw.length:Nat):Int)+1)=true:=by simp[iU]
     rw[zz2 iU];refine⟨a,H4,Ai ?_,h4,FSt.same gq p a⟩;unfold zP;simp(disch:=try exact zqz)only[aO,E5,p1,aC,F5,F6,q1,agd,af0,G6,b1,k3,fS,b2,G1,hw,b3,ar,aq,zz0,simprocAttr]
def lR (now:Int)(R:Rn)(i:Nat):Rn:=match R.rs[i]?,R.ts[i]? with
 |some t,some d=>if R.st≠0\/now<t.fF then R else if t.ph=2 then nu R i t d now else if t.ph=5 then {R with rs:=R.rs.set i {t with ph:=1,fF:=0} } else R
 |_,_=>R
def zt (now:Int):Nat->Nat->Rn->Rn
 |0,_,R=>R|m+1,i,R=>zt now m (i+1) (lR now R i)
def Bb (R:Rn)(now:Int):Rn:=zt now R.rs.length 0 R
section
variable {i:Nat}{now:Int}
theorem mem_set {rs:List RT}{u v:RT}(h:v∈rs.set i u):v∈rs\/v=u:=adT h
theorem aHB {R:Rn}{t:RT}{d:Tk}(ht:R.rs[i]?=some t)(hk:oC R)(hb:yv R):oC (nu R i t d now)/\yv (nu R i t d now)/\(nu R i t d now).ts=R.ts/\(nu R i t d now).sg=R.sg/\(nu R i t d now).rs.length=R.rs.length:=by
 have hbt:=hb.t t (aab ht);unfold nu;split
 ·refine⟨hk.set i _,⟨hb.d,λu hu=>?_⟩,rfl,rfl,adi⟩;rcases mem_set hu with hu|rfl;·exact hb.t u hu
  ·exact hbt
 ·have h1:=hk.set i {t with ph:=4,fF:=0};refine⟨⟨⟨h1.sm.n,h1.sm.a,h1.sm.r,h1.sm.s⟩,h1.len,h1.lh⟩,⟨hb.d,λu hu=>?_⟩,rfl,rfl,adi⟩;rcases mem_set hu with hu|rfl;·exact hb.t u hu
  ·exact hbt
theorem aGn {R:Rn}(hk:oC R)(hb:yv R):oC (lR now R i)/\yv (lR now R i)/\(lR now R i).ts=R.ts/\(lR now R i).sg=R.sg/\(lR now R i).rs.length=R.rs.length:=by
 unfold lR;split
 ·rename_i t d ht hd;split;·exact⟨hk,hb,rfl,rfl,rfl⟩
  ·split;·exact aHB ht hk hb
   ·split
    ·refine⟨hk.set i _,⟨hb.d,λu hu=>?_⟩,rfl,rfl,adi⟩;rcases mem_set hu with hu|rfl;·exact hb.t u hu
     ·exact hb.t t (aab ht)
    ·exact⟨hk,hb,rfl,rfl,rfl⟩
 ·exact⟨hk,hb,rfl,rfl,rfl⟩
theorem akU {dx tx sx bU:AV}{xs:List AV}{P n:Nat}{now:Int}(hn:n<=1000)(hp:P∉pj dx xs tx sx):∀(m i:Nat) (H:Hp) (R:Rn),i+m=n->R.rs.length=n->Cs H P (rv dx R.st tx sx) 75 0->RO H dx xs tx sx R->oC R->yv R->
  ∃H',(∀dV:K.Fn 2,Kf JN GO cK dV (zi now) (.ptr P 0) bU (zi (n:Nat)) (zi (i:Nat)) H=dV (.ptr P 0) bU H')/\Cs H' P (rv dx (zt now m i R).st tx sx) 75 0/\RO H' dx xs tx sx (zt now m i R)/\Out (P::ak tx) H H'
 |0,i,H,R,hm,hl,hC,hO,hk,hb=>by obtain rfl:i=n:=zzz;refine⟨H,λdV=>?_,hC,hO,Out.refl _ _⟩;rw[HO];simp only[FH,dA,zz0,simprocAttr]
 |m+1,i,H,R,hm,hl,hC,hO,hk,hb=>by
  have h1:i<n:=zzz;have es:=dD h1 zzz;have ht:R.rs[i]?=some (R.rs[i]' zzz):=aai _;have aN:R.ts.length=n:=by rw[<-hk.len];exact hl
  have hd:R.ts[i]?=some (R.ts[i]' zzz):=aai _;have kp:=aGn (i:=i) (now:=now) hk hb;have hA:lR now R i=(if R.st≠0\/now<(R.rs[i]' zzz).fF then R else if (R.rs[i]' zzz).ph=2 then nu R i (R.rs[i]' zzz) (R.ts[i]' zzz) now else if (R.rs[i]' zzz).ph=5 then {R with rs:=R.rs.set i {(R.rs[i]' zzz) with ph:=1,fF:=0} } else R):=by unfold lR;rw[ht,hd]
  generalize R.rs[i]' zzz=t at*
  generalize R.ts[i]' zzz=d at*
  have c1:cellAt H P 1=some (zi R.st):=hC.cellAt rfl;have c2:cellAt H P 2=some tx:=hC.cellAt rfl;obtain⟨b,o,q1,q2,q3,q4,q5⟩:=hO.v.t.at zzx (sU ht);have r0:cellAt H b o=some (zi t.ph):=by have:=q5 0 _ (Es t).1;rwa[aeA] at this
  have r2:cellAt H b (o+2)=some (zi t.fF):=q5 2 _ (Es t).2.2.1;have aX:=(aac.1 ht).1;show ∃H',(∀dV:K.Fn 2,_)/\Cs H' P (rv dx (zt now m (i+1) (lR now R i)).st tx sx) 75 0/\RO H' dx xs tx sx (zt now m (i+1) (lR now R i))/\Out (P::ak tx) H H';have go:∀(H1:Hp),Cs H1 P (rv dx (lR now R i).st tx sx) 75 0->RO H1 dx xs tx sx (lR now R i)->Out (P::ak tx) H H1->(∀H':Hp,(∀dV:K.Fn 2,Kf JN GO cK dV (zi now) (.ptr P 0) bU (zi (n:Nat)) (zi ((i+1:Nat):Int)) H1=dV (.ptr P 0) bU H')->∀dV:K.Fn 2,Kf JN GO cK dV (zi now) (.ptr P 0) bU (zi (n:Nat)) (zi (i:Nat)) H=dV (.ptr P 0) bU H')->
    ∃H',(∀dV:K.Fn 2,Kf JN GO cK dV (zi now) (.ptr P 0) bU (zi (n:Nat)) (zi (i:Nat)) H=dV (.ptr P 0) bU H')/\Cs H' P (rv dx (zt now m (i+1) (lR now R i)).st tx sx) 75 0/\RO H' dx xs tx sx (zt now m (i+1) (lR now R i))/\Out (P::ak tx) H H':=by
   intro H1 a1 a2 a3 a4;obtain⟨H',i1,i2,i3,i4⟩:=akU (bU:=bU) hn hp m (i+1) H1 (lR now R i) zzz (kp.2.2.2.2.trans hl) a1 a2 kp.1 kp.2.1;exact⟨H',a4 H' i1,i2,i3,a3.trans i4⟩
  clear kp;by_cases h0:R.st=0
  ·have d0:(R.st != 0)=false:=by simp[h0]
   by_cases h2:now<t.fF;·have d2:decide (now<t.fF)=true:=zz3 h2;rw[zz2 (.inr h2)] at hA;rw[hA] at go⊢;refine go H hC hO (Out.refl _ _) λH' i1 dV=>?_;rw[HO];simp(disch:=try exact zqz)only[FH,aQ h1,c1,c2,q1,d0,r2,d2,es,i1,ar,aq,zz0,simprocAttr]
   ·have d2:decide (now<t.fF)=false:=zz4 h2;rw[zz1 (λq=>q.elim (λz=>z h0) h2)] at hA;by_cases h3:t.ph=2
    ·have d3:(t.ph==2)=true:=by simp[h3]
     rw[zz2 h3] at hA;rw[hA] at go⊢;have bd:=hb.d d (aab hd);have bt:=hb.t t (aab ht);obtain⟨H1,f1,f2,f3,f4⟩:=acR hC hO hp ht hd bd.1 bd.2 bt.1 bt.2 now;refine go H1 f2 f3 f4 λH' i1 dV=>?_;rw[HO];simp(disch:=try exact zqz)only[FH,aQ h1,c1,c2,q1,d0,r2,d2,r0,d3,f1,es,i1,ar,aq,zz0,simprocAttr]
    ·have d3:(t.ph==2)=false:=by simp[h3]
     rw[zz1 h3] at hA;by_cases h5:t.ph=5
     ·have d5:(t.ph==5)=true:=by simp[h5]
      rw[zz2 h5] at hA;rw[hA] at go⊢;obtain⟨H2,w1,w2,w3,w4⟩:=hO.t.eV (k:=0) (v:=zi 1) (sU ht) q1 rfl zzx;have e2:((eG R.rs).set i ((dQ t).set 0 (zi 1)))[i]?=some ((dQ t).set 0 (zi 1)):=ae0 (by rw[AA];exact aX);obtain⟨H3,v1,v2,v3,v4⟩:=w2.eV (k:=2) (v:=zi 0) e2 q1 rfl zzx;rw[List.set_set] at v2;have fY:((dQ t).set 0 (zi 1)).set 2 (zi 0)=dQ {t with ph:=1,fF:=0}:=rfl;rw[fY,PF] at v2;rw[aeA] at w1;have o3:=w3.trans v3;have BQ:P∉ak tx:=λz=>hp (aaw _ (aaG _ z));refine go H3 (hC.out o3 BQ) (hO.bW v2 o3) (o3.mono λj hj=>.tail _ hj) λH' i1 dV=>?_;rw[HO];simp(disch:=try exact zqz)only[FH,aQ h1,c1,c2,q1,d0,r2,d2,r0,d3,d5,w1,v1,es,i1,ar,aq,zz0,simprocAttr]
     ·have d5:(t.ph==5)=false:=by simp[h5]
      rw[zz1 h5] at hA;rw[hA] at go⊢;refine go H hC hO (Out.refl _ _) λH' i1 dV=>?_;rw[HO];simp(disch:=try exact zqz)only[FH,aQ h1,c1,c2,q1,d0,r2,d2,r0,d3,d5,es,i1,ar,aq,zz0,simprocAttr]
  ·have d0:(R.st != 0)=true:=by simp[h0]
   rw[zz2 (.inl h0)] at hA;rw[hA] at go⊢;refine go H hC hO (Out.refl _ _) λH' i1 dV=>?_;rw[HO];simp(disch:=try exact zqz)only[FH,aQ h1,c1,c2,q1,d0,es,i1,ar,aq,zz0,simprocAttr]
theorem aHn {H:Hp}{dx tx sx:AV}{xs:List AV}{R:Rn}(h:RV H dx xs tx sx R)(hk:oC R)(hb:yv R)(now:Int):
  ∃ay aU ax az H',cK (zf 77) [.agg (rv dx R.st tx sx),zi now] H=some (.agg (rv ay (Bb R now).st ax az),H')/\RO H' ay aU ax az (Bb R now)/\Out [] H H'/\∀j∈pj ay aU ax az,H.next<=j:=by
 have aO:bx 75 (.agg (rv dx R.st tx sx)) H=some (H.next,al H (rv dx R.st tx sx) 75 0):=iz zzy;have o1:=aD H (rv dx R.st tx sx) 75 0;have c1:=aP H (rv dx R.st tx sx) 75 0;have n1:(al H (rv dx R.st tx sx) 75 0).next=H.next+1:=rfl;generalize al H (rv dx R.st tx sx) 75 0=H1 at*
 have o2:=aD H1 zR 75 0;have c2:=aP H1 zR 75 0;have n2:(al H1 zR 75 0).next=H.next+2:=by rw[bS,n1]
 rw[n1] at c2;generalize bF:al H1 zR 75 0=H2 at*
 have bG:=o1.trans o2;have lW:=c1.out o2 zzy;have k1:av H2 H.next 0 4=some (rv dx R.st tx sx):=lW.av 4 0 zzy;obtain⟨ay,aU,ax,az,H4,r1,r2,r3,r4⟩:=DV (h.au bG) hk.sm;have n4:=r3.nx;have xt:∀z:Int,(rv ay z ax az).all aW=true:=λz=>by simp[r2.v.d.row.one,r2.t.rl.one,r2.s.lg,iV]
 obtain⟨H5,s1,s2,s3,s4⟩:=iE (n:=4) (vs:=rv ay R.st ax az) (lW.out r3 zzy) rfl rfl (xt _);have fr:∀m,m<H.next+2->∀j∈pj ay aU ax az,j∉[m]:=λm hm j hj=>by rw[No];have:=r4 j hj;omega
 have R5:=r2.out s3 (fr _ zzz);have AK:∀m,m<H.next+2->m∉ak ax:=λm hm z=>by have:=r4 m (aaw _ (aaG _ z));omega
 have hr:=hk.sm.r;obtain⟨H7,t1,t2,t3,t4⟩:=akU (bU:=.ptr (H.next+1) 0) (P:=H.next) (now:=now) hr (λz=>by have:=r4 _ z;omega) R.rs.length 0 H5 R zzz rfl s2 R5 hk hb;rw[show (((0:Nat):Int))=0 from rfl] at t1;have PE:Cs H7 H.next (rv ay (Bb R now).st ax az) 75 0:=t2;have SE:RO H7 ay aU ax az (Bb R now):=t3;have M6:∀m,m<H.next+2->m≠H.next->m∉H.next::ak ax:=λm hm aE z=>(aal.1 z).elim aE (AK m hm);have KX:=((c2.out r3 zzy).out s3 (by rw[No];omega)).out t4 (M6 _ zzz zzz);have k5:cellAt H5 H.next 2=some ax:=s2.cellAt rfl;have tl:=R5.v.ang;have k7:av H7 H.next 0 4=some (rv ay (Bb R now).st ax az):=PE.av 4 0 zzy;obtain⟨H8,w1,w2,w3,w4⟩:=iE (n:=4) (vs:=rv ay (Bb R now).st ax az) KX rfl rfl (xt _);have k8:av H8 (H.next+1) 0 4=some (rv ay (Bb R now).st ax az):=w2.av 4 0 zzy;have u7:∀j∈ak ax,H.next<=j:=λj hj=>by have:=r4 j (aaw _ (aaG _ hj));omega
 have out:=fh (fh (fh (bG.trans r3) s3 (la (aaq _))) t4 (λj hj=>(aal.1 hj).elim (λe=>zzz) (u7 j))) w3 (la (agD _));refine⟨ay,aU,ax,az,H8,arp ?_,SE.out w3 (fr _ zzz),out,λj hj=>by have:=r4 j hj;omega⟩;unfold alh;simp(disch:=try exact zqz)only[aO,n1,bF,k1,r1,s1,k5,tl,t1,k7,w1,k8,ar,aq,zz0,simprocAttr]
end
def yV (R:Rn):Rn×Int:=if R.st≠0 then (tA,9) else ({R with st:=3},0)
section
variable {H:Hp}{a:FA}{f:Fm}{i:Nat}{now:Int}{x:Rn×Str}
theorem axf {dx tx sx:AV}{xs:List AV}{R:Rn}(h:RV H dx xs tx sx R)(hk:oC R):
  qe (zf 82) [.agg (rv dx R.st tx sx)] H (yV R).1 (yV R).2:=by
 have aO:bx 75 (.agg (rv dx R.st tx sx)) H=some (H.next,al H (rv dx R.st tx sx) 75 0):=iz zzy;have o1:=aD H (rv dx R.st tx sx) 75 0;have c1:=aP H (rv dx R.st tx sx) 75 0;have n1:(al H (rv dx R.st tx sx) 75 0).next=H.next+1:=rfl;generalize al H (rv dx R.st tx sx) 75 0=H1 at*
 have o2:=aD H1 zR 75 0;have c2:=aP H1 zR 75 0;have n2:(al H1 zR 75 0).next=H.next+2:=by rw[bS,n1]
 rw[n1] at c2;generalize bF:al H1 zR 75 0=H2 at*
 have bG:=o1.trans o2;have lW:=c1.out o2 zzy;have k1:cellAt H2 H.next 1=some (zi R.st):=lW.cellAt rfl;have k4:av H2 H.next 0 4=some (rv dx R.st tx sx):=lW.av 4 0 zzy;unfold yV;by_cases h0:R.st=0
 ·have d0:(R.st != 0)=false:=by simp[h0]
  rw[zz1 (by simp[h0])];obtain⟨ay,aU,ax,az,H3,r1,r2,r3,r4⟩:=DV (h.au bG) hk.sm;obtain⟨H4,s1,s2,s3,s4⟩:=iE (n:=4) (vs:=rv ay R.st ax az) (lW.out r3 zzy) rfl rfl (by simp[r2.v.d.row.one,r2.t.rl.one,r2.s.lg,iV]);obtain⟨H5,t1,t2,t3,t4⟩:=eV s2 zzx (o:=1) zzy (v:=zi 3) rfl;have fY:(rv ay R.st ax az).set 1 (zi 3)=rv ay 3 ax az:=rfl;rw[fY] at t2;have k5:av H5 H.next 0 4=some (rv ay 3 ax az):=t2.av 4 0 zzy;have aE:H.next+1∉[H.next]:=by rw[No];omega
  have cQ:=((c2.out r3 zzy).out s3 aE).out t3 aE;obtain⟨H6,u1,u2,u3,u4⟩:=iE (n:=4) (vs:=rv ay 3 ax az) cQ rfl rfl (by simp[r2.v.d.row.one,r2.t.rl.one,r2.s.lg,iV]);have k6:av H6 (H.next+1) 0 4=some (rv ay 3 ax az):=u2.av 4 0 zzy;have fr:∀m,m<H.next+2->∀j∈pj ay aU ax az,j∉[m]:=λm hm j hj=>by rw[No];have:=r4 j hj;omega
  have R6:=((r2.out s3 (fr _ zzz)).out t3 (fr _ zzz)).out u3 (fr _ zzz);have out:=fh (fh (fh (bG.trans r3) s3 (la (aaq _))) t3 (la (aaq _))) u3 (la (agD _));refine⟨ay,aU,ax,az,H6,amm ?_,⟨⟨R6.v.d,R6.v.t,R6.v.s⟩,R6.t,R6.s,R6.dt,R6.ds⟩,out,λj hj=>by have:=r4 j hj;omega⟩;unfold XP;simp(disch:=try exact zqz)only[aO,n1,bF,k1,d0,k4,r1,s1,t1,k5,u1,k6,ar,aq,zz0,simprocAttr]
 ·have d0:(R.st != 0)=true:=by simp[h0]
  rw[zz2 h0];have k5:av H2 (H.next+1) 0 4=some zR:=c2.av 4 0 zzy;refine qe.err (H1:=H2) (m:=H.next+1) (amm (?_:_=some (_,H2))) bG (Out.refl _ _) (agD _);have hz:st 4 (.ptr (H.next+1) 0) (.agg zR) (al H1 zR 75 0)=some H2:=by rw[<-bF];exact gy rfl rfl n1.symm zzx rfl
  rw[bF] at hz;unfold XP;simp(disch:=try exact zqz)only[aO,n1,bF,k1,d0,hz,k5,ar,aq,zz0,simprocAttr]
def vF (now:Int)(x:Rn×Str):Rn×Str:=(Bb x.1 now,x.2)
def GQ (f:Fm)(now:Int):Fm×Int:=if now<=f.ck then (f,10) else ({f with ck:=now,aw:=f.aw.map (vF now)},0)
def xO (f:Fm)(now:Int)(i:Nat):Fm:={f with ck:=now,aw:=(f.aw.take i).map (vF now)++f.aw.drop i}
theorem anj (h:f.aw[i]?=some x):(xO f now i).aw[i]?=some x:=by have hi:=(aac.1 h).1;show ((f.aw.take i).map (vF now)++f.aw.drop i)[i]?=_;rw[abm (by rw[abF,ad9];omega),abF,ad9,afX,amM zzz,ajA,aeA];exact h
theorem aBj (h:f.aw[i]?=some x):(xO f now i).aw.set i (vF now x)=(xO f now (i+1)).aw:=by
 have hi:=(aac.1 h).1;show ((f.aw.take i).map (vF now)++f.aw.drop i).set i (vF now x)=(f.aw.take (i+1)).map (vF now)++f.aw.drop (i+1);have hd:f.aw.drop i=x::f.aw.drop (i+1):=by rw[aiy hi];rw[aai hi] at h;rw[ab0 h]
 rw[amY _ _ (by rw[abF,ad9];omega),abF,ad9,amM zzz,ajA,hd,ai6,h,List.set_cons_zero,acZ,abC];rfl
theorem FL.at {H:Hp}{p:Nat}{a:FA}{f:Fm}(h:FL H p a f){i:Nat}{x:Rn×Str}(hx:f.aw[i]?=some x):
  ∃r b o,a.ras[i]?=some r/\(∀kd,ia 5 a.rx (.int kd i)=some (.ptr b o))/\b∈ak a.rx/\b<H.next/\av H b o 4=some (rv r.dx x.1.st r.tx r.sx)/\av H b o 5=some (bE r x)/\RV H r.dx r.xs r.tx r.sx x.1:=by
 have aX:=(aac.1 hx).1;have hr:a.ras[i]?=some (a.ras[i]'(by rw[h.len];exact aX)):=aai _;obtain⟨b,o,q1,q2,q3,q4,q5⟩:=h.r.rl.at zzx (Ts hr hx);refine⟨_,b,o,hr,q1,q2,q3,?_,q4,h.v i _ x hr hx⟩;have e0:=q5 0 _ rfl;have e1:=q5 1 _ rfl;have e2:=q5 2 _ rfl;have e3:=q5 3 _ rfl;rw[aeA] at e0;simp only[av,e0,e1,e2,e3,abY,acf];rfl
theorem ad3 {p:Nat}{f:Fm}{now:Int}(hr:f.aw.length<=64)(mK:∀x∈f.aw,oC x.1/\yv x.1):∀(r:List (Rn×Str)) (i:Nat) (H:Hp) (a:FA),i<=f.aw.length->f.aw.drop i=r->FL H p a (xO f now i)->
  ∃a' H',(∀fA:K.Fn 0,YV JN GO cK fA (.ptr p 0) (zi now) (zi (f.aw.length:Nat)) (zi (i:Nat)) H=fA H')/\FL H' p a' (xO f now f.aw.length)/\FSt H H' p a a'
 |[],i,H,a,hi,h,hF=>by obtain rfl:=drop_nil hi h;refine⟨a,H,λfA=>?_,hF,FSt.same (Out.refl _ _) p a⟩;rw[af8];simp only[WQ,dA,zz0,simprocAttr]
 |x::r,i,H,a,hi,h,hF=>by
  obtain⟨g1,g2,g3⟩:=dU h;have es:=dD g1 zzz;have k3:cellAt H p 3=some a.rx:=hF.c.cellAt rfl;obtain⟨ra,b,o,q1,q2,q3,q4,q5,q6,q7⟩:=hF.at (anj (now:=now) g2);obtain⟨qZ,Cv⟩:=mK x (aab g2);obtain⟨ay,aU,ax,az,H1,t1,t2,t3,t4⟩:=aHn q7 qZ Cv now;have Ab:=hF.au t3;have tt:∀j∈(RA.mk ay aU ax az).fp,j∉own p a:=λj hj q=>by have:=t4 j hj;have:=hF.lt j q;omega
  obtain⟨H2,s1,s2,s3,s4⟩:=Ab.alO (anj (now:=now) g2) q2 (r':=⟨ay,aU,ax,az⟩) t2.v tt;have yP:cellAt H1 p 3=some a.rx:=Ab.c.cellAt rfl;have sD:FSt H H2 p a {a with ras:=a.ras.set i ⟨ay,aU,ax,az⟩}:=⟨(t3.mono λj hj=>by cases hj).trans (s3.mono λj hj=>iq (k:=5) rfl hj),λj hj=>.inl hj,λj hj=>(s4 j hj).imp (λq=>q) λq=>t4 j q⟩;have B3:FL H2 p {a with ras:=a.ras.set i ⟨ay,aU,ax,az⟩} (xO f now (i+1)):=by
   have:=aBj (now:=now) g2;have e:{xO f now i with aw:=(xO f now i).aw.set i (Bb x.1 now,x.2)}=xO f now (i+1):=by show ({ck:=now,nms:=f.nms,aM:=f.aM,aw:=_,ks:=f.ks}:Fm)=_;rw[show (Bb x.1 now,x.2)=vF now x from rfl,this];rfl
   rw[e] at s2;exact s2
  obtain⟨a',H',i1,i2,i3⟩:=ad3 hr mK r (i+1) H2 _ g1 g3 B3;refine⟨a',H',λfA=>?_,i2,sD.trans i3⟩;rw[af8];simp(disch:=try exact zqz)only[WQ,aQ g1,k3,q2,q5,t1,s1,yP,eP (lG hF.r.1.rw),es,i1,ar,aq,zz0,simprocAttr]
theorem aAc {p:Nat}(h:FL H p a f)(hr:f.aw.length<=64)(mK:∀x∈f.aw,oC x.1/\yv x.1)(now:Int):
  ∃a' H',cK (zf 42) [.ptr p 0,zi now] H=some (zi (GQ f now).2,H')/\FL H' p a' (GQ f now).1/\FSt H H' p a a':=by
 have k0:cellAt H p 0=some (zi f.ck):=h.c.cellAt rfl;unfold GQ;by_cases hn:now<=f.ck;·have d:decide (now<=f.ck)=true:=zz3 hn;rw[zz2 hn];refine⟨a,H,an5 ?_,h,FSt.same (Out.refl _ _) p a⟩;unfold WL;simp(disch:=try exact zqz)only[k0,d,ar,aq,zz0,simprocAttr]
 ·have d:decide (now<=f.ck)=false:=zz4 hn;rw[zz1 hn];obtain⟨H1,s1,s2,s3⟩:=h.clock now;have s2':FL H1 p a (xO f now 0):=s2;have k3:cellAt H1 p 3=some a.rx:=s2.c.cellAt rfl;have fS:=s2.JH;obtain⟨a',H',i1,i2,i3⟩:=ad3 hr mK f.aw 0 H1 a (abg _) aaM s2';rw[show (((0:Nat):Int))=0 from rfl] at i1;have e:xO f now f.aw.length={f with ck:=now,aw:=f.aw.map (vF now)}:=by unfold xO;rw[List.take_length,List.drop_length,ac4]
  rw[e] at i2;refine⟨a',H',an5 ?_,i2,s3.trans i3⟩;unfold WL;simp(disch:=try exact zqz)only[k0,d,s1,k3,fS,i1,ar,aq,zz0,simprocAttr]
noncomputable def nW (R:Rn)(e:Ev)(ck:Int):Rn×Int:=
 if e.kd=3 then qj R e.tk e.ty ck else if e.kd=4 then rU R e.tk e.ty e.dt else if e.kd=5 then zZ R e.tk e.ty ck else if e.kd=7 then vi R e.nm else yV R
noncomputable def FG (f:Fm)(e:Ev):Fm×Int:=match f.aw[(e.rn-1).toNat]? with
 |none=>(f,0)|some x=>if (nW x.1 e f.ck).2=0 then ({f with aw:=f.aw.set (e.rn-1).toNat ((nW x.1 e f.ck).1,x.2)},0) else (f,(nW x.1 e f.ck).2)
theorem arc {p:Nat}(h:FL H p a f)(hr:f.aw.length<=64)(mK:∀x∈f.aw,oC x.1/\yv x.1/\x.1.sg.length<=900)(e:Ev)(h1:1<=e.rn)(h2:e.rn<=f.aw.length):
  ∃a' H',cK (zf 43) [.ptr p 0,.agg (aS e)] H=some (zi (FG f e).2,H')/\FL H' p a' (FG f e).1/\FSt H H' p a a':=by
 obtain⟨i,hi⟩:∃i:Nat,e.rn=(i:Int)+1:=⟨(e.rn-1).toNat,zzz⟩;have aX:i<f.aw.length:=zzz;have hx:f.aw[i]?=some (f.aw[i]'aX):=aai _;generalize f.aw[i]'aX=x at hx;obtain⟨qZ,Cv,ok3⟩:=mK x (aab hx);have pK:(e.rn-1).toNat=i:=zzz;have hw:IntKind.wrap .i64 (e.rn-1)=((i:Nat):Int):=by rw[hi,wrap_i64 zzz zzz];omega
 have aO:bx 26 (.agg (aS e)) H=some (H.next,al H (aS e) 26 0):=iz (by rw[tN];omega);have o1:=aD H (aS e) 26 0;have c1:=aP H (aS e) 26 0;have n1:(al H (aS e) 26 0).next=H.next+1:=rfl;generalize al H (aS e) 26 0=H1 at*
 have F1:=h.au o1;have k3:cellAt H1 p 3=some a.rx:=F1.c.cellAt rfl;have E1:cellAt H1 H.next 1=some (zi e.rn):=c1.cellAt rfl;have cB:aA H1 zR 75 0=some (H.next+1,al H1 zR 75 0):=by rw[<-n1];exact eA zzy
 have o2:=aD H1 zR 75 0;have c2:=aP H1 zR 75 0;have n2:(al H1 zR 75 0).next=H.next+2:=by rw[bS,n1]
 rw[n1] at c2;generalize bF:al H1 zR 75 0=H2 at*
 have F2:=F1.au o2;have bG:=o1.trans o2;have cE:=c1.out o2 zzy;have E0:cellAt H2 H.next 0=some (zi e.kd):=cE.cellAt rfl;have E2:cellAt H2 H.next 2=some (zi e.tk):=cE.cellAt rfl;have E3:cellAt H2 H.next 3=some (zi e.ty):=cE.cellAt rfl;have E5:cellAt H2 H.next 5=some (.str e.nm):=cE.cellAt rfl;have E7:cellAt H2 H.next 7=some (.str e.dt):=cE.cellAt rfl;have k0:cellAt H2 p 0=some (zi f.ck):=F2.c.cellAt rfl;obtain⟨ra,b,o,q1,q2,q3,q4,q5,q6,q7⟩:=F2.at hx;unfold FG;rw[pK,hx];simp only;have fin:∀(fv:AV) (args:List AV) (R':Rn) (err:Int),qe fv args H2 R' err->∃(ay:AV) (aU:List AV) (ax az:AV) (H3 H4:Hp) (a':FA) (H5:Hp),cK fv args H2=some (.tuple [.agg (rv ay R'.st ax az),zi err],H3)/\st 4 (.ptr (H.next+1) 0) (.agg (rv ay R'.st ax az)) H3=some H4/\
   (err=0->av H4 (H.next+1) 0 4=some (rv ay R'.st ax az)/\st 4 (.ptr b o) (.agg (rv ay R'.st ax az)) H4=some H5/\FL H5 p a' {f with aw:=f.aw.set i (R',x.2)}/\FSt H H5 p a a')/\(err≠0->H5=H4/\a'=a/\FL H4 p a f/\FSt H H4 p a a):=by
  rintro fv args R' err ⟨ay,aU,ax,az,H3,r1,r2,r3,r4⟩;obtain⟨H4,s1,s2,s3,s4⟩:=iE (n:=4) (vs:=rv ay R'.st ax az) (c2.out r3 zzy) rfl rfl (by simp[r2.v.d.row.one,r2.t.rl.one,r2.s.lg,iV]);have o4:Out [] H H4:=fh (bG.trans r3) s3 (la (agD _));have F4:=h.au o4;by_cases he:err=0
  ·have Oz:RV H4 ay aU ax az R':=r2.v.out s3 λj hj=>by rw[No];have:=r4 j hj;omega
   have tt:∀j∈(RA.mk ay aU ax az).fp,j∉own p a:=λj hj q=>by have:=r4 j hj;have:=h.lt j q;omega
   obtain⟨H5,t1,t2,t3,t4⟩:=F4.alO hx q2 (r':=⟨ay,aU,ax,az⟩) Oz tt;exact⟨ay,aU,ax,az,H3,H4,_,H5,r1,s1,λ_=>⟨s2.av 4 0 zzy,t1,t2,(o4.mono λj hj=>by cases hj).trans (t3.mono λj hj=>iq (k:=5) rfl hj),λj hj=>.inl hj,λj hj=>(t4 j hj).imp (λq=>q) λq=>by have:=r4 j q;omega⟩,λq=>absurd he q⟩
  ·exact⟨ay,aU,ax,az,H3,H4,a,H4,r1,s1,λq=>absurd q he,λ_=>⟨rfl,rfl,F4,FSt.same o4 p a⟩⟩
 have done:∀(R':Rn) (err:Int),nW x.1 e f.ck=(R',err)->(∃(ay:AV) (aU:List AV) (ax az:AV) (H3 H4:Hp) (a':FA) (H5:Hp),cK (zf 43) [.ptr p 0,.agg (aS e)] H=some (zi err,H5)/\
   (err=0->av H4 (H.next+1) 0 4=some (rv ay R'.st ax az)/\st 4 (.ptr b o) (.agg (rv ay R'.st ax az)) H4=some H5/\FL H5 p a' {f with aw:=f.aw.set i (R',x.2)}/\FSt H H5 p a a')/\(err≠0->H5=H4/\a'=a/\FL H4 p a f/\FSt H H4 p a a)/\H3=H3)->
   ∃a' H',cK (zf 43) [.ptr p 0,.agg (aS e)] H=some (zi (if (nW x.1 e f.ck).2=0 then ({f with aw:=f.aw.set i ((nW x.1 e f.ck).1,x.2)},0) else (f,(nW x.1 e f.ck).2):Fm×Int).2,H')/\FL H' p a' (if (nW x.1 e f.ck).2=0 then ({f with aw:=f.aw.set i ((nW x.1 e f.ck).1,x.2)},0) else (f,(nW x.1 e f.ck).2):Fm×Int).1/\FSt H H' p a a':=by
  rintro R' err ho ⟨ay,aU,ax,az,H3,H4,a',H5,w1,w2,w3,_⟩;rw[ho];by_cases he:err=0;·obtain⟨_,_,z3,z4⟩:=w2 he;rw[zz2 he];subst he;exact⟨a',H5,w1,z3,z4⟩
  ·obtain⟨rfl,rfl,z3,z4⟩:=w3 he;rw[zz1 he];exact⟨a',H5,w1,z3,z4⟩
 by_cases b3:e.kd=3
 ·obtain⟨ay,aU,ax,az,H3,H4,a',H5,w1,w2,w3,w4⟩:=fin _ _ _ _ (axH q7 qZ e.tk e.ty f.ck);refine done _ _ (by unfold nW;rw[zz2 b3]) ⟨ay,aU,ax,az,H3,H4,a',H5,Ot ?_,w3,w4,rfl⟩;have d3:(e.kd==3)=true:=by simp[b3]
  unfold Jd;by_cases he:(qj x.1 e.tk e.ty f.ck).2=0;·obtain⟨z1,z2,_⟩:=w3 he;simp(disch:=try exact zqz)only[aO,k3,E1,hw,q2,n1,bF,E0,E2,E3,k0,q5,w1,w2,d3,he,z1,z2,ar,aq,zz0,simprocAttr]
  ·obtain⟨rfl,_⟩:=w4 he;have dn:((qj x.1 e.tk e.ty f.ck).2==0)=false:=by simp[he]
   simp(disch:=try exact zqz)only[aO,k3,E1,hw,q2,n1,bF,E0,E2,E3,k0,q5,w1,w2,d3,dn,ar,aq,zz0,simprocAttr]
 have d3:(e.kd==3)=false:=by simp[b3]
 by_cases b4:e.kd=4
 ·obtain⟨ay,aU,ax,az,H3,H4,a',H5,w1,w2,w3,w4⟩:=fin _ _ _ _ (atW q7 qZ e.tk e.ty e.dt);refine done _ _ (by unfold nW;rw[zz1 b3,zz2 b4]) ⟨ay,aU,ax,az,H3,H4,a',H5,Ot ?_,w3,w4,rfl⟩;have d4:(e.kd==4)=true:=by simp[b4]
  unfold Jd;by_cases he:(rU x.1 e.tk e.ty e.dt).2=0;·obtain⟨z1,z2,_⟩:=w3 he;simp(disch:=try exact zqz)only[aO,k3,E1,hw,q2,n1,bF,E0,E2,E3,E7,q5,w1,w2,d3,d4,he,z1,z2,ar,aq,zz0,simprocAttr]
  ·obtain⟨rfl,_⟩:=w4 he;have dn:((rU x.1 e.tk e.ty e.dt).2==0)=false:=by simp[he]
   simp(disch:=try exact zqz)only[aO,k3,E1,hw,q2,n1,bF,E0,E2,E3,E7,q5,w1,w2,d3,d4,dn,ar,aq,zz0,simprocAttr]
 have d4:(e.kd==4)=false:=by simp[b4]
 by_cases b5:e.kd=5
 ·obtain⟨ay,aU,ax,az,H3,H4,a',H5,w1,w2,w3,w4⟩:=fin _ _ _ _ (az5 q7 qZ Cv e.tk e.ty f.ck);refine done _ _ (by unfold nW;rw[zz1 b3,zz1 b4,zz2 b5]) ⟨ay,aU,ax,az,H3,H4,a',H5,Ot ?_,w3,w4,rfl⟩;have d5:(e.kd==5)=true:=by simp[b5]
  unfold Jd;by_cases he:(zZ x.1 e.tk e.ty f.ck).2=0;·obtain⟨z1,z2,_⟩:=w3 he;simp(disch:=try exact zqz)only[aO,k3,E1,hw,q2,n1,bF,E0,E2,E3,k0,q5,w1,w2,d3,d4,d5,he,z1,z2,ar,aq,zz0,simprocAttr]
  ·obtain⟨rfl,_⟩:=w4 he;have dn:((zZ x.1 e.tk e.ty f.ck).2==0)=false:=by simp[he]
   simp(disch:=try exact zqz)only[aO,k3,E1,hw,q2,n1,bF,E0,E2,E3,k0,q5,w1,w2,d3,d4,d5,dn,ar,aq,zz0,simprocAttr]
 have d5:(e.kd==5)=false:=by simp[b5]
 by_cases b7:e.kd=7
 ·obtain⟨ay,aU,ax,az,H3,H4,a',H5,w1,w2,w3,w4⟩:=fin _ _ _ _ (aDf q7 qZ ok3 e.nm);refine done _ _ (by unfold nW;rw[zz1 b3,zz1 b4,zz1 b5,zz2 b7]) ⟨ay,aU,ax,az,H3,H4,a',H5,Ot ?_,w3,w4,rfl⟩;have d7:(e.kd==7)=true:=by simp[b7]
  unfold Jd;by_cases he:(vi x.1 e.nm).2=0;·obtain⟨z1,z2,_⟩:=w3 he;simp(disch:=try exact zqz)only[aO,k3,E1,hw,q2,n1,bF,E0,E5,q5,w1,w2,d3,d4,d5,d7,he,z1,z2,ar,aq,zz0,simprocAttr]
  ·obtain⟨rfl,_⟩:=w4 he;have dn:((vi x.1 e.nm).2==0)=false:=by simp[he]
   simp(disch:=try exact zqz)only[aO,k3,E1,hw,q2,n1,bF,E0,E5,q5,w1,w2,d3,d4,d5,d7,dn,ar,aq,zz0,simprocAttr]
 have d7:(e.kd==7)=false:=by simp[b7]
 obtain⟨ay,aU,ax,az,H3,H4,a',H5,w1,w2,w3,w4⟩:=fin _ _ _ _ (axf q7 qZ);refine done _ _ (by unfold nW;rw[zz1 b3,zz1 b4,zz1 b5,zz1 b7]) ⟨ay,aU,ax,az,H3,H4,a',H5,Ot ?_,w3,w4,rfl⟩;unfold Jd;by_cases he:(yV x.1).2=0;·obtain⟨z1,z2,_⟩:=w3 he;simp(disch:=try exact zqz)only[aO,k3,E1,hw,q2,n1,bF,E0,q5,w1,w2,d3,d4,d5,d7,he,z1,z2,ar,aq,zz0,simprocAttr]
 ·obtain⟨rfl,_⟩:=w4 he;have dn:((yV x.1).2==0)=false:=by simp[he]
  simp(disch:=try exact zqz)only[aO,k3,E1,hw,q2,n1,bF,E0,q5,w1,w2,d3,d4,d5,d7,dn,ar,aq,zz0,simprocAttr]
structure Fok (f:Fm):Prop where
 run:∀x∈f.aw,oC x.1/\yv x.1/\x.1.sg.length<=900
 nr:f.aw.length<=64
 nn:f.nms.length<=16
 nk:f.ks.length<128
noncomputable def yU (f:Fm)(e:Ev):Fm×Int:=
 if Cz e=true then (if e.kd=1 then mY f e.nm e.dt else if e.kd=2 then GZ f e else if e.kd=6 then GQ f e.n else if e.kd=9 then (f,0) else if (f.aw.length:Int)<e.rn then (f,4) else FG f e) else (f,1)
theorem ayz {e:Ev}(h:Cz e=true)(h1:e.kd≠1)(h6:e.kd≠6)(h9:e.kd≠9):1<=e.rn/\e.rn<=64:=by
 unfold Cz at h;rw[aam,aam] at h;obtain⟨g1,_,g2⟩:=h;have hm:(82:Nat)∈pM e.kd:=by
  unfold pM at g1⊢;rw[zz1 h1] at g1⊢;by_cases h2:e.kd=2;·rw[zz2 h2];simp
  rw[zz1 h2] at g1⊢;by_cases h3:e.kd=3\/e.kd=5;·rw[zz2 h3];simp
  rw[zz1 h3] at g1⊢;by_cases h4:e.kd=4;·rw[zz2 h4];simp
  rw[zz1 h4,zz1 zzz] at g1⊢;by_cases h7:e.kd=7;·rw[zz2 h7];simp
  rw[zz1 h7] at g1⊢;by_cases h8:e.kd=8;·rw[zz2 h8];simp
  rw[zz1 h8] at g1;simp at g1
 have:=adP.1 g2 82 hm;unfold wK np at this;simp at this;exact this
theorem abK {p:Nat}(h:FL H p a f)(hg:Gl H)(hk:Fok f)(e:Ev):
  ∃a' H',cK (zf 16) [.ptr p 0,.agg (aS e)] H=some (zi (yU f e).2,H')/\FL H' p a' (yU f e).1/\FSt H H' p a a':=by
 have aO:bx 26 (.agg (aS e)) H=some (H.next,al H (aS e) 26 0):=iz (by rw[tN];omega);have o1:=aD H (aS e) 26 0;have c1:=aP H (aS e) 26 0;generalize al H (aS e) 26 0=H1 at*
 have k8:av H1 H.next 0 8=some (aS e):=c1.av 8 0 (by rw[tN];omega);obtain⟨H2,g1,g2⟩:=aDP e H1;have o2:=o1.trans g2;have c2:=c1.out g2 zzy;have F2:=h.au o2;have mS:=hg.au o2;have E0:cellAt H2 H.next 0=some (zi e.kd):=c2.cellAt rfl;have E1:cellAt H2 H.next 1=some (zi e.rn):=c2.cellAt rfl;have E4:cellAt H2 H.next 4=some (zi e.n):=c2.cellAt rfl;have E5:cellAt H2 H.next 5=some (.str e.nm):=c2.cellAt rfl;have E7:cellAt H2 H.next 7=some (.str e.dt):=c2.cellAt rfl;have Ib:av H2 H.next 0 8=some (aS e):=c2.av 8 0 (by rw[tN];omega);unfold yU;cases u7:Cz e with
 |false=>
  rw[u7] at g1;rw[zz1 zzy];refine⟨a,H2,Fo ?_,F2,FSt.same o2 p a⟩;unfold Dl;simp(disch:=try exact zqz)only[aO,k8,g1,ar,aq,zz0,simprocAttr]
 |true=>
  rw[u7] at g1;rw[zz2 rfl];by_cases b1:e.kd=1
  ·obtain⟨a',H3,d1,d2,d3⟩:=adL F2 mS hk.nn e.nm e.dt;rw[zz2 b1];refine⟨a',H3,Fo ?_,d2,FSt.end o2 d3⟩;have q1:(e.kd==1)=true:=by simp[b1]
   unfold Dl;simp(disch:=try exact zqz)only[aO,k8,g1,E0,E5,E7,q1,d1,ar,aq,zz0,simprocAttr]
  have q1:(e.kd==1)=false:=by simp[b1]
  rw[zz1 b1];by_cases b2:e.kd=2
  ·obtain⟨a',H3,d1,d2,d3⟩:=aDq F2 mS hk.nk hk.nr e;rw[zz2 b2];refine⟨a',H3,Fo ?_,d2,FSt.end o2 d3⟩;have q2:(e.kd==2)=true:=by simp[b2]
   unfold Dl;simp(disch:=try exact zqz)only[aO,k8,g1,E0,Ib,q1,q2,d1,ar,aq,zz0,simprocAttr]
  have q2:(e.kd==2)=false:=by simp[b2]
  rw[zz1 b2];by_cases b6:e.kd=6
  ·obtain⟨a',H3,d1,d2,d3⟩:=aAc F2 hk.nr (λx hx=>⟨(hk.run x hx).1,(hk.run x hx).2.1⟩) e.n;rw[zz2 b6];refine⟨a',H3,Fo ?_,d2,FSt.end o2 d3⟩;have q6:(e.kd==6)=true:=by simp[b6]
   unfold Dl;simp(disch:=try exact zqz)only[aO,k8,g1,E0,E4,q1,q2,q6,d1,ar,aq,zz0,simprocAttr]
  have q6:(e.kd==6)=false:=by simp[b6]
  rw[zz1 b6];by_cases b9:e.kd=9
  ·rw[zz2 b9];refine⟨a,H2,Fo ?_,F2,FSt.same o2 p a⟩;have q9:(e.kd==9)=true:=by simp[b9]
   unfold Dl;simp(disch:=try exact zqz)only[aO,k8,g1,E0,q1,q2,q6,q9,ar,aq,zz0,simprocAttr]
  have q9:(e.kd==9)=false:=by simp[b9]
  rw[zz1 b9];have k3:cellAt H2 p 3=some a.rx:=F2.c.cellAt rfl;have fS:=F2.JH;by_cases aN:(f.aw.length:Int)<e.rn;·have d:decide (((f.aw.length:Nat):Int)<e.rn)=true:=zz3 aN;rw[zz2 aN];refine⟨a,H2,Fo ?_,F2,FSt.same o2 p a⟩;unfold Dl;simp(disch:=try exact zqz)only[aO,k8,g1,E0,E1,q1,q2,q6,q9,k3,fS,d,ar,aq,zz0,simprocAttr]
  ·have d:decide (((f.aw.length:Nat):Int)<e.rn)=false:=zz4 aN;rw[zz1 aN];obtain⟨a',H3,d1,d2,d3⟩:=arc F2 hk.nr hk.run e (ayz u7 b1 b6 b9).1 zzz;refine⟨a',H3,Fo ?_,d2,FSt.end o2 d3⟩;unfold Dl;simp(disch:=try exact zqz)only[aO,k8,g1,E0,E1,q1,q2,q6,q9,k3,fS,d,Ib,d1,ar,aq,zz0,simprocAttr]
end
end
noncomputable def LR:An->An
 |.sq _ _ b=>b|x=>x
noncomputable def anC:An:=LR (LR (LR (LR (LR (an 14)))))
theorem aCY:an 14=.sq none .nl (.sq none .nl (.sq (some [0,3]) .nl (.sq (some [0,3]) .nl (.sq (some [0,3]) (.pr [0,3] (ZS 2 3 0)) anC)))):=zzw
theorem anF:Uw.filter (λp=>!p.2.plain)=[(14,an 14)]:=zzw
theorem aHr:AF P an:=by
 refine ahK λp hp=>?_;cases hb:p.2.plain with
 |true=>exact .inl rfl|false=>
  right;intro fn b h1 h2;have hm:p∈Uw.filter (λp=>!p.2.plain):=List.mem_filter.2 ⟨hp,by rw[hb];rfl⟩;rw[anF,No] at hm;subst hm;have YG:b=Cw.body:=by unfold Cw.body;rw[h1];show b=(fn.body).getD .skip;rw[h2];rfl
  have hn:fn.ntmps=69:=by have:(P.funcs[14]?).map (·.ntmps)=some 69:=zzw;rw[h1] at this;exact ab0 this
  rw[hn,YG,Cw.auc];show mb P 69 _ (an 14);rw[aCY];exact⟨mb.plain P 69 _ _ rfl,mb.plain P 69 _ _ rfl,mb.plain P 69 _ _ rfl,mb.plain P 69 _ _ rfl,Cw.apl,mb.plain P 69 _ _ zzw⟩
section
variable {H:Hp}{a a':FA}{f:Fm}{k:Nat}{l':List Nat}
theorem aoY {L:List (List Nat)}{l:List Nat}(h:L.Pairwise Dj)(hk:L[k]?=some l)(hl:∀j∈l',∀m∈L,j∉m):(L.set k l').Pairwise Dj:=by
 rw[akW] at h⊢;intro i j hi hj lM x hx hy;rw[adi] at hi hj;rw[List.getElem_set] at hx hy;by_cases h1:k=i;·rw[zz2 h1] at hx;rw[zz1 zzz] at hy;exact hl x hx _ (List.getElem_mem hj) hy
 ·rw[zz1 h1] at hx;by_cases h2:k=j;·rw[zz2 h2] at hy;exact hl x hy _ (List.getElem_mem hi) hx
  ·rw[zz1 h2] at hy;exact h i j hi hj lM x hx hy
theorem adv {p:Nat}(hs:jr p a'=(jr p a).set k l'):∀j∈own p a',j∈own p a\/j∈l':=by
 intro j hj;obtain⟨m,hm,hj⟩:=ah8.1 hj;rw[hs] at hm;rcases adT hm with q|rfl;·exact .inl (ah8.2 ⟨m,q,hj⟩)
 ·exact .inr hj
theorem FL.aDL {p:Nat}(h:FL H p a f){gV:AV}{l:List Str}(hw:Ow H 9 1 gV (strs l))(hd:∀j∈ak gV,j∉own p a/\11<=j/\j∉bq.cY a):
  ∃H2,st 1 (.ptr p 1) gV H=some H2/\FL H2 p {a with nx:=gV} {f with nms:=l}/\Out [p] H H2/\∀j∈own p {a with nx:=gV},j∈own p a\/j∈ak gV:=by
 obtain⟨H2,s1,s2,s3,s4⟩:=eV h.c zzx (o:=1) zzy (v:=gV) hw.rw.one;obtain⟨p0,p4,p1,p5,pk,pv⟩:=h.part s3 (i:=0) rfl;have hs:jr p {a with nx:=gV}=(jr p a).set 4 (ak gV):=rfl;have qp:(jr p {a with nx:=gV}).Pairwise Dj:=by rw[hs];exact aoY h.dj (k:=4) rfl λj hj m hm q=>(hd j hj).1 (ah8.2 ⟨m,hm,q⟩)
 have rK:=adv hs;exact⟨H2,s1,⟨s2,hw.out s3 λj hj q=>(hd j hj).1 (iq (k:=0) rfl q),p1 zzx,h.qR,p5 zzx,pv,h.len,pk zzx zzx zzx,qp,λj hj=>(rK j hj).elim (h.lo j) λq=>(hd j q).2.1,λj hj=>⟨λq=>(rK j q).elim (h.cY j hj).1 λz=>(hd j z).2.2 hj,ac2 (h.cY j hj).2 s3.1⟩⟩,s3,rK⟩
theorem FL.aAK {p:Nat}(h:FL H p a f){cn:AV}{ras:List RA}{aw:List (Rn×Str)}(hlen:ras.length=aw.length)(hw:OL H 77 5 cn (List.zipWith bE ras aw))(hv:∀(i:Nat) (r:RA) (x:Rn×Str),ras[i]?=some r->aw[i]?=some x->RV H r.dx r.xs r.tx r.sx x.1)
  (hd:∀j∈ak cn,j∉own p a/\11<=j) (hi:∀j∈ras.flatMap RA.fp,j∉own p a/\j∉ak cn/\j<H.next):
  ∃H2,st 1 (.ptr p 3) cn H=some H2/\FL H2 p {a with rx:=cn,ras:=ras} {f with aw:=aw}/\Out [p] H H2/\∀j∈own p {a with rx:=cn,ras:=ras},j∈own p a\/j∈ak cn:=by
 obtain⟨H2,s1,s2,s3,s4⟩:=eV h.c zzx (o:=3) zzy (v:=cn) hw.1.rw.one;obtain⟨p0,p4,p1,p5,pk,pv⟩:=h.part s3 (i:=0) rfl;have hs:jr p {a with rx:=cn,ras:=ras}=(jr p a).set 5 (ak cn):=rfl;have qp:(jr p {a with rx:=cn,ras:=ras}).Pairwise Dj:=by rw[hs];exact aoY h.dj (k:=5) rfl λj hj m hm q=>(hd j hj).1 (ah8.2 ⟨m,hm,q⟩)
 have rK:=adv hs;have hp0:∀{j:Nat},j∈[p]->j∈own p a:=λq=>iq (k:=0) rfl q;exact⟨H2,s1,⟨s2,p4 zzx,p1 zzx,h.qR,hw.out s3 λj hj q=>(hd j hj).1 (hp0 q),λi r x hr hx=>(hv i r x hr hx).out s3 λj hj q=>(hi j (ae8.2 ⟨r,aab hr,hj⟩)).1 (hp0 q),hlen,pk zzx zzx zzx,qp,λj hj=>(rK j hj).elim (h.lo j) λq=>(hd j q).2,λj hj=>⟨λq=>(rK j q).elim (hi j hj).1 (hi j hj).2.1,ac2 (hi j hj).2.2 s3.1⟩⟩,s3,rK⟩
theorem adg:∀(l:List (Str×Str)) (bs:List Nat),(l.map (·.1)).Nodup->BH (pF (l.zip bs))=true
 |[],bs,_=>by cases bs<;>rfl
 |x::l,[],_=>rfl|x::l,b::bs,h=>by rw[abo,ajD] at h;show ((pF (l.zip bs)).all _&&BH (pF (l.zip bs)))=true;rw[adg l bs h.2,Bool.and_true,adP];intro e he;obtain⟨y,hy,rfl⟩:=abN.1 he;have:y.1.1≠x.1:=λq=>h.1 (q▸abN.2 ⟨y.1,(am8 (a:=y.1) (b:=y.2) hy).1,rfl⟩);simpa using this
theorem akz:∀(l:List (Str×Str)) (bs:List Nat) (q:Nat),bs.length=l.length->mo q (pF (l.zip bs))=pF (l.zip (List.range' q l.length))
 |[],bs,q,_=>by cases bs<;>rfl
 |x::l,[],q,h=>by simp at h
 |x::l,b::bs,q,h=>by rw[aau,anE];show (⟨.str x.1,.str x.2,q⟩:ME)::mo (q+1) (pF (l.zip bs))=⟨.str x.1,.str x.2,q⟩::pF (l.zip (List.range' (q+1) l.length));rw[akz l bs (q+1) (by simpa using h)]
theorem FL.aF5 {p p':Nat}{f':Fm}(h:FL H p a f)(h':FL H p' a' f')(he:f'.aM=[])(aE:a'.tm≠a.tm):
  ∃H2,Ir 2 (.ptr p' 0) (.ptr p 0) H=some H2/\FL H2 p' a' {f' with aM:=f.aM}/\Out [a'.tm] H H2:=by
 obtain⟨bs,c,t1,t2⟩:=h.t;obtain⟨bs',c',Zi,Zc⟩:=h'.t;rw[he] at Zi Zc;have k1:cellAt H p' (0+2)=some (.map a'.tm):=h'.c.cellAt rfl;have k2:cellAt H p (0+2)=some (.map a.tm):=h.c.cellAt rfl;have k3:H.h.get a'.tm=some (.map [] c'):=by have:=Zc.2;cases bs'<;>exact this
 have hk:(BH (pF (f.aM.zip bs))&&!(Nat.beq a'.tm a.tm))=true:=by
  rw[adg _ _ h.qR,acy];cases hb:Nat.beq a'.tm a.tm with
  |false=>rfl|true=>exact absurd (aaY hb) aE
 have aN:=Zc.1;have ho:Out [a'.tm] H ⟨H.h.bW a'.tm (.map (mo c' (pF (f.aM.zip bs))) (c'+(pF (f.aM.zip bs)).length)),H.next+1⟩:=⟨agD _,λj hj hn=>by show (H.h.bW _ _).get j=_;rw[Tr.Ex _ _ _ _ (by rw[k3];rfl),zz1 (λq=>hn (by rw[q];exact .head _))]⟩;obtain⟨p0,p4,p1,p5,pk,pv⟩:=h'.part ho (i:=1) rfl;refine⟨_,?_,⟨p0 zzx,p4 zzx,⟨List.range' c' f.aM.length,c'+(pF (f.aM.zip bs)).length,List.length_range',Nat.lt_succ_of_lt aN,?_⟩,h.qR,p5 zzx,pv,h'.len,pk zzx zzx zzx,h'.dj,h'.lo,h'.UE ho.1⟩,ho⟩;·unfold Ir;simp only[k1,k2,k3,t2.2,hk,cond_true]
 ·show (H.h.bW _ _).get a'.tm=_;rw[Tr.Ex _ _ _ _ (by rw[k3];rfl),zz2 rfl,akz _ _ _ t1]
theorem FL.hi {H':Hp}{p N:Nat}{S:List Nat}(h:FL H p a f)(k:Out S H H')(h1:∀j∈own p a,j<N)(h2:∀j∈bq.cY a,j<N)(hS:∀j∈S,N<=j):FL H' p a f:=
 h.out k (λj hj q=>by have:=h1 j hj;have:=hS j q;omega) λj hj q=>by have:=h2 j hj;have:=hS j q;omega
theorem alo {q:Nat}{g:Fm}{ks:List Ke}{ox:AV}(hn:ks.length<=128)(fN:(ks.map (·.1)).Nodup):∀(r:List Ke) (i:Nat) (H:Hp) (b:FA),i<=ks.length->ks.drop i=r->RL H 3 ox (ks.map cl)->(∀j∈ak ox,j∉own q b)->FL H q b {g with ks:=ks.take i}->
  ∃b' H',(∀gf:K.Fn 1,UW JN GO cK gf (.ptr q 0) ox (zi (ks.length:Nat)) (zi (i:Nat)) H=gf (.ptr q 0) H')/\FL H' q b' {g with ks:=ks}/\FSt H H' q b b'/\b'.ras=b.ras
 |[],i,H,b,hi,h,hx,hd,hF=>by obtain rfl:=drop_nil hi h;rw[List.take_length] at hF;refine⟨b,H,λgf=>?_,hF,FSt.same (Out.refl _ _) q b,rfl⟩;rw[akj];simp only[aaE,dA,zz0,simprocAttr]
 |x::r,i,H,b,hi,h,hx,hd,hF=>by
  obtain⟨h1,h2,h3⟩:=dU h;have es:=dD h1 zzz;obtain⟨m,o,q1,q2,q3,q4,q5⟩:=hx.at zzx (i:=i) (c:=cl x) (by rw[acd,h2];rfl);have hz:st 3 (.ptr H.next 0) (.agg (cl x)) (al H [(.str []),(.str []),(zi 0)] 82 0)=some (al H (cl x) 82 0):=gy rfl rfl rfl zzx rfl;have o1:=aD H (cl x) 82 0;have c1:=aP H (cl x) 82 0;have n1:(al H (cl x) 82 0).next=H.next+1:=rfl;generalize bw:al H (cl x) 82 0=H1 at*
  have e2:cellAt H1 H.next 2=some (zi x.2):=c1.cellAt rfl;have ek:av H1 H.next 0 2=some (bN x.1):=c1.av 2 0 (by simp[cl]);have Ab:=hF.au o1;have k4:cellAt H1 q 4=some (.ptr b.kp 0):=Ab.c.cellAt rfl;have hg:lY (ks.take i) x.1=none:=by
   cases hg:lY (ks.take i) x.1 with
   |none=>rfl|some id=>
    obtain⟨u,v,h4,_⟩:=QJ hg;have h5:(x.1,id)∈ks.take i:=by rw[h4];simp
    have hs:ks=ks.take i++x::r:=by rw[<-h,aiP]
    rw[hs,acZ,aet] at fN;exact absurd rfl (fN.2.2 _ (abN.2 ⟨_,h5,rfl⟩) x.1 zzy)
  obtain⟨uO,H2,u1,u2,u3⟩:=Ab.iO (k:=x.1) (by show (ks.take i).length<128;rw[ad9];omega) hg x.2;have ht:ks.take (i+1)=ks.take i++[x]:=by rw[ai6,h2];rfl
  have B3:FL H2 q {b with kl:=uO} {g with ks:=ks.take (i+1)}:=by rw[ht];exact u2
  have dC:=hx.1.lt;obtain⟨b',H',i1,i2,i3,i4⟩:=alo hn fN r (i+1) H2 _ h1 h3 ((hx.au o1).out u3.o λj hj z=>hd j hj z) (λj hj z=>(u3.w j z).elim (hd j hj) λz=>by have:=dC j hj;have:=o1.1;omega) B3;refine⟨b',H',λgf=>?_,i2,((FSt.same o1 q b).trans u3).trans i3,i4⟩;rw[akj];simp(disch:=try exact zqz)only[aaE,aQ h1,q1,q4,hz,bw,k4,ek,e2,u1,es,i1,ar,aq,zz0,simprocAttr]
theorem apu {x:AV}{l:List AV}(hx:Rw H 5 x l)(ho:∀v∈l,aW v=true)(hl:l.length<=16777216):
  ∃y H',cK (zf 31) [x] H=some (y,H')/\Ow H' 77 5 y l/\Out [] H H'/\(∀j∈ak y,H.next<=j):=by
 have hu:P.underlying 64=some (.slice 77):=Tryz.underlying64;by_cases h0:x=.ah
 ·subst h0;have:l=[]:=by cases hx;rfl
  subst this;refine⟨.ah,H,amT ?_,.nil,Out.refl _ _,λj hj=>by simp[ak] at hj⟩;unfold WE;simp only[Kv,nw,HP hu,zz0,simprocAttr]
 ·obtain⟨y,H',h1,h2,h3,h4⟩:=JK (el:=77) (el2:=77) (z:=[.ah,(zi 0),.ah,.ah,(.str [])]) hx ho zzx hl;refine⟨y,H',amT ?_,h2,h3,h4⟩;have hq:∃i o n c ex es',x=.slice i o n c ex es':=by
   cases hx with
   |nil=>exact absurd rfl h0|emp=>exact⟨_,_,_,_,_,_,rfl⟩|mk _ _ _ _=>exact⟨_,_,_,_,_,_,rfl⟩
  obtain⟨i,o,n,c,ex,es',rfl⟩:=hq;unfold WE;have cB:aA H [] 77 0=some (H.next,al H [] 77 0):=eA zzy;simp only[JZ,nw,I2 hu,pW,cB,h1,zz0,simprocAttr]
theorem aFk (ras:List RA)(aw:List (Rn×Str)):(List.zipWith bE ras aw).flatten.length<=aw.length*5:=by
 have:=CY (L:=List.zipWith bE ras aw) (es:=5) λc hc=>by
  obtain⟨i,hi⟩:=List.mem_iff_getElem?.1 hc;rw[adf] at hi;split at hi;·cases hi;rfl
  ·cases hi
 rw[this,aey];exact adS _ (aoj _ _)
theorem atI {p:Nat}(h:FL H p a f)(lJ:11<=H.next)(hn:f.nms.length<=1000)(hr:f.aw.length<=1000)(hk:f.ks.length<=128)(cF:(f.ks.map (·.1)).Nodup):
  ∃q b H',cK (zf 14) [.ptr p 0] H=some (.ptr q 0,H')/\FL H' q b f/\Out [] H H'/\(∀j∈own q b,H.next<=j)/\∀j∈bq.cY b,j∈bq.cY a:=by
 have aN:=h.lt;have jv:∀j∈bq.cY a,j<H.next:=λj hj=>(h.cY j hj).2;obtain⟨q,b,H1,n1,n2,n3,n4,n5⟩:=Zo lJ;have ja:bq.cY b=[]:=by unfold bq.cY;rw[n5];rfl
 have h1:=h.au n3;have a0:cellAt H1 p 0=some (zi f.ck):=h1.c.cellAt rfl;obtain⟨H2,c1,c2,c3⟩:=n2.clock f.ck;have h2:=h1.hi c3.o aN jv n4;have a1:cellAt H2 p 1=some a.nx:=h2.c.cellAt rfl;have l2:=c3.o.1;have l1:=n3.1;obtain⟨y,H3,y1,y2,y3,y4,_⟩:=Yq h2.n.rw (λv hv=>by obtain⟨s,_,rfl⟩:=abN.1 hv;rfl) (by rw[gQ];omega);have vc:=c2.au y3;have jj:=c2.lt;obtain⟨H4,d1,d2,d3,d4⟩:=vc.aDL (gV:=y) (l:=f.nms) y2 λj hj=>⟨λz=>by have:=y4 j hj;have:=jj j z;omega,by have:=y4 j hj;omega,by rw[ja];exactλz=>by cases z⟩;have Bc:∀j∈own q {b with nx:=y},H.next<=j:=λj hj=>(d4 j hj).elim (n4 j) λz=>by have:=y4 j z;omega
 have h4:=(h2.au y3).hi d3 aN jv λj hj=>n4 j (iq (k:=0) rfl hj);obtain⟨H5,e1,e2,e3⟩:=h4.aF5 d2 rfl (λz=>by have s1:=Bc _ (iq (p:=q) (a:={b with nx:=y}) (k:=1) rfl (.head _));have s2:=aN _ (iq (p:=p) (a:=a) (k:=1) rfl (.head _));have z':b.tm=a.tm:=z;have CU:H.next<=b.tm:=s1;omega);have h5:=h4.hi e3 aN jv λj hj=>Bc j (iq (k:=1) rfl hj);have a3:cellAt H5 p 3=some a.rx:=h5.c.cellAt rfl;obtain⟨cn,H6,r1,r2,r3,r4⟩:=apu h5.r.1.rw h5.r.1.one (by have:=aFk a.ras f.aw;omega);have hb6:=e2.au r3;have aGy:=e2.lt;have h6:=h5.au r3;have l45:H.next<=H5.next:=by have:=y3.1;have:=d3.1;have:=e3.1;omega
 obtain⟨H7,g1,g2,g3,g4⟩:=hb6.aAK (cn:=cn) (ras:=a.ras) (aw:=f.aw) h.len ⟨r2,h5.r.2⟩ h6.v (λj hj=>⟨λz=>by have:=r4 j hj;have:=aGy j z;omega,by have:=r4 j hj;omega⟩) λj hj=>⟨λz=>by have:=jv j hj;have:=Bc j z;omega,λz=>by have:=jv j hj;have:=r4 j z;omega,by have:=jv j hj;have:=r3.1;omega⟩;have tX:∀j∈own q {b with nx:=y,rx:=cn,ras:=a.ras},H.next<=j:=λj hj=>(g4 j hj).elim (Bc j) λz=>by have:=r4 j z;omega
 have h7:=h6.hi g3 aN jv λj hj=>n4 j (iq (k:=0) rfl hj);have a4:cellAt H7 p 4=some (.ptr a.kp 0):=h7.c.cellAt rfl;obtain⟨ox,H8,x1,x2,x3,x4⟩:=Rh zzz h7.k;have kX:=x2.rl.len zzx;rw[abF] at kX;have hg7:=g2.lt;obtain⟨b',H9,i1,i2,i3,i4⟩:=alo (q:=q) (g:=f) (ks:=f.ks) (ox:=ox) hk cF f.ks 0 H8 {b with nx:=y,rx:=cn,ras:=a.ras} (abg _) aaM x2.rl (λj hj z=>by have:=x4 j hj;have:=hg7 j z;omega) (g2.au x3);rw[show (((0:Nat):Int))=0 from rfl] at i1;have oT:Out [] H H9:=by have s1:=n3.then c3.o λj hj=>.inr (n4 j hj);have s2:=(s1.trans y3).then d3 λj hj=>.inr (n4 j (iq (k:=0) rfl hj));have s3:=s2.then e3 λj hj=>.inr (Bc j (iq (k:=1) rfl hj));have s4:=(s3.trans r3).then g3 λj hj=>.inr (n4 j (iq (k:=0) rfl hj));exact (s4.trans x3).then i3.o λj hj=>.inr (tX j hj)
 have l8:H.next<=H8.next:=by have:=r3.1;have:=g3.1;have:=x3.1;omega
 refine⟨q,b',H9,aFL ?_,i2,oT,λj hj=>(i3.w j hj).elim (tX j) λz=>zzz,λj hj=>?_⟩;·unfold ann;simp(disch:=try exact zqz)only[n1,a0,c1,a1,y1,d1,e1,a3,r1,g1,a4,x1,kX,i1,ar,aq,zz0,simprocAttr]
 ·unfold bq.cY at hj⊢;rw[i4] at hj;exact hj
end
end
theorem afs {α:Type}(Q:Nat->α->Prop):∀n,(∀j,j<n->∃a,Q j a)->∃l:List α,l.length=n/\∀(j:Nat) (a:α),l[j]?=some a->Q j a
 |0,_=>⟨[],rfl,λj a h=>by simp at h⟩|n+1,h=>by
  obtain⟨l,hl,hq⟩:=afs Q n λj hj=>h j zzz;obtain⟨a,ha⟩:=h n zzz;refine⟨l++[a],by simp[hl],λj b hb=>?_⟩;by_cases hj:j<l.length;·rw[abi hj] at hb;exact hq j b hb
  ·rw[abm zzz] at hb;have:j-l.length=0:=by have:=(aac.1 hb).1;simp at this;omega
   rw[this] at hb;cases hb;rw[show j=n by omega];exact ha
section
variable {H:Hp}{d:D}{l:List AV}{x:AV}
theorem OJ {k:IntKind}(h:Is H (.int k) l d):∃z,l=[.int k z]/\k.min<=z/\z<=k.max:=by
 cases h with
 |int k z h=>exact⟨z,rfl,h⟩
def Rt (s:Str):Prop:=(∀c∈s,c<256)/\s.length<=Go.reachBytes
theorem Uy (h:Is H .str l d):∃s,l=[.str s]/\Rt s:=by
 cases h with
 |str s h hl=>exact⟨s,rfl,h,hl⟩
theorem akN {es:Nat}:∀{cs:List AV} {L:List (List AV)},cs.length=L.length*es->(∀(i:Nat) (c:List AV),L[i]?=some c->(cs.drop (i*es)).take es=c/\c.length=es)->cs=L.flatten
 |cs,[],h,_=>by simp at h;simp[h]
 |cs,a::L,h,hq=>by
  obtain⟨h1,h2⟩:=hq 0 a rfl;rw[ahD,aaM] at h1;simp only[aau,afB,ajR] at h;have ih:=akN (es:=es) (cs:=cs.drop es) (L:=L) (by rw[aeG];omega) λi c hc=>by obtain⟨g1,g2⟩:=hq (i+1) c hc;refine⟨?_,g2⟩;rw[List.drop_drop,show es+i*es=(i+1)*es by rw[afB,ajR];omega];exact g1
  rw[agF,<-ih,<-h1,aiP]
theorem aF0 {α:Type}{es:Nat}{ty:Ty}(C:α->List AV)(hC:∀a,(C a).length=es)(Q:α->Prop)(h1:∀(l:List AV) (d:D),l.length=es->Is H ty l d->∃a,l=C a/\Q a)(dY:0<es)(h:Is H (.slice es ty) [x] d):
  ∃l:List α,RL H es x (l.map C)/\∀a∈l,Q a:=by
 cases h with
 |@slice _ _ _ cs ds hr hl hd=>
  obtain⟨l,g1,g2⟩:=afs (λj (a:α)=>(cs.drop (j*es)).take es=C a/\Q a) ds.length (λj hj=>by have hs:=hd j _ (aai hj);have hle:(j+1)*es<=ds.length*es:=adS _ hj;rw[afB,ajR] at hle;exact h1 _ _ (by rw[ad9,aeG];omega) hs);refine⟨l,⟨?_,λc hc=>?_⟩,λa ha=>?_⟩
  ·have:cs=(l.map C).flatten:=akN (by rw[abF,g1];exact hl) λi c hc=>by rw[acd,aag] at hc;obtain⟨a,ha,rfl⟩:=hc;exact⟨(g2 i a ha).1,hC a⟩
   rw[<-this];exact hr
  ·obtain⟨a,_,rfl⟩:=abN.1 hc;exact hC a
  ·obtain⟨j,hj⟩:=ab2 ha;exact (g2 j a hj).2
theorem aoM {α:Type}(c:α->AV):∀l:List α,(l.map λa=>[c a]).flatten=l.map c
 |[]=>rfl|a::l=>by rw[abo,agF,aoM c l];rfl
abbrev PY:Ty:=.struct 8 [(0,1,.int .i64),(1,1,.int .i64),(2,1,.int .i64),(3,1,.int .i64),(4,1,.int .i64),(5,1,.str),(6,1,.str),(7,1,.str)]
theorem eight (h:l.length=8){a b c d e f g i:AV}(h0:(l.drop 0).take 1=[a])(h1:(l.drop 1).take 1=[b])(h2:(l.drop 2).take 1=[c])(h3:(l.drop 3).take 1=[d])(h4:(l.drop 4).take 1=[e])(h5:(l.drop 5).take 1=[f])(h6:(l.drop 6).take 1=[g])(h7:(l.drop 7).take 1=[i]):l=[a,b,c,d,e,f,g,i]:=by
 match l,h with
 |[x0,x1,x2,x3,x4,x5,x6,x7],_=>
  simp at h0 h1 h2 h3 h4 h5 h6 h7;simp[h0,h1,h2,h3,h4,h5,h6,h7]
structure FY (e:Ev):Prop where
 nm:Rt e.nm
 ky:Rt e.ky
 dt:Rt e.dt
 n:-9223372036854775808<=e.n/\e.n<=9223372036854775807
theorem auO (hl:l.length=8)(h:Is H PY l d):∃e:Ev,l=aS e/\FY e:=by
 cases h with
 |@struct _ _ _ ds _ hn hd=>
  have at':∀j,j<8->∃d,ds[j]?=some d:=λj hj=>⟨_,aai (by rw[hn];exact hj)⟩;obtain⟨d0,e0⟩:=at' 0 zzz;obtain⟨d1,e1⟩:=at' 1 zzz;obtain⟨d2,e2⟩:=at' 2 zzz;obtain⟨d3,e3⟩:=at' 3 zzz;obtain⟨d4,e4⟩:=at' 4 zzz;obtain⟨d5,e5⟩:=at' 5 zzz;obtain⟨d6,e6⟩:=at' 6 zzz;obtain⟨d7,e7⟩:=at' 7 zzz;obtain⟨z0,f0,_⟩:=OJ (hd 0 _ _ rfl e0);obtain⟨z1,f1,_⟩:=OJ (hd 1 _ _ rfl e1);obtain⟨z2,f2,_⟩:=OJ (hd 2 _ _ rfl e2);obtain⟨z3,f3,_⟩:=OJ (hd 3 _ _ rfl e3);obtain⟨z4,f4,g4,g5⟩:=OJ (hd 4 _ _ rfl e4);obtain⟨s5,f5,k5⟩:=Uy (hd 5 _ _ rfl e5);obtain⟨s6,f6,k6⟩:=Uy (hd 6 _ _ rfl e6);obtain⟨s7,f7,k7⟩:=Uy (hd 7 _ _ rfl e7);exact⟨⟨z0,z1,z2,z3,z4,s5,s6,s7⟩,eight hl f0 f1 f2 f3 f4 f5 f6 f7,k5,k6,k7,g4,g5⟩
def oZ (l:List Ev):List (List AV):=l.map aS
theorem agj (h:Is H (.slice 8 PY) [x] d):∃l:List Ev,RL H 8 x (oZ l)/\∀e∈l,FY e:=
 aF0 aS (λ_=>rfl) FY (λl d hl hi=>auO hl hi) zzx h
end
theorem asC (a b c a' b' c':Int)(s s':Str)(H:Hp):eL P 50 132 (.agg [zi a,zi b,zi c,.str s]) (.agg [zi a',zi b',zi c',.str s']) H=ur (λz:Bool=>some z) [a==a',b==b',c==c',s==s']:=zzw
theorem av5:Program.eqGuardType P P.depth 132=false:=zzw
end
theorem rt_eq (t u:RT):((t.ph==u.ph)&&((t.tr==u.tr)&&((t.fF==u.fF)&&(t.iT==u.iT))))=decide (t=u):=by obtain⟨a,b,c,d⟩:=t;obtain⟨a',b',c',d'⟩:=u;rw[am6];simp
theorem aBP (t u:RT)(H:Hp):gA P .neq 132 false (.agg (dQ t)) (.agg (dQ u))=true/\fV P .neq 132 (.agg (dQ t)) (.agg (dQ u)) H=some (.bool (!decide (t=u))):=by
 constructor;·show (!(Program.eqGuardType P P.depth 132))=true;rw[av5];rfl
 ·show (eL P 50 132 (.agg (dQ t)) (.agg (dQ u)) H).map (λb=>AV.bool !b)=_;have h:eL P 50 132 (.agg (dQ t)) (.agg (dQ u)) H=_:=asC t.ph t.tr t.fF u.ph u.tr u.fF t.iT u.iT H;rw[h,Lf,<-rt_eq];simp
theorem drop_at {α:Type}{m:List α}{i:Nat}{b:α}(h:m[i]?=some b):m.drop i=b::m.drop (i+1):=by obtain⟨w1,w2⟩:=aac.1 h;rw[aiy w1,w2]
theorem amG {x y:AV}{l m:List RT}{H:Hp}(hn:l.length<=16777216)(fW:l.length=m.length)(hx:RL H 4 x (eG l))(hy:RL H 4 y (eG m))(eK:K.Fn 0):∀(r:List RT) (i:Nat),i<=l.length->l.drop i=r->
  UC JN GO cK eK x y (zi (l.length:Nat)) (zi (i:Nat)) H=if r=m.drop i then eK H else some (.bool false,H)
 |[],i,hi,h=>by obtain rfl:=drop_nil hi h;have:m.drop l.length=[]:=aiA zzz;rw[ahM];simp only[Tx,dA,this,if_true,zz0,simprocAttr]
 |t::r,i,hi,h=>by
  obtain⟨h1,h2,h3⟩:=dU h;have es:=dD h1 zzz;obtain⟨u,hu⟩:∃b,m[i]?=some b:=⟨_,aai zzz⟩;obtain⟨b,o,q1,q2,q3,q4,q5⟩:=hx.at zzx (sU h2);obtain⟨b',o',p1,p2,p3,p4,p5⟩:=hy.at zzx (sU hu);obtain⟨g1,g2⟩:=aBP t u H;have ih:=amG hn fW hx hy eK r (i+1) h1 h3;rw[ahM,drop_at hu];generalize m.drop (i+1)=s at ih;by_cases hb:t=u
  ·rw[zz3 hb] at g2;have e:(if t::r=u::s then eK H else some (.bool false,H))=if r=s then eK H else some (AV.bool false,H):=by simp[hb]
   rw[e];simp(disch:=try exact zqz)only[Tx,aQ h1,q1,q4,p1,p4,g1,nw,g2,es,ih,ar,aq,zz0,simprocAttr]
  ·rw[zz4 hb] at g2;have e:(if t::r=u::s then eK H else some (.bool false,H))=some (AV.bool false,H):=by simp[hb]
   rw[e];simp(disch:=try exact zqz)only[Tx,aQ h1,q1,q4,p1,p4,g1,nw,g2,ar,aq,zz0,simprocAttr]
section
variable {H:Hp}{dx dy x y:AV}{xs ys:List AV}
theorem aqh {l m:List RT}(hn:l.length<=16777216)(hx:RL H 4 x (eG l))(hy:RL H 4 y (eG m)):cK (zf 73) [x,y] H=some (.bool (decide (l=m)),H):=by
 have lx:=hx.len zzx;have ly:=hy.len zzx;rw[AA] at lx ly;refine aE1 ?_;unfold akt;by_cases fW:l.length=m.length
 ·have i1:=λeK=>amG hn fW hx hy eK l 0 (abg _) aaM;rw[show (((0:Nat):Int))=0 from rfl] at i1;have aE:(((l.length:Nat):Int) != ((m.length:Nat):Int))=false:=by simp[fW]
  simp(disch:=try exact zqz)only[lx,ly,aE,i1,aaM,ar,aq,zz0,simprocAttr];by_cases hb:l=m<;>simp[hb]
 ·have aE:(((l.length:Nat):Int) != ((m.length:Nat):Int))=true:=by simp;omega
  have hb:l≠m:=λe=>fW (by rw[e]);simp only[lx,ly,aE,hb,zz0,simprocAttr]
theorem ax3 {t u:Tk}(dd:t.after.length<=16777216)(hx:Rw H 1 x (ints t.after))(hy:Rw H 1 y (ints u.after)):
  ∃H',cK (zf 71) [.agg (aJ t x),.agg (aJ u y)] H=some (.bool (decide (t=u)),H')/\Out [] H H':=by
 have b1:=xj t x H;have o1:=aD H (aJ t x) 99 0;have c1:=aP H (aJ t x) 99 0;have n1:(al H (aJ t x) 99 0).next=H.next+1:=rfl;generalize al H (aJ t x) 99 0=H1 at*
 have b2:=xj u y H1;have o2:=aD H1 (aJ u y) 99 0;have c2:=aP H1 (aJ u y) 99 0;rw[n1] at b2 c2;have nj:=c1.out o2 zzy;have bG:=o1.trans o2;generalize al H1 (aJ u y) 99 0=H2 at*
 obtain⟨e0,e1,e2,e3,e4,e5⟩:=uZ t x;obtain⟨g0,g1,g2,g3,g4,g5⟩:=uZ u y;have k0:=nj.cellAt e0;have k1:=nj.cellAt e1;have k2:=nj.cellAt e2;have k3:=nj.cellAt e3;have k4:=nj.cellAt e4;have k5:=nj.cellAt e5;have m0:=c2.cellAt g0;have m1:=c2.cellAt g1;have m2:=c2.cellAt g2;have m3:=c2.cellAt g3;have m4:=c2.cellAt g4;have m5:=c2.cellAt g5;have he:=aCP (hx.au bG) (hy.au bG) zzz;refine⟨H2,azY ?_,bG⟩;unfold anO;have no:∀(P:Tk->Prop),P t->¬P u->decide (t=u)=false:=λP h1 h2=>zz4 λe=>h2 (e▸h1);by_cases d1:t.after=u.after
 ·rw[zz3 d1] at he;by_cases d2:t.name=u.name
  ·have f2:(t.name==u.name)=true:=by simp[d2]
   by_cases d3:t.cu=u.cu
   ·have f3:(t.cu==u.cu)=true:=by simp[d3]
    by_cases d4:t.wait=u.wait
    ·have f4:(t.wait==u.wait)=true:=by simp[d4]
     by_cases d5:t.base=u.base
     ·have f5:(t.base==u.base)=true:=by simp[d5]
      have f6:(t.on==u.on)=decide (t=u):=by obtain⟨a,b,c,d,e,f⟩:=t;obtain⟨a',b',c',d',e',f'⟩:=u;simp only at d1 d2 d3 d4 d5;subst d1 d2 d3 d4 d5;rw[am6];simp
      simp(disch:=try exact zqz)only[b1,b2,k0,k1,k2,k3,k4,k5,m0,m1,m2,m3,m4,m5,he,f2,f3,f4,f5,f6,ar,aq,zz0,simprocAttr]
     ·have f5:(t.base==u.base)=false:=by simp[d5]
      rw[no (λz=>z.base=t.base) rfl λe=>d5 e.symm];simp(disch:=try exact zqz)only[b1,b2,k0,k1,k2,k3,k4,k5,m0,m1,m2,m3,m4,m5,he,f2,f3,f4,f5,ar,aq,zz0,simprocAttr]
    ·have f4:(t.wait==u.wait)=false:=by simp[d4]
     rw[no (λz=>z.wait=t.wait) rfl λe=>d4 e.symm];simp(disch:=try exact zqz)only[b1,b2,k0,k1,k2,k3,k4,k5,m0,m1,m2,m3,m4,m5,he,f2,f3,f4,ar,aq,zz0,simprocAttr]
   ·have f3:(t.cu==u.cu)=false:=by simp[d3]
    rw[no (λz=>z.cu=t.cu) rfl λe=>d3 e.symm];simp(disch:=try exact zqz)only[b1,b2,k0,k1,k2,k3,k4,k5,m0,m1,m2,m3,m4,m5,he,f2,f3,ar,aq,zz0,simprocAttr]
  ·have f2:(t.name==u.name)=false:=by simp[d2]
   rw[no (λz=>z.name=t.name) rfl λe=>d2 e.symm];simp(disch:=try exact zqz)only[b1,b2,k0,k1,k2,k3,k4,k5,m0,m1,m2,m3,m4,m5,he,f2,ar,aq,zz0,simprocAttr]
 ·rw[zz4 d1] at he;rw[no (λz=>z.after=t.after) rfl λe=>d1 e.symm];simp(disch:=try exact zqz)only[b1,b2,k0,k1,k2,k3,k4,k5,m0,m1,m2,m3,m4,m5,he,ar,aq,zz0,simprocAttr]
theorem alW {ts us:List Tk}{dx dy:AV}{xs ys:List AV}(hn:ts.length<=16777216)(fW:ts.length=us.length)(dd:∀t∈ts,t.after.length<=16777216):∀(r:List Tk) (i:Nat) (H:Hp),i<=ts.length->ts.drop i=r->RD H dx xs ts->RD H dy ys us->
  ∃H',(∀bA:K.Fn 0,abP JN GO cK bA dy (zf 71) dx (zi (ts.length:Nat)) (zi (i:Nat)) H=if r=us.drop i then bA H' else some (.bool false,H'))/\Out [] H H'
 |[],i,H,hi,h,hX,hY=>by obtain rfl:=drop_nil hi h;have:us.drop ts.length=[]:=aiA zzz;refine⟨H,λbA=>?_,Out.refl _ _⟩;rw[Ul];simp only[QB,dA,this,if_true,zz0,simprocAttr]
 |t::r,i,H,hi,h,hX,hY=>by
  obtain⟨h1,h2,h3⟩:=dU h;have es:=dD h1 zzz;obtain⟨u,hu⟩:∃b,us[i]?=some b:=⟨_,aai zzz⟩;obtain⟨x,b,o,q0,q1,q2,q3,q4,q5,q6⟩:=hX.at h2;have s1:=AX t x q1 H;have o1:=aD H (aJ t x) 99 0;have c1:=aP H (aJ t x) 99 0;have n1:(al H (aJ t x) 99 0).next=H.next+1:=rfl;generalize bw:al H (aJ t x) 99 0=H1 at*
  obtain⟨y,b',o',p0,p1,p2,p3,p4,p5,p6⟩:=(hY.au o1).at hu;have s2:=AX u y p1 H1;have o2:=aD H1 (aJ u y) 99 0;have c2:=aP H1 (aJ u y) 99 0;rw[n1] at s2 c2;have bG:=o1.trans o2;have nj:=c1.out o2 zzy;generalize bF:al H1 (aJ u y) 99 0=H2 at*
  have k1:av H2 H.next 0 6=some (aJ t x):=nj.av 6 0 (by rw[y9];omega);have k2:av H2 (H.next+1) 0 6=some (aJ u y):=c2.av 6 0 (by rw[y9];omega);obtain⟨H3,f1,f2⟩:=ax3 (dd t (aab h2)) (q2.au bG) (p2.au o2);have o3:=bG.trans f2;rw[drop_at hu];by_cases hb:t=u
  ·obtain⟨H',i1,i2⟩:=alW hn fW dd r (i+1) H3 h1 h3 (hX.au o3) (hY.au o3);generalize us.drop (i+1)=s at i1;rw[zz3 hb] at f1;refine⟨H',λbA=>?_,o3.trans i2⟩;have e:(if t::r=u::s then bA H' else some (.bool false,H'))=if r=s then bA H' else some (AV.bool false,H'):=by simp[hb]
   rw[e,Ul];simp(disch:=try exact zqz)only[QB,aQ h1,q3,q5,s1,p3,p5,n1,s2,k1,k2,f1,es,i1,ar,aq,zz0,simprocAttr]
  ·rw[zz4 hb] at f1;refine⟨H3,λbA=>?_,o3⟩;have e:(if t::r=u::us.drop (i+1) then bA H3 else some (.bool false,H3))=some (AV.bool false,H3):=by simp[hb]
   rw[e,Ul];simp(disch:=try exact zqz)only[QB,aQ h1,q3,q5,s1,p3,p5,n1,s2,k1,k2,f1,ar,aq,zz0,simprocAttr]
theorem ao4 {ts us:List Tk}(hn:ts.length<=16777216)(dd:∀t∈ts,t.after.length<=16777216)(hX:RD H dx xs ts)(hY:RD H dy ys us):
  ∃H',cK (zf 75) [dx,dy,.func (.func 71) [] []] H=some (.bool (decide (ts=us)),H')/\Out [] H H':=by
 have lx:=hX.aG;have ly:=hY.aG;by_cases fW:ts.length=us.length
 ·obtain⟨H',i1,i2⟩:=alW hn fW dd ts 0 H (abg _) aaM hX hY;rw[show (((0:Nat):Int))=0 from rfl] at i1;have aE:(((ts.length:Nat):Int) != ((us.length:Nat):Int))=false:=by simp[fW]
  refine⟨H',akP ?_,i2⟩;unfold Y5;simp(disch:=try exact zqz)only[lx,ly,aE,i1,aaM,ar,aq,zz0,simprocAttr];by_cases hb:ts=us<;>simp[hb]
 ·have aE:(((ts.length:Nat):Int) != ((us.length:Nat):Int))=true:=by simp;omega
  have hb:ts≠us:=λe=>fW (by rw[e]);refine⟨H,akP ?_,Out.refl _ _⟩;unfold Y5;simp only[lx,ly,aE,hb,decide_false,zz0,simprocAttr]
def yE (R S:Rn):Bool:=(R.st==S.st)&&(decide (R.rs=S.rs)&&(decide (R.sg=S.sg)&&decide (R.ts=S.ts)))
theorem akO {tx sx ty sy:AV}{R S:Rn}(hr:R.rs.length<=16777216)(hg:R.sg.length<=16777216)(hn:R.ts.length<=16777216)(ha:∀t∈R.ts,t.after.length<=16777216)(hX:RV H dx xs tx sx R)(hY:RV H dy ys ty sy S):
  ∃H',cK (zf 36) [.agg (rv dx R.st tx sx),.agg (rv dy S.st ty sy)] H=some (.bool (yE R S),H')/\Out [] H H':=by
 have b1:bx 75 (.agg (rv dx R.st tx sx)) H=some (H.next,al H (rv dx R.st tx sx) 75 0):=iz zzy;have o1:=aD H (rv dx R.st tx sx) 75 0;have c1:=aP H (rv dx R.st tx sx) 75 0;have n1:(al H (rv dx R.st tx sx) 75 0).next=H.next+1:=rfl;generalize al H (rv dx R.st tx sx) 75 0=H1 at*
 have b2:bx 75 (.agg (rv dy S.st ty sy)) H1=some (H.next+1,al H1 (rv dy S.st ty sy) 75 0):=by rw[<-n1];exact iz zzy
 have o2:=aD H1 (rv dy S.st ty sy) 75 0;have c2:=aP H1 (rv dy S.st ty sy) 75 0;rw[n1] at c2;have nj:=c1.out o2 zzy;have bG:=o1.trans o2;generalize bF:al H1 (rv dy S.st ty sy) 75 0=H2 at*
 have k0:cellAt H2 H.next 0=some dx:=nj.cellAt rfl;have k1:cellAt H2 H.next 1=some (zi R.st):=nj.cellAt rfl;have k2:cellAt H2 H.next 2=some tx:=nj.cellAt rfl;have k3:cellAt H2 H.next 3=some sx:=nj.cellAt rfl;have m0:cellAt H2 (H.next+1) 0=some dy:=c2.cellAt rfl;have m1:cellAt H2 (H.next+1) 1=some (zi S.st):=c2.cellAt rfl;have m2:cellAt H2 (H.next+1) 2=some ty:=c2.cellAt rfl;have m3:cellAt H2 (H.next+1) 3=some sy:=c2.cellAt rfl;have e1:=aqh hr (hX.t.au bG) (hY.t.au bG);have e2:=auz (hX.s.au bG) (hY.s.au bG) hg;obtain⟨H3,e3,o3⟩:=ao4 hn ha (hX.d.au bG) (hY.d.au bG);unfold yE;cases d0:(R.st==S.st) with
 |false=>
  refine⟨H2,Rm ?_,bG⟩;unfold N4;simp(disch:=try exact zqz)only[b1,n1,bF,k0,k1,k2,k3,m0,m1,m2,m3,d0,acn,ar,aq,zz0,simprocAttr]
 |true=>
  cases d1:decide (R.rs=S.rs) with
  |false=>
   rw[d1] at e1;refine⟨H2,Rm ?_,bG⟩;unfold N4;simp(disch:=try exact zqz)only[b1,n1,bF,k0,k1,k2,k3,m0,m1,m2,m3,d0,e1,acn,acy,ar,aq,zz0,simprocAttr]
  |true=>
   rw[d1] at e1;cases d2:decide (R.sg=S.sg) with
   |false=>
    rw[d2] at e2;refine⟨H2,Rm ?_,bG⟩;unfold N4;simp(disch:=try exact zqz)only[b1,n1,bF,k0,k1,k2,k3,m0,m1,m2,m3,d0,e1,e2,acn,acy,ar,aq,zz0,simprocAttr]
   |true=>
    rw[d2] at e2;refine⟨H3,Rm ?_,bG.trans o3⟩;unfold N4;simp(disch:=try exact zqz)only[b1,n1,bF,k0,k1,k2,k3,m0,m1,m2,m3,d0,e1,e2,e3,acy,ar,aq,zz0,simprocAttr]
end
def py {α:Type}(p:α->α->Bool):List α->List α->Bool
 |[],_=>true|_::_,[]=>true|a::l,b::m=>p a b&&py p l m
theorem afy {α:Type}{p:α->α->Bool}:∀{l:List α},(∀a∈l,p a a=true)->py p l l=true
 |[],_=>rfl|a::l,h=>by show (p a a&&py p l l)=true;rw[h a (.head _),afy λb hb=>h b (.tail _ hb)];rfl
theorem afL {fv x y:AV}{l m:List Str}{p:Str->Str->Bool}{H0:Hp}(hn:l.length<=16777216)(fW:l.length=m.length)(hx:Rw H0 1 x (strs l))(hy:Rw H0 1 y (strs m))
  (hp:∀H s t,Out [] H0 H->∃H',cK fv [.str s,.str t] H=some (.bool (p s t),H')/\Out [] H H'):∀(r:List Str) (i:Nat) (H:Hp),i<=l.length->l.drop i=r->Out [] H0 H->
  ∃H',(∀bA:K.Fn 0,XZ JN GO cK bA y fv x (zi (l.length:Nat)) (zi (i:Nat)) H=if py p r (m.drop i)=true then bA H' else some (.bool false,H'))/\Out [] H0 H'
 |[],i,H,hi,h,hO=>by obtain rfl:=drop_nil hi h;refine⟨H,λbA=>?_,hO⟩;rw[VD];simp only[Pw,dA,py,if_true,zz0,simprocAttr]
 |s::r,i,H,hi,h,hO=>by
  obtain⟨h1,h2,h3⟩:=dU h;have es:=dD h1 zzz;obtain⟨t,ht⟩:∃b,m[i]?=some b:=⟨_,aai zzz⟩;obtain⟨q,q1,q2⟩:=(hx.au hO).gh (mP h2) .i64;obtain⟨u,u1,u2⟩:=(hy.au hO).gh (mP ht) .i64;obtain⟨H1,f1,f2⟩:=hp H s t hO;have zG:=hO.trans f2;rw[drop_at ht];cases hb:p s t with
  |true=>
   obtain⟨H',i1,i2⟩:=afL hn fW hx hy hp r (i+1) H1 h1 h3 zG;generalize m.drop (i+1)=z at i1;rw[hb] at f1;refine⟨H',λbA=>?_,i2⟩;have e:py p (s::r) (t::z)=py p r z:=by show (p s t&&_)=_;rw[hb];rfl
   rw[e,VD];simp(disch:=try exact zqz)only[Pw,aQ h1,q1,q2,u1,u2,f1,es,i1,ar,aq,zz0,simprocAttr]
  |false=>
   rw[hb] at f1;refine⟨H1,λbA=>?_,zG⟩;have e:py p (s::r) (t::m.drop (i+1))=false:=by show (p s t&&_)=_;rw[hb];rfl
   rw[e,VD];simp(disch:=try exact zqz)only[Pw,aQ h1,q1,q2,u1,u2,f1,zz1,aa4,not_false_eq_true,if_false,ar,aq,zz0,simprocAttr]
def zA {α:Type}(p:α->α->Bool)(l m:List α):Bool:=decide (l.length=m.length)&&py p l m
theorem alK {α:Type}{p:α->α->Bool}{l:List α}(h:∀a∈l,p a a=true):zA p l l=true:=by unfold zA;rw[afy h,zz3 rfl];rfl
section
variable {H:Hp}{a:FA}{f g:Fm}{i:Nat}{l:List Str}{r:RA}{x y:AV}
theorem anb (h:Rw H 1 x (strs l)):aG x=some (zi (l.length:Nat)):=by have:=h.gX;rwa[gQ] at this
theorem aoZ {fv:AV}{m:List Str}{p:Str->Str->Bool}(hn:l.length<=16777216)(hx:Rw H 1 x (strs l))(hy:Rw H 1 y (strs m))
  (hp:∀H1 s t,Out [] H H1->∃H',cK fv [.str s,.str t] H1=some (.bool (p s t),H')/\Out [] H1 H'):
  ∃H',cK (zf 37) [x,y,fv] H=some (.bool (zA p l m),H')/\Out [] H H':=by
 have lx:=anb hx;have ly:=anb hy;unfold zA;by_cases fW:l.length=m.length
 ·obtain⟨H',i1,i2⟩:=afL hn fW hx hy hp l 0 H (abg _) aaM (Out.refl _ _);rw[show (((0:Nat):Int))=0 from rfl] at i1;have aE:(((l.length:Nat):Int) != ((m.length:Nat):Int))=false:=by simp[fW]
  refine⟨H',anT ?_,i2⟩;unfold UK;rw[zz3 fW,acy];simp(disch:=try exact zqz)only[lx,ly,aE,i1,aaM,ar,aq,zz0,simprocAttr];cases hb:py p l m<;>simp
 ·have aE:(((l.length:Nat):Int) != ((m.length:Nat):Int))=true:=by simp;omega
  refine⟨H,anT ?_,Out.refl _ _⟩;unfold UK;simp only[lx,ly,aE,fW,decide_false,acn,zz0,simprocAttr]
structure Pn (R:Rn):Prop where
 a:R.rs.length<=16777216
 b:R.sg.length<=16777216
 c:R.ts.length<=16777216
 d:∀t∈R.ts,t.after.length<=16777216
def ud (x y:Rn×Str):Bool:=(x.2==y.2)&&yE x.1 y.1
theorem aro {r':RA}{x x':Rn×Str}(hz:Pn x.1)(hX:RV H r.dx r.xs r.tx r.sx x.1)(hY:RV H r'.dx r'.xs r'.tx r'.sx x'.1):
  ∃H',cK (zf 35) [.agg (bE r x),.agg (bE r' x')] H=some (.bool (ud x x'),H')/\Out [] H H':=by
 have b1:bx 77 (.agg (bE r x)) H=some (H.next,al H (bE r x) 77 0):=iz (by simp[bE]);have o1:=aD H (bE r x) 77 0;have c1:=aP H (bE r x) 77 0;have n1:(al H (bE r x) 77 0).next=H.next+1:=rfl;generalize al H (bE r x) 77 0=H1 at*
 have b2:bx 77 (.agg (bE r' x')) H1=some (H.next+1,al H1 (bE r' x') 77 0):=by rw[<-n1];exact iz (by simp[bE])
 have o2:=aD H1 (bE r' x') 77 0;have c2:=aP H1 (bE r' x') 77 0;rw[n1] at c2;have nj:=c1.out o2 zzy;have bG:=o1.trans o2;generalize bF:al H1 (bE r' x') 77 0=H2 at*
 have k4:cellAt H2 H.next 4=some (.str x.2):=nj.cellAt rfl;have m4:cellAt H2 (H.next+1) 4=some (.str x'.2):=c2.cellAt rfl;have k0:av H2 H.next 0 4=some (rv r.dx x.1.st r.tx r.sx):=nj.av 4 0 (by simp[bE]);have m0:av H2 (H.next+1) 0 4=some (rv r'.dx x'.1.st r'.tx r'.sx):=c2.av 4 0 (by simp[bE]);obtain⟨H3,e3,o3⟩:=akO hz.a hz.b hz.c hz.d (hX.au bG) (hY.au bG);unfold ud;cases d0:(x.2==x'.2) with
 |false=>
  refine⟨H2,ahr ?_,bG⟩;unfold Uu;simp(disch:=try exact zqz)only[b1,n1,b2,k4,m4,k0,m0,d0,acn,ar,aq,zz0,simprocAttr]
 |true=>
  refine⟨H3,ahr ?_,bG.trans o3⟩;unfold Uu;simp(disch:=try exact zqz)only[b1,n1,b2,k4,m4,k0,m0,d0,e3,acy,ar,aq,zz0,simprocAttr]
theorem aiE (r:RA)(x:Rn×Str):(bE r x).length=5:=rfl
theorem agO {x:Rn×Str}(hv:(bE r x).all aW=true)(H:Hp):st 5 (.ptr H.next 0) (.agg (bE r x)) (al H [.ah,(zi 0),.ah,.ah,(.str [])] 77 0)=some (al H (bE r x) 77 0):=gy hv rfl rfl zzx rfl
theorem FL.one {p:Nat}(h:FL H p a f){x:Rn×Str}(hr:a.ras[i]?=some r)(hx:f.aw[i]?=some x):(bE r x).all aW=true:=h.r.one _ (aab (Ts hr hx))
theorem aoC {p q:Nat}{a b:FA}{f g:Fm}{H0:Hp}(hn:f.aw.length<=16777216)(fW:f.aw.length=g.aw.length)(hF:FL H0 p a f)(hG:FL H0 q b g)(hz:∀x∈f.aw,Pn x.1):∀(r:List (Rn×Str)) (i:Nat) (H:Hp),i<=f.aw.length->f.aw.drop i=r->Out [] H0 H->
  ∃H',(∀bA:K.Fn 0,abG JN GO cK bA b.rx (zf 35) a.rx (zi (f.aw.length:Nat)) (zi (i:Nat)) H=if py ud r (g.aw.drop i)=true then bA H' else some (.bool false,H'))/\Out [] H0 H'
 |[],i,H,hi,h,hO=>by obtain rfl:=drop_nil hi h;refine⟨H,λbA=>?_,hO⟩;rw[Yv];simp only[Ss,dA,py,if_true,zz0,simprocAttr]
 |x::r,i,H,hi,h,hO=>by
  obtain⟨h1,h2,h3⟩:=dU h;have es:=dD h1 zzz;obtain⟨y,hy⟩:∃b,g.aw[i]?=some b:=⟨_,aai zzz⟩;obtain⟨ra,m,o,q1,q2,q3,q4,q5,q6,q7⟩:=(hF.au hO).at h2;have s1:=agO ((hF.au hO).one q1 h2) H;have o1:=aD H (bE ra x) 77 0;have c1:=aP H (bE ra x) 77 0;have n1:(al H (bE ra x) 77 0).next=H.next+1:=rfl;generalize bw:al H (bE ra x) 77 0=H1 at*
  obtain⟨rb,m',o',p1,p2,p3,p4,p5,p6,p7⟩:=(hG.au (hO.trans o1)).at hy;have s2:=agO ((hG.au (hO.trans o1)).one p1 hy) H1;have o2:=aD H1 (bE rb y) 77 0;have c2:=aP H1 (bE rb y) 77 0;rw[n1] at s2 c2;have bG:=o1.trans o2;have nj:=c1.out o2 zzy;generalize bF:al H1 (bE rb y) 77 0=H2 at*
  have k1:av H2 H.next 0 5=some (bE ra x):=nj.av 5 0 (by rw[aiE];omega);have k2:av H2 (H.next+1) 0 5=some (bE rb y):=c2.av 5 0 (by rw[aiE];omega);obtain⟨H3,f1,f2⟩:=aro (hz x (aab h2)) (q7.au bG) (p7.au o2);have o3:=bG.trans f2;rw[drop_at hy];cases hb:ud x y with
  |true=>
   obtain⟨H',i1,i2⟩:=aoC hn fW hF hG hz r (i+1) H3 h1 h3 (hO.trans o3);generalize g.aw.drop (i+1)=z at i1;rw[hb] at f1;refine⟨H',λbA=>?_,i2⟩;have e:py ud (x::r) (y::z)=py ud r z:=by show (ud x y&&_)=_;rw[hb];rfl
   rw[e,Yv];simp(disch:=try exact zqz)only[Ss,aQ h1,q2,q6,s1,p2,p6,n1,s2,k1,k2,f1,es,i1,ar,aq,zz0,simprocAttr]
  |false=>
   rw[hb] at f1;refine⟨H3,λbA=>?_,hO.trans o3⟩;have e:py ud (x::r) (y::g.aw.drop (i+1))=false:=by show (ud x y&&_)=_;rw[hb];rfl
   rw[e,Yv];simp(disch:=try exact zqz)only[Ss,aQ h1,q2,q6,s1,p2,p6,n1,s2,k1,k2,f1,aa4,if_false,ar,aq,zz0,simprocAttr]
theorem auk {p q:Nat}{b:FA}(hn:f.aw.length<=16777216)(hF:FL H p a f)(hG:FL H q b g)(hz:∀x∈f.aw,Pn x.1):
  ∃H',cK (zf 38) [a.rx,b.rx,.func (.func 35) [] []] H=some (.bool (zA ud f.aw g.aw),H')/\Out [] H H':=by
 have lx:=hF.r.rl.len zzx;have ly:=hG.r.rl.len zzx;rw[aey,hF.len,ajN] at lx;rw[aey,hG.len,ajN] at ly;unfold zA;by_cases fW:f.aw.length=g.aw.length
 ·obtain⟨H',i1,i2⟩:=aoC hn fW hF hG hz f.aw 0 H (abg _) aaM (Out.refl _ _);rw[show (((0:Nat):Int))=0 from rfl] at i1;have aE:(((f.aw.length:Nat):Int) != ((g.aw.length:Nat):Int))=false:=by simp[fW]
  refine⟨H',akZ ?_,i2⟩;unfold aak;rw[zz3 fW,acy];simp(disch:=try exact zqz)only[lx,ly,aE,i1,aaM,ar,aq,zz0,simprocAttr];cases hb:py ud f.aw g.aw<;>simp
 ·have aE:(((f.aw.length:Nat):Int) != ((g.aw.length:Nat):Int))=true:=by simp;omega
  refine⟨H,akZ ?_,Out.refl _ _⟩;unfold aak;simp only[lx,ly,aE,fW,decide_false,acn,zz0,simprocAttr]
theorem apH (a b a' b':Str)(c c':Int)(H:Hp):eL P 50 82 (.agg [.str a,.str b,zi c]) (.agg [.str a',.str b',zi c']) H=ur (λz:Option Bool=>z) [ur (λz:Bool=>some z) [a==a',b==b'],some (c==c')]:=zzw
theorem azh:Program.eqGuardType P P.depth 82=false:=zzw
theorem ay8 (x y:Ke)(H:Hp):gA P .neq 82 false (.agg (cl x)) (.agg (cl y))=true/\fV P .neq 82 (.agg (cl x)) (.agg (cl y)) H=some (.bool (!decide (x=y))):=by
 constructor;·show (!(Program.eqGuardType P P.depth 82))=true;rw[azh];rfl
 ·show (eL P 50 82 (.agg (cl x)) (.agg (cl y)) H).map (λb=>AV.bool !b)=_;have h:eL P 50 82 (.agg (cl x)) (.agg (cl y)) H=_:=apH x.1.1 x.1.2 y.1.1 y.1.2 x.2 y.2 H;rw[h];obtain⟨⟨a,b⟩,c⟩:=x;obtain⟨⟨a',b'⟩,c'⟩:=y;have e:decide ((((a,b),c):Ke)=((a',b'),c'))=((a==a')&&((b==b')&&(c==c'))):=by rw[am6];simp[and_assoc]
  rw[e];generalize (a==a')=x;generalize (b==b')=y;generalize (c==c')=z;cases x<;>cases y<;>cases z<;>rfl
theorem ajy {l:List Ke}{x:Ke}(h:l[i]?=some x):(l.map cl)[i]?=some (cl x):=by simp[h]
theorem ans {x y:AV}{l m:List Ke}{H:Hp}(hn:l.length<=16777216)(fW:l.length=m.length)(hx:RL H 3 x (l.map cl))(hy:RL H 3 y (m.map cl))(eK:K.Fn 0):∀(r:List Ke) (i:Nat),i<=l.length->l.drop i=r->
  Xe JN GO cK eK x y (zi (l.length:Nat)) (zi (i:Nat)) H=if r=m.drop i then eK H else some (.bool false,H)
 |[],i,hi,h=>by obtain rfl:=drop_nil hi h;have:m.drop l.length=[]:=aiA zzz;rw[amU];simp only[SG,dA,this,if_true,zz0,simprocAttr]
 |t::r,i,hi,h=>by
  obtain⟨h1,h2,h3⟩:=dU h;have es:=dD h1 zzz;obtain⟨u,hu⟩:∃b,m[i]?=some b:=⟨_,aai zzz⟩;obtain⟨b,o,q1,q2,q3,q4,q5⟩:=hx.at zzx (ajy h2);obtain⟨b',o',p1,p2,p3,p4,p5⟩:=hy.at zzx (ajy hu);obtain⟨g1,g2⟩:=ay8 t u H;have ih:=ans hn fW hx hy eK r (i+1) h1 h3;rw[amU,drop_at hu];generalize m.drop (i+1)=s at ih;by_cases hb:t=u
  ·rw[zz3 hb] at g2;have e:(if t::r=u::s then eK H else some (.bool false,H))=if r=s then eK H else some (AV.bool false,H):=by simp[hb]
   rw[e];simp(disch:=try exact zqz)only[SG,aQ h1,q1,q4,p1,p4,g1,nw,g2,es,ih,ar,aq,zz0,simprocAttr]
  ·rw[zz4 hb] at g2;have e:(if t::r=u::s then eK H else some (.bool false,H))=some (AV.bool false,H):=by simp[hb]
   rw[e];simp(disch:=try exact zqz)only[SG,aQ h1,q1,q4,p1,p4,g1,nw,g2,ar,aq,zz0,simprocAttr]
theorem av1 {l m:List Ke}(hn:l.length<=16777216)(hx:RL H 3 x (l.map cl))(hy:RL H 3 y (m.map cl)):cK (zf 39) [x,y] H=some (.bool (decide (l=m)),H):=by
 have lx:=hx.len zzx;have ly:=hy.len zzx;rw[abF] at lx ly;refine as2 ?_;unfold akv;by_cases fW:l.length=m.length
 ·have i1:=λeK=>ans hn fW hx hy eK l 0 (abg _) aaM;rw[show (((0:Nat):Int))=0 from rfl] at i1;have aE:(((l.length:Nat):Int) != ((m.length:Nat):Int))=false:=by simp[fW]
  simp(disch:=try exact zqz)only[lx,ly,aE,i1,aaM,ar,aq,zz0,simprocAttr];by_cases hb:l=m<;>simp[hb]
 ·have aE:(((l.length:Nat):Int) != ((m.length:Nat):Int))=true:=by simp;omega
  have hb:l≠m:=λe=>fW (by rw[e]);simp only[lx,ly,aE,hb,decide_false,zz0,simprocAttr]
def B8 (f g:Fm)(s t:Str):Bool:=(s==t)&&((ey f.aM s).getD []==(ey g.aM t).getD [])
def zK (f g:Fm):Bool:=(f.ck==g.ck)&&(zA (B8 f g) f.nms g.nms&&(zA ud f.aw g.aw&&decide (f.ks=g.ks)))
theorem ao7 {p q j:Nat}{b:FA}(hi:cellAt H i 0=some (.ptr p 0))(hj:cellAt H j 0=some (.ptr q 0))(hF:FL H p a f)(hG:FL H q b g)(s t:Str):
  cK (.func (.func 34) [] [.ptr i 0,.ptr j 0]) [.str s,.str t] H=some (.bool (B8 f g s t),H):=by
 have k2:cellAt H p 2=some (.map a.tm):=hF.c.cellAt rfl;have m2:cellAt H q 2=some (.map b.tm):=hG.c.cellAt rfl;have l1:=KB hF.t hF.qR s false;have l2:=KB hG.t hG.qR t false;refine ao1 ?_;unfold aeN B8;cases d:(s==t) with
 |false=>simp(disch:=try exact zqz)only[d,acn,ar,aq,zz0,simprocAttr]|true=>simp(disch:=try exact zqz)only[d,hi,hj,k2,m2,l1,l2,cond_false,acy,ar,aq,zz0,simprocAttr]
structure Vb (f:Fm):Prop where
 n:f.nms.length<=1000
 r:f.aw.length<=1000
 k:f.ks.length<=1000
 z:∀x∈f.aw,Pn x.1
theorem ac3 {p q:Nat}{b:FA}(hF:FL H p a f)(hG:FL H q b g)(hz:Vb f)(Ez:Vb g):
  ∃H',cK (zf 15) [.ptr p 0,.ptr q 0] H=some (.bool (zK f g),H')/\Out [] H H':=by
 have b1:bx 27 (.ptr p 0) H=some (H.next,al H [.ptr p 0] 27 0):=Ms rfl;have o1:=aD H [.ptr p 0] 27 0;have c1:=aP H [.ptr p 0] 27 0;have n1:(al H [.ptr p 0] 27 0).next=H.next+1:=rfl;generalize al H [.ptr p 0] 27 0=H1 at*
 have b2:bx 27 (.ptr q 0) H1=some (H.next+1,al H1 [.ptr q 0] 27 0):=by rw[<-n1];exact Ms rfl
 have o2:=aD H1 [.ptr q 0] 27 0;have c2:=aP H1 [.ptr q 0] 27 0;rw[n1] at c2;have nj:=c1.out o2 zzy;have bG:=o1.trans o2;generalize bF:al H1 [.ptr q 0] 27 0=H2 at*
 have B3:=hF.au bG;have OA:=hG.au bG;have x0:cellAt H2 H.next 0=some (.ptr p 0):=nj.cellAt rfl;have y0:cellAt H2 (H.next+1) 0=some (.ptr q 0):=c2.cellAt rfl;have k0:cellAt H2 p 0=some (zi f.ck):=B3.c.cellAt rfl;have m0:cellAt H2 q 0=some (zi g.ck):=OA.c.cellAt rfl;have k1:cellAt H2 p 1=some a.nx:=B3.c.cellAt rfl;have m1:cellAt H2 q 1=some b.nx:=OA.c.cellAt rfl;obtain⟨H3,e3,o3⟩:=aoZ (fv:=.func (.func 34) [] [.ptr H.next 0,.ptr (H.next+1) 0]) (p:=B8 f g) (by have:=hz.n;omega) B3.n.rw OA.n.rw λHq s t ho=>⟨Hq,ao7 ((nj.out ho zzy).cellAt rfl) ((c2.out ho zzy).cellAt rfl) (B3.au ho) (OA.au ho) s t,Out.refl _ _⟩;have Zs:=B3.au o3;have BR:=OA.au o3;have x3:cellAt H3 H.next 0=some (.ptr p 0):=(nj.out o3 zzy).cellAt rfl;have y3:cellAt H3 (H.next+1) 0=some (.ptr q 0):=(c2.out o3 zzy).cellAt rfl;have k3:cellAt H3 p 3=some a.rx:=Zs.c.cellAt rfl;have m3:cellAt H3 q 3=some b.rx:=BR.c.cellAt rfl;obtain⟨H4,e4,o4⟩:=auk (by have:=hz.r;omega) Zs BR hz.z;have DQ:=o3.trans o4;have SP:=Zs.au o4;have hG4:=BR.au o4;have x4:cellAt H4 H.next 0=some (.ptr p 0):=(nj.out DQ zzy).cellAt rfl;have y4:cellAt H4 (H.next+1) 0=some (.ptr q 0):=(c2.out DQ zzy).cellAt rfl;have k4:cellAt H4 p 4=some (.ptr a.kp 0):=SP.c.cellAt rfl;have m4:cellAt H4 q 4=some (.ptr b.kp 0):=hG4.c.cellAt rfl;have sp:∀i,same (.ptr i 0) (.ptr i 0)=true:=λi=>by simp[same,sY,aiw]
 obtain⟨ox,H5,e5,l5,o5,r5⟩:=Rh hz.k SP.k;have hG5:=hG4.au o5;have y5:cellAt H5 (H.next+1) 0=some (.ptr q 0):=(c2.out (DQ.trans o5) zzy).cellAt rfl;have m5:cellAt H5 q 4=some (.ptr b.kp 0):=hG5.c.cellAt rfl;obtain⟨oy,H6,e6,l6,o6,r6⟩:=Rh Ez.k hG5.k;have e7:=av1 (by have:=hz.k;omega) (l5.rl.au o6) l6.rl;have oA:=bG.trans o3;have oB:=oA.trans o4;unfold zK;cases d0:(f.ck==g.ck) with
 |false=>
  refine⟨H2,Rv ?_,bG⟩;unfold MC;simp(disch:=try exact zqz)only[b1,n1,bF,x0,y0,k0,m0,d0,acn,ar,aq,zz0,simprocAttr]
 |true=>
  cases d1:zA (B8 f g) f.nms g.nms with
  |false=>
   rw[d1] at e3;refine⟨H3,Rv ?_,oA⟩;unfold MC;simp(disch:=try exact zqz)only[b1,n1,bF,x0,y0,k0,m0,k1,m1,d0,e3,acn,acy,ar,aq,zz0,simprocAttr]
  |true=>
   rw[d1] at e3;cases d2:zA ud f.aw g.aw with
   |false=>
    rw[d2] at e4;refine⟨H4,Rv ?_,oB⟩;unfold MC;simp(disch:=try exact zqz)only[b1,n1,bF,x0,y0,k0,m0,k1,m1,d0,e3,x3,y3,k3,m3,e4,acn,acy,ar,aq,zz0,simprocAttr]
   |true=>
    rw[d2] at e4;refine⟨H6,Rv ?_,(oB.trans o5).trans o6⟩;unfold MC;simp(disch:=try exact zqz)only[b1,n1,bF,x0,y0,k0,m0,k1,m1,d0,e3,x3,y3,k3,m3,e4,x4,y4,k4,m4,eP (sp q),eP (sp b.kp),e5,y5,m5,e6,e7,acy,ar,aq,zz0,simprocAttr]
end
end
theorem aGe {ts:List Tk}(hn:ts.length<=16)(ha:yI ts):∀t∈ts,t.after.length<=16:=λt ht=>by obtain⟨i,hi⟩:=ab2 ht;obtain⟨x1,x2⟩:=Dp ha hi;have:=Pe (n:=ts.length) (λa h=>⟨(x1 a h).1,(x1 a h).2.1⟩) x2;omega
end
def u3 (r:RT):Bool:=r.ph==3
def uK (rs:List RT)(k:Nat):Bool:=((rs[k]?).map u3).getD false
theorem Yw (rs:List RT)(a:Int):(BL rs a != 3) = !(uK rs a.toNat):=by unfold BL uK;cases rs[a.toNat]? <;> rfl
section
variable {rs rs':List RT}
theorem aEU (h:∀k,uK rs k=uK rs' k)(t:Tk):cC rs t=cC rs' t:=by unfold cC;refine Vd λa _=>?_;rw[Yw,Yw,h]
theorem akl (h:∀k,uK rs k=true->uK rs' k=true){t:Tk}(hb:cC rs t=false):cC rs' t=false:=by
 unfold cC at hb⊢;rw[aky] at hb⊢;intro a ha;have:=hb a ha;rw[Yw] at this⊢;have h1:uK rs a.toNat=true:=by simpa using this
 rw[h _ h1];simp
theorem ac0 {R:Rn}{i:Nat}{t:Tk}{r:RT}(ht:R.ts[i]?=some t)(hr:R.rs[i]?=some r):(jx R).rs[i]?=some (lB R.rs R.sg t r):=by unfold jx;simp only;rw[adf,ht,hr]
theorem Wy {R:Rn}(h:R.rs.length=R.ts.length):(jx R).rs.length=R.rs.length:=by unfold jx;simp only;rw[aey];omega
theorem ajG {R:Rn}(h:R.rs.length=R.ts.length):(jx R).rs.map u3=R.rs.map u3:=by
 apply aj8;intro k;rw[acd,acd];by_cases hk:k<R.rs.length;·have e1:R.rs[k]?=some R.rs[k]:=aai hk;have e2:R.ts[k]?=some (R.ts[k]' zzz):=aai _;rw[ac0 e2 e1,e1];simp only[ael];congr 1;exact XB _ _ _ _
 ·rw[agM (by rw[Wy h];omega),agM zzz]
theorem ax8 (h:rs.map u3=rs'.map u3)(k:Nat):uK rs k=uK rs' k:=by unfold uK;rw[<-acd,<-acd,h]
theorem aDt (h:rs.map u3=rs'.map u3):rs.countP u3=rs'.countP u3:=by
 have e:∀l:List RT,l.countP u3=(l.map u3).countP id:=λl=>by rw[List.countP_map];rfl
 rw[e,e,h]
theorem aHF {l:List RT}:(l.all λr=>r.ph==3)=decide (l.countP u3=l.length):=by rw[am6,adP,zz5,List.countP_eq_length];exact Iff.rfl
theorem aCD {R:Rn}:(jx R).st=if R.rs.countP u3=R.rs.length then 1 else R.st:=by
 unfold jx;simp only;rw[aHF];by_cases h:R.rs.countP u3=R.rs.length;·rw[zz3 h,zz2 rfl,zz2 h]
 ·rw[zz4 h,zz1 zzy,zz1 h]
end
structure pS (R:Rn):Prop where
 ok:oC R
 n1:1<=R.rs.length
 n2:R.rs.length<=16
 td:∀t∈R.ts,0<=t.cu/\t.cu<=8/\1<=t.base/\t.base<=1000
 tr:∀(i:Nat) (t:Tk) (r:RT),R.ts[i]?=some t->R.rs[i]?=some r->0<=r.tr/\r.tr<=t.cu+1/\(r.ph=0\/r.ph=1\/r.ph=5->r.tr<=t.cu)/\(r.ph≠0->cC R.rs t=false)
def uj (R:Rn):Prop:=R.st=1 ↔ ∀r∈R.rs,r.ph=3
structure Step (R R':Rn):Prop where
 ts:R'.ts=R.ts
 len:R'.rs.length=R.rs.length
 mono:∀(i:Nat) (r r':RT),R.rs[i]?=some r->R'.rs[i]?=some r'->r.tr<=r'.tr/\(r.ph=3->r'=r)
 sg:R'.sg.length<=R.sg.length+1
theorem Step.refl (R:Rn):Step R R:=⟨rfl,rfl,λi r r' h h'=>by rw[h] at h';cases h';exact⟨Int.le_refl _,λ_=>rfl⟩,zzz⟩
theorem pS.bd {R:Rn}(h:pS R):yv R:=⟨λt ht=>by have:=h.td t ht;omega,λr hr=>by obtain⟨i,hi⟩:=ab2 hr;have aX:=(aac.1 hi).1;have ht:R.ts[i]?=some (R.ts[i]'(by rw[<-h.ok.len];exact aX)):=aai _;have a:=h.tr i _ r ht hi;have b:=h.td _ (aab ht);omega⟩
section
variable {i:Nat}{r r1:RT}
theorem az4 {rs:List RT}(hr:rs[i]?=some r)(h3:r.ph≠3):∀k,uK rs k=true->uK (rs.set i r1) k=true:=by
 intro k hk;by_cases e:i=k;·subst e;unfold uK at hk;rw[hr] at hk;have:(r.ph==3)=true:=hk;exact absurd (by simpa using this) h3
 ·unfold uK at hk⊢;rw[aji e];exact hk
theorem MT {R:Rn}{t:Tk}{s1:Int}(h:pS R)(ht:R.ts[i]?=some t)(hr:R.rs[i]?=some r)(h3:r.ph≠3)(h0:r.ph≠0)(b1:r.tr<=r1.tr)(b2:r1.tr<=t.cu+1)(b3:r1.ph=0\/r1.ph=1\/r1.ph=5->r1.tr<=t.cu):
  pS {R with rs:=R.rs.set i r1,st:=s1}/\Step R {R with rs:=R.rs.set i r1,st:=s1}:=by
 have hu:=az4 (r1:=r1) hr h3;have aX:=(aac.1 hr).1;have hk:=h.ok.set i r1;refine⟨⟨⟨⟨hk.sm.n,hk.sm.a,hk.sm.r,hk.sm.s⟩,hk.len,hk.lh⟩,by show 1<=(R.rs.set i r1).length;rw[adi];exact h.n1,by show (R.rs.set i r1).length<=16;rw[adi];exact h.n2,h.td,λj u q kI hq=>?_⟩,rfl,adi,λj q q' hq hq' =>?_,by show R.sg.length<=_;omega⟩
 ·have tX:(R.rs.set i r1)[j]?=some q:=hq;have uH:R.ts[j]?=some u:=kI;by_cases e:i=j;·subst e;rw[ae0 aX] at tX;have e1:r1=q:=ab0 tX;have e2:t=u:=ab0 (ht.symm.trans uH);subst e1;subst e2;have a:=h.tr i t r ht hr;exact⟨zzz,b2,b3,λ_=>akl hu (a.2.2.2 h0)⟩
  ·rw[aji e] at tX;have a:=h.tr j u q uH tX;exact⟨a.1,a.2.1,a.2.2.1,λz=>akl hu (a.2.2.2 z)⟩
 ·have tX:(R.rs.set i r1)[j]?=some q':=hq';by_cases e:i=j;·subst e;rw[ae0 aX] at tX;have e1:r1=q':=ab0 tX;have e2:r=q:=ab0 (hr.symm.trans hq);subst e1;subst e2;exact⟨b1,λz=>absurd z h3⟩
  ·rw[aji e] at tX;have e1:q=q':=ab0 (hq.symm.trans tX);subst e1;exact⟨Int.le_refl _,λ_=>rfl⟩
theorem Vx {R:Rn}(h:pS R):pS (jx R)/\Step R (jx R):=by
 have hl:=h.ok.len;have hlen:=Wy hl;have hb:∀t,cC (jx R).rs t=cC R.rs t:=λt=>aEU (ax8 (ajG hl)) t;have fP:∀(i:Nat) (r:RT),(jx R).rs[i]?=some r->∃t r0,R.ts[i]?=some t/\R.rs[i]?=some r0/\r=lB R.rs R.sg t r0:=by intro i r hr;have aX:=(aac.1 hr).1;rw[hlen] at aX;have e1:R.rs[i]?=some R.rs[i]:=aai _;have e2:R.ts[i]?=some (R.ts[i]'(by rw[<-hl];exact aX)):=aai _;rw[ac0 e2 e1] at hr;cases hr;exact⟨_,_,e2,e1,rfl⟩
 have e1:(jx R).ts=R.ts:=rfl;have e2:(jx R).sg=R.sg:=rfl;refine⟨⟨⟨⟨h.ok.sm.n,h.ok.sm.a,by rw[hlen];exact h.ok.sm.r,h.ok.sm.s⟩,by rw[hlen];exact hl,h.ok.lh⟩,by rw[hlen];exact h.n1,by rw[hlen];exact h.n2,h.td,λi t r ht hr=>?_⟩,rfl,hlen,λi r r' hr dH=>?_,by rw[e2];omega⟩
 ·obtain⟨t',r0,k1,k2,rfl⟩:=fP i r hr;have ht:R.ts[i]?=some t:=ht;rw[k1] at ht;cases ht;have a:=h.tr i t r0 k1 k2;rw[hb];unfold lB;split;·rename_i hy;unfold Ep at hy;simp only[aam,akk,zz6] at hy;exact⟨a.1,a.2.1,λ_=>a.2.2.1 (.inl hy.1),λ_=>hy.2.1⟩
  ·exact a
 ·obtain⟨t',r0,k1,k2,rfl⟩:=fP i r' dH;rw[hr] at k2;cases k2;unfold lB;split;·rename_i hy;unfold Ep at hy;rw[aam,zz6] at hy;exact⟨Int.le_refl _,λz=>by rw[hy.1] at z;cases z⟩
  ·exact⟨Int.le_refl _,λ_=>rfl⟩
theorem Step.trans {A B C:Rn}(h:Step A B)(k:Step B C)(hs:B.sg=A.sg\/C.sg=B.sg):Step A C:=by
 refine⟨k.ts.trans h.ts,k.len.trans h.len,λi r r' hr dH=>?_,?_⟩;·have aX:=(aac.1 hr).1;have e:B.rs[i]?=some (B.rs[i]'(by rw[h.len];exact aX)):=aai _;obtain⟨a1,a2⟩:=h.mono i r _ hr e;obtain⟨b1,b2⟩:=k.mono i _ r' e dH;exact⟨zzz,λz=>by rw[b2 (by rw[a2 z];exact z),a2 z]⟩
 ·have a:=h.sg;have b:=k.sg;rcases hs with e|e;·rw[e] at b;exact b
  ·rw[e];exact a
theorem aEM {R:Rn}(h:R.rs.countP u3=R.rs.length->R.st=1)(h':R.rs.countP u3≠R.rs.length->R.st≠1):uj R:=by
 unfold uj;constructor
 ·intro e r hr;refine Classical.byContradiction λq=>?_;by_cases hc:R.rs.countP u3=R.rs.length;·rw[List.countP_eq_length] at hc;have:=hc r hr;unfold u3 at this;exact q (by simpa using this)
  ·exact h' hc e
 ·intro e;refine h ?_;rw[List.countP_eq_length];intro r hr;unfold u3;rw[e r hr];rfl
theorem Sw {R:Rn}(hr:R.rs[i]?=some r)(h3:r.ph≠3)(hs:R.st≠1):uj R:=by unfold uj;exact⟨λe=>absurd e hs,λe=>absurd (e r (aab hr)) h3⟩
theorem ab3 {R:Rn}(hl:R.rs.length=R.ts.length)(h0:R.st≠1):uj (jx R):=by
 have hc:=aDt (ajG hl);have hlen:=Wy hl;have aC:=aCD (R:=R);refine aEM (λe=>?_) (λe=>?_);·rw[hc,hlen] at e;rw[aC,zz2 e]
 ·rw[hc,hlen] at e;rw[aC,zz1 e];exact h0
def YF (R R':Rn)(e:Int):Prop:=e=0->pS R'/\uj R'/\Step R R'
theorem ay4 {R:Rn}(h:pS R)(hs:uj R)(task now:Int)(t:RT)(ht:R.rs[task.toNat]?=some t):YF R (qj R task (kc (t.tr+1)) now).1 (qj R task (kc (t.tr+1)) now).2:=by
 intro he;unfold qj at he⊢;by_cases h0:rH R task=0
 ·obtain⟨i,u,rfl,hu,aC⟩:=L5 h0;rw[abO] at ht;have e0:u=t:=ab0 (hu.symm.trans ht);subst e0;have aX:=(aac.1 hu).1;have hd:R.ts[i]?=some (R.ts[i]'(by rw[<-h.ok.len];exact aX)):=aai _;rw[zz2 h0,abO,hu,hd] at he⊢;simp only at he⊢;by_cases h1:u.ph=1;·rw[zz2 h1,zz2 trivial];have a:=h.tr i _ u hd hu;have b:=h.td _ (aab hd);have c:=a.2.2.1 (.inr (.inl h1));have ew:kc (u.tr+1)=u.tr+1:=wrap_i64 zzz zzz;obtain⟨k1,k2⟩:=MT (s1:=R.st) (r1:=⟨2,kc (u.tr+1),kc (now+(R.ts[i]'(by rw[<-h.ok.len];exact aX)).wait),u.iT⟩) h hd hu (by rw[h1];decide) (by rw[h1];decide) (by show u.tr<=kc (u.tr+1);rw[ew];omega) (by show kc (u.tr+1)<=_;rw[ew];omega) (by intro z;rcases z with z|z|z<;>cases z);refine⟨k1,?_,k2⟩;exact Sw (i:=i) (ae0 aX) (by show (2:Int)≠3;decide) (by show R.st≠1;rw[aC];decide)
  ·rw[zz1 h1] at he;cases he
 ·rw[zz1 h0] at he;exact absurd he h0
theorem ayY {R:Rn}(h:pS R)(hs:uj R)(task bC:Int)(d:Str):YF R (rU R task bC d).1 (rU R task bC d).2:=by
 intro he;unfold rU at he⊢;by_cases h0:pJ R task bC=0;·obtain⟨i,u,rfl,hu,aC,pE,Lg⟩:=TB h0;have aX:=(aac.1 hu).1;have hd:R.ts[i]?=some (R.ts[i]'(by rw[<-h.ok.len];exact aX)):=aai _;rw[zz2 h0,abO];have a:=h.tr i _ u hd hu;obtain⟨k1,k2⟩:=MT (s1:=R.st) (r1:=⟨3,bC,0,d⟩) h hd hu (by rw[pE];decide) (by rw[pE];decide) (by show u.tr<=bC;omega) (by show bC<=_;omega) (by intro z;rcases z with z|z|z<;>cases z);obtain⟨m1,m2⟩:=Vx k1;exact⟨m1,ab3 k1.ok.len (by show R.st≠1;rw[aC];decide),k2.trans m2 (.inr rfl)⟩
 ·rw[zz1 h0] at he;exact absurd he h0
theorem akF {R:Rn}(h:pS R){t:RT}{d:Tk}(hr:R.rs[i]?=some t)(hd:R.ts[i]?=some d)(aC:R.st=0)(pE:t.ph=2)(now:Int):pS (nu R i t d now)/\uj (nu R i t d now)/\Step R (nu R i t d now)/\(nu R i t d now).sg=R.sg:=by
 have aX:=(aac.1 hr).1;have a:=h.tr i d t hd hr;unfold nu;split;·rename_i hle;obtain⟨k1,k2⟩:=MT (s1:=R.st) (r1:={t with ph:=5,fF:=kc (now+dM d.base t.tr)}) h hd hr (by rw[pE];decide) (by rw[pE];decide) (Int.le_refl _) a.2.1 (λ_=>hle);exact⟨k1,Sw (i:=i) (ae0 aX) (by show (5:Int)≠3;decide) (by show R.st≠1;rw[aC];decide),k2,rfl⟩
 ·obtain⟨k1,k2⟩:=MT (s1:=2) (r1:={t with ph:=4,fF:=0}) h hd hr (by rw[pE];decide) (by rw[pE];decide) (Int.le_refl _) a.2.1 (by intro z;rcases z with z|z|z<;>cases z);exact⟨k1,Sw (i:=i) (ae0 aX) (by show (4:Int)≠3;decide) (by show (2:Int)≠1;decide),k2,rfl⟩
theorem aE5 {R:Rn}(h:pS R)(hs:uj R)(i:Nat)(now:Int):pS (lR now R i)/\uj (lR now R i)/\Step R (lR now R i)/\(lR now R i).sg=R.sg:=by
 unfold lR;split
 ·rename_i t d ht hd;split;·exact⟨h,hs,Step.refl R,rfl⟩
  ·rename_i hn;rw[not_or] at hn;have aC:R.st=0:=ai8.1 hn.1;split;·rename_i pE;exact akF h ht hd aC pE now
   ·split;·rename_i pE;have aX:=(aac.1 ht).1;have a:=h.tr i d t hd ht;obtain⟨k1,k2⟩:=MT (s1:=R.st) (r1:={t with ph:=1,fF:=0}) h hd ht (by rw[pE];decide) (by rw[pE];decide) (Int.le_refl _) a.2.1 (λ_=>a.2.2.1 (.inr (.inr pE)));exact⟨k1,Sw (i:=i) (ae0 aX) (by show (1:Int)≠3;decide) (by show R.st≠1;rw[aC];decide),k2,rfl⟩
    ·exact⟨h,hs,Step.refl R,rfl⟩
 ·exact⟨h,hs,Step.refl R,rfl⟩
theorem avy {R:Rn}(h:pS R)(hs:uj R)(name:Str)(rM:R.sg.length<=900):YF R (vi R name).1 (vi R name).2:=by
 intro he;unfold vi at he⊢;by_cases h0:R.st≠0;·rw[zz2 h0] at he;cases he
 rw[zz1 h0] at he⊢;have aC:R.st=0:=ai8.1 h0;split at he;·cases he
 ·rename_i h5;rw[zz1 h5];split at he;·rename_i h6;rw[zz2 h6];have k1:pS {R with sg:=R.sg++[name]}:=⟨⟨⟨h.ok.sm.n,h.ok.sm.a,h.ok.sm.r,by show (R.sg++[name]).length<=1000;rw[aah];simp;omega⟩,h.ok.len,h.ok.lh⟩,h.n1,h.n2,h.td,h.tr⟩;have k2:Step R {R with sg:=R.sg++[name]}:=⟨rfl,rfl,(Step.refl R).mono,by show (R.sg++[name]).length<=_;rw[aah];simp⟩;obtain⟨m1,m2⟩:=Vx k1;exact⟨m1,ab3 k1.ok.len (by show R.st≠1;rw[aC];decide),k2.trans m2 (.inr rfl)⟩
  ·cases he
end
theorem avq {ts:List Tk}(hg:jH ts=0)(h1:1<=ts.length)(h2:ts.length<=16)(ha:yI ts)(hq:∀t∈ts,Bq t=false/\uL t=false):pS (bh ts).1/\uj (bh ts).1/\(bh ts).1.sg.length=0/\(bh ts).1.ts=ts/\(bh ts).2=0:=by
 unfold bh;rw[zz2 hg];have dd:=aGe h2 ha;have h0:pS ⟨ts,0,List.replicate ts.length qa,[]⟩:=by
  refine⟨⟨⟨by show ts.length<=1000;omega,λt ht=>by have:=dd t ht;omega,by show (List.replicate ts.length qa).length<=1000;rw[afc];omega,abg _⟩,by show (List.replicate ts.length qa).length=ts.length;rw[afc],λt ht a haa=>?_⟩,by show 1<=(List.replicate ts.length qa).length;rw[afc];exact h1,by show (List.replicate ts.length qa).length<=16;rw[afc];exact h2,λt ht=>?_,λi t r ht hr=>?_⟩;·obtain⟨i,hi⟩:=ab2 ht;have:=(Dp ha hi).1 a haa;exact⟨this.1,by show a<(ts.length:Int);omega⟩
  ·have:=(hq t ht).2;unfold uL at this;simp only[ahp,ak2,aam,zz5] at this;omega
  ·have:=aab hr;have e:r=qa:=(List.mem_replicate.1 this).2;subst e;have ho:=(hq t (aab ht)).2;unfold uL at ho;simp only[ahp,ak2,aam,zz5] at ho;exact⟨by show (0:Int)<=0;omega,by show (0:Int)<=t.cu+1;omega,λ_=>by show (0:Int)<=t.cu;omega,λz=>absurd rfl z⟩
 exact⟨(Vx h0).1,ab3 h0.ok.len (by show (0:Int)≠1;decide),rfl,rfl,rfl⟩
structure TI (r:RT):Prop where
 ph:0<=r.ph/\r.ph<=5
 dt:r.iT.length<=64
 tl:0<=r.fF/\r.fF<=1099511691776
 tz:r.ph≠2->r.ph≠5->r.fF=0
structure RI (R:Rn):Prop where
 i0:pS R
 s1:uj R
 st:0<=R.st/\R.st<=3
 ti:∀r∈R.rs,TI r
 sn:R.sg.Nodup
 sk:∀s∈R.sg,s≠[]/\∃t∈R.ts,t.on=s
 wt:∀t∈R.ts,1<=t.wait/\t.wait<=1000
theorem anJ:∀(l m:List Str),l.Nodup->(∀x∈l,x∈m)->l.length<=m.length
 |[],m,_,_=>abg _|x::l,m,hn,h=>by rw[ajD] at hn;have hx:=h x (.head _);have ih:=anJ l (m.erase x) hn.2 λy hy=>(List.mem_erase_of_ne λq=>hn.1 (by rw[<-q];exact hy)).2 (h y (.tail _ hy));have:=List.length_erase_of_mem hx;have:=List.length_pos_of_mem hx;rw[aau];omega
theorem RI.sg {R:Rn}(h:RI R):R.sg.length<=16:=by
 have:=anJ R.sg (R.ts.map (·.on)) h.sn λs hs=>by obtain⟨_,t,ht,rfl⟩:=h.sk s hs;exact List.mem_map_of_mem ht
 rw[abF,<-h.i0.ok.len] at this;have:=h.i0.n2;omega
theorem RI.to {R R':Rn}(h:RI R)(a:pS R')(b:uj R')(lP:R'.ts=R.ts)(rM:R'.sg=R.sg)(aC:0<=R'.st/\R'.st<=3)(hti:∀r∈R'.rs,TI r):RI R':=
 ⟨a,b,aC,hti,by rw[rM];exact h.sn,by rw[rM,lP];exact h.sk,by rw[lP];exact h.wt⟩
section
variable {e:Ev}{f:Fm}{i:Nat}{l:List (Str×Str)}{now:Int}
theorem NV {rs:List RT}{u:RT}(h:∀r∈rs,TI r)(hu:TI u):∀r∈rs.set i u,TI r:=λr hr=>(mem_set hr).elim (h r) λq=>q▸hu
theorem Vh {R:Rn}(h:∀r∈R.rs,TI r):∀r∈(jx R).rs,TI r:=by
 intro r hr;obtain⟨i,hi⟩:=ab2 hr;have hz:(List.zipWith (lB R.rs R.sg) R.ts R.rs)[i]?=some r:=hi;rw[adf] at hz;cases ht:R.ts[i]? with
 |none=>rw[ht] at hz;cases hz
 |some t=>
  cases hq:R.rs[i]? with
  |none=>rw[ht,hq] at hz;cases hz
  |some q=>
   rw[ht,hq] at hz;have Qc:=h q (aab hq);have Ez:lB R.rs R.sg t q=r:=ab0 hz;subst Ez;unfold lB;split;·rename_i yw;unfold Ep at yw;rw[aam,zz6] at yw;exact⟨⟨by show (0:Int)<=1;omega,by show (1:Int)<=5;omega⟩,Qc.dt,Qc.tl,λ_ _=>Qc.tz (by rw[yw.1];decide) (by rw[yw.1];decide)⟩
   ·exact Qc
theorem Yi {R:Rn}(h:0<=R.st/\R.st<=3):0<=(jx R).st/\(jx R).st<=3:=by unfold jx;simp only;split<;>omega
theorem arG {R:Rn}(h:RI R)(task bC now:Int)(h0:0<=now)(h1:now<=1099511627776)(he:(qj R task bC now).2=0):RI (qj R task bC now).1/\(qj R task bC now).1.ts=R.ts:=by
 have hm:rH R task=0:=by
  unfold qj at he;by_cases q:rH R task=0;·exact q
  ·rw[zz1 q] at he;exact absurd he q
 obtain⟨i,t,rfl,ht,aC⟩:=L5 hm;have aX:=(aac.1 ht).1;have hd:R.ts[i]?=some (R.ts[i]'(by rw[<-h.i0.ok.len];exact aX)):=aai _;have Lg:bC=kc (t.tr+1):=by
  unfold qj at he;rw[zz2 hm,abO,ht,hd] at he;simp only at he;by_cases q:t.ph=1
  ·rw[zz2 q] at he;by_cases q2:bC=kc (t.tr+1);·exact q2
   ·rw[zz1 q2] at he;cases he
  ·rw[zz1 q] at he;cases he
 subst Lg;obtain⟨a,b,_⟩:=ay4 h.i0 h.s1 (i:Int) now t (by rw[abO];exact ht) he;have hw:=h.wt _ (aab hd);have key:qj R (i:Int) (kc (t.tr+1)) now=({R with rs:=R.rs.set i ⟨2,kc (t.tr+1),kc (now+(R.ts[i]'(by rw[<-h.i0.ok.len];exact aX)).wait),t.iT⟩},0):=by
  unfold qj at he⊢;rw[zz2 hm,abO,ht,hd] at he⊢;simp only at he⊢;by_cases q:t.ph=1;·rw[zz2 q,zz2 trivial]
  ·rw[zz1 q] at he;cases he
 have lP:(qj R (i:Int) (kc (t.tr+1)) now).1.ts=R.ts:=by rw[key]
 refine⟨h.to a b lP (by rw[key]) (by rw[key];exact h.st) ?_,lP⟩;rw[key];refine NV h.ti ⟨⟨by show (0:Int)<=2;omega,by show (2:Int)<=5;omega⟩,(h.ti t (aab ht)).dt,?_,λq=>absurd rfl q⟩;show 0<=kc _/\kc _<=_;rw[show kc (now+(R.ts[i]'(by rw[<-h.i0.ok.len];exact aX)).wait)=now+(R.ts[i]'(by rw[<-h.i0.ok.len];exact aX)).wait from wrap_i64 zzz zzz];omega
theorem ar5 {R:Rn}(h:RI R)(task bC:Int)(d:Str)(hd:d.length<=64)(he:(rU R task bC d).2=0):RI (rU R task bC d).1/\(rU R task bC d).1.ts=R.ts:=by
 obtain⟨a,b,_⟩:=ayY h.i0 h.s1 task bC d he;have hm:pJ R task bC=0:=by
  unfold rU at he;by_cases q:pJ R task bC=0;·exact q
  ·rw[zz1 q] at he;exact absurd he q
 have key:rU R task bC d=(jx {R with rs:=R.rs.set task.toNat ⟨3,bC,0,d⟩},0):=by unfold rU;rw[zz2 hm]
 rw[key] at a b⊢;refine⟨h.to a b rfl rfl (Yi h.st) (Vh (NV h.ti ⟨⟨by show (0:Int)<=3;omega,by show (3:Int)<=5;omega⟩,hd,⟨by show (0:Int)<=0;omega,by show (0:Int)<=_;omega⟩,λ_ _=>rfl⟩)),rfl⟩
theorem aGk (b t:Int):0<=dM b t/\dM b t<=64000:=by unfold dM;have h1:=azb b.toNat t.toNat;omega
theorem aiC {R:Rn}(h:RI R){t:RT}{d:Tk}(ht:R.rs[i]?=some t)(hd:R.ts[i]?=some d)(aC:R.st=0)(pE:t.ph=2)(h0:0<=now)(h1:now<=1099511627776):RI (nu R i t d now)/\(nu R i t d now).ts=R.ts:=by
 obtain⟨a,b,_⟩:=akF h.i0 ht hd aC pE now;have hT:=h.ti t (aab ht);have hb:=aGk d.base t.tr;unfold nu at a b⊢;by_cases hle:t.tr<=d.cu;·rw[zz2 hle] at a b⊢;refine⟨h.to a b rfl rfl h.st (NV h.ti ⟨⟨by show (0:Int)<=5;omega,by show (5:Int)<=5;omega⟩,hT.dt,?_,λ_ q=>absurd rfl q⟩),rfl⟩;show 0<=kc _/\kc _<=_;rw[show kc (now+dM d.base t.tr)=now+dM d.base t.tr from wrap_i64 zzz zzz];omega
 ·rw[zz1 hle] at a b⊢;exact⟨h.to a b rfl rfl ⟨by show (0:Int)<=2;omega,by show (2:Int)<=3;omega⟩ (NV h.ti ⟨⟨by show (0:Int)<=4;omega,by show (4:Int)<=5;omega⟩,hT.dt,⟨by show (0:Int)<=0;omega,by show (0:Int)<=_;omega⟩,λ_ _=>rfl⟩),rfl⟩
theorem axX {R:Rn}(h:RI R)(task bC now:Int)(h0:0<=now)(h1:now<=1099511627776)(he:(zZ R task bC now).2=0):RI (zZ R task bC now).1/\(zZ R task bC now).1.ts=R.ts:=by
 unfold zZ at he⊢;by_cases q:pJ R task bC=0;·obtain⟨i,u,rfl,hu,aC,pE,Lg⟩:=TB q;have aX:=(aac.1 hu).1;have hd:R.ts[i]?=some (R.ts[i]'(by rw[<-h.i0.ok.len];exact aX)):=aai _;rw[zz2 q,abO,hu,hd];exact aiC h hu hd aC pE h0 h1
 ·rw[zz1 q] at he;exact absurd he q
theorem aAq {R:Rn}(h:RI R)(i:Nat)(h0:0<=now)(h1:now<=1099511627776):RI (lR now R i)/\(lR now R i).ts=R.ts:=by
 obtain⟨a,b,_⟩:=aE5 h.i0 h.s1 i now;unfold lR at a b⊢;split
 ·rename_i t d ht hd;rw[ht,hd] at a b;simp only at a b;by_cases hn:R.st≠0\/now<t.fF;·rw[zz2 hn];exact⟨h,rfl⟩
  ·rw[zz1 hn] at a b⊢;rw[not_or] at hn;by_cases hp:t.ph=2;·rw[zz2 hp];exact aiC h ht hd (ai8.1 hn.1) hp h0 h1
   ·rw[zz1 hp] at a b⊢;by_cases h5:t.ph=5;·rw[zz2 h5] at a b⊢;exact⟨h.to a b rfl rfl h.st (NV h.ti ⟨⟨by show (0:Int)<=1;omega,by show (1:Int)<=5;omega⟩,(h.ti t (aab ht)).dt,⟨by show (0:Int)<=0;omega,by show (0:Int)<=_;omega⟩,λ_ _=>rfl⟩),rfl⟩
    ·rw[zz1 h5];exact⟨h,rfl⟩
 ·exact⟨h,rfl⟩
theorem aeP {now:Int}(h0:0<=now)(h1:now<=1099511627776):∀(m i:Nat) (R:Rn),RI R->RI (zt now m i R)/\(zt now m i R).ts=R.ts
 |0,i,R,h=>⟨h,rfl⟩|m+1,i,R,h=>by obtain⟨a,b⟩:=aAq h i h0 h1;obtain⟨c,d⟩:=aeP h0 h1 m (i+1) _ a;exact⟨c,d.trans b⟩
theorem aGs {R:Rn}(h:RI R)(name:Str)(he:(vi R name).2=0):RI (vi R name).1/\(vi R name).1.ts=R.ts:=by
 obtain⟨a,b,_⟩:=avy h.i0 h.s1 name (by have:=h.sg;omega) he;unfold vi at he a b⊢;by_cases h0:R.st≠0;·rw[zz2 h0] at he;cases he
 rw[zz1 h0] at he a b⊢;by_cases h5:R.sg.any (λs=>name==s)=true;·rw[zz2 h5] at he;cases he
 rw[zz1 h5] at he a b⊢;by_cases h6:KW R.ts name=true
 ·rw[zz2 h6] at a b⊢;have jc:name∉R.sg:=λq=>h5 (List.any_eq_true.2 ⟨name,q,zzy⟩);unfold KW at h6;rw[List.any_eq_true] at h6;obtain⟨t,ht,hq⟩:=h6;simp at hq;refine⟨⟨a,b,Yi h.st,Vh h.ti,?_,?_,h.wt⟩,rfl⟩;·show (R.sg++[name]).Nodup;rw[aet];refine⟨h.sn,zzy,λx hx y hy q=>?_⟩;simp at hy;subst hy;subst q;exact jc hx
  ·intro s hs;have zL:s∈R.sg++[name]:=hs;rcases aaQ.1 zL with q|q;·exact h.sk s q
   ·rw[No] at q;subst q;exact⟨hq.2,t,ht,hq.1⟩
 ·rw[zz1 h6] at he;cases he
theorem aGK {R:Rn}(h:RI R)(he:(yV R).2=0):RI (yV R).1/\(yV R).1.ts=R.ts:=by
 unfold yV at he⊢;by_cases h0:R.st≠0;·rw[zz2 h0] at he;cases he
 rw[zz1 h0];have aC:R.st=0:=ai8.1 h0;refine⟨h.to ⟨⟨⟨h.i0.ok.sm.n,h.i0.ok.sm.a,h.i0.ok.sm.r,h.i0.ok.sm.s⟩,h.i0.ok.len,h.i0.ok.lh⟩,h.i0.n1,h.i0.n2,h.i0.td,h.i0.tr⟩ ⟨λq=>?_,λq=>?_⟩ rfl rfl ⟨by show (0:Int)<=3;omega,by show (3:Int)<=3;omega⟩ h.ti,rfl⟩;·have:(3:Int)=1:=q;omega
 ·have:=h.s1.2 q;omega
theorem alX {text:Str}(h:(aF text).2=0):RI (bh (aF text).1).1/\(bh (aF text).1).1.ts=(aF text).1/\(bh (aF text).1).2=0:=by
 obtain⟨g1,g2,g3,g4,g5,g6⟩:=IA h;obtain⟨a,b,c,d,e⟩:=avq g1 g2 g3 g4 g6;have h0:TI qa:=⟨⟨by show (0:Int)<=0;omega,by show (0:Int)<=5;omega⟩,abg _,⟨by show (0:Int)<=0;omega,by show (0:Int)<=_;omega⟩,λ_ _=>rfl⟩;refine⟨?_,d,e⟩;have rM:(bh (aF text).1).1.sg=[]:=List.length_eq_zero_iff.1 c;refine⟨a,b,?_,?_,by rw[rM];exact anq,λs hs=>by (rw[rM] at hs;cases hs),?_⟩;·unfold bh;rw[zz2 g1];exact Yi ⟨by show (0:Int)<=0;omega,by show (0:Int)<=3;omega⟩
 ·unfold bh;rw[zz2 g1];refine Vh λr hr=>?_;rw[(List.mem_replicate.1 hr).2];exact h0
 ·rw[d];intro t ht;have:=(g6 t ht).2;unfold uL at this;simp only[ahp,ak2,aam,zz5] at this;omega
structure FI (f:Fm):Prop where
 run:∀x∈f.aw,RI x.1/\∃t,ey f.aM x.2=some t/\(aF t).1=x.1.ts
 nr:f.aw.length<=64
 nn:f.nms.length<=16
 nt:f.aM.map (·.1)=f.nms
 tx:∀x∈f.aM,ui x.1=true/\(aF x.2).2=0/\lr (aF x.2).1=x.2
 nd:f.nms.Nodup
 nk:f.ks.length<=f.aw.length
 kk:∀x∈f.ks,1<=x.2/\x.2<=f.aw.length/\(∃y,f.aw[(x.2-1).toNat]?=some y/\y.2=x.1.1)/\x.1.2≠[]/\x.1.2.length<=16
 kd:(f.ks.map (·.1)).Nodup
 ck:0<=f.ck/\f.ck<=1099511627776
theorem FI.ok (h:FI f):Fok f:=⟨λx hx=>⟨(h.run x hx).1.i0.ok,(h.run x hx).1.i0.bd,by have:=(h.run x hx).1.sg;omega⟩,h.nr,h.nn,by have:=h.nk;have:=h.nr;omega⟩
theorem fi0:FI qh:=⟨λx hx=>(by cases hx),abg _,abg _,rfl,λx hx=>(by cases hx),anq,abg _,λx hx=>(by cases hx),anq,by show (0:Int)<=0;omega,by show (0:Int)<=_;omega⟩
theorem Sh (h:Cz e=true){c:Nat}(hc:c∈pM e.kd):wK e c=true:=by unfold Cz at h;rw[aam,aam] at h;exact adP.1 h.2.2 c hc
theorem aCp {s t u:Str}(h:ey l s=some t)(x:Str×Str):ey (l++[x]) s=some t:=by unfold ey at h⊢;rw[aag] at h;obtain⟨y,h1,h2⟩:=h;rw[List.find?_append,h1,Option.some_or,ael,h2]
theorem Fi {s t:Str}(h:ey l s=some t):(s,t)∈l:=by obtain⟨a,b,rfl,_⟩:=Vv h;simp
theorem azn (h:FI f){s t:Str}(hs:ui s=true):FI (mY f s t).1:=by
 unfold mY;cases hg:ey f.aM s with
 |some u=>rw[zz2 (show (some u).isSome=true from rfl)];exact h|none=>
  rw[zz1 zzy];by_cases hp:(aF t).2≠0;·rw[zz2 hp];exact h
  rw[zz1 hp];have hp:=ai8.1 hp;by_cases bO:f.nms.length=16;·rw[zz2 bO];exact h
  rw[zz1 bO];obtain⟨_,_,_,_,_,_,kD⟩:=Qi hp;have jc:=KJ hg;refine⟨λx hx=>?_,h.nr,by show (f.nms++[s]).length<=16;rw[aah];have:=h.nn;simp;omega,by show (f.aM++[(s,lr (aF t).1)]).map (·.1)=f.nms++[s];rw[acZ,h.nt];rfl,λx hx=>?_,?_,h.nk,h.kk,h.kd,h.ck⟩;·obtain⟨a,u,b,c⟩:=h.run x hx;exact⟨a,u,aCp (u:=u) b _,c⟩
  ·rcases aaQ.1 hx with q|q;·exact h.tx x q
   ·rw[No] at q;subst q;exact⟨hs,by show (aF (lr (aF t).1)).2=0;rw[kD],by show lr (aF (lr (aF t).1)).1=_;rw[kD]⟩
  ·show (f.nms++[s]).Nodup;rw[aet];refine⟨h.nd,zzy,λx hx y hy q=>?_⟩;simp at hy;subst hy;subst q;rw[<-h.nt] at hx;obtain⟨z,hz,rfl⟩:=abN.1 hx;exact jc z hz rfl
theorem axD (h:FI f)(hk:e.ky.length<=16):FI (GZ f e).1:=by
 unfold GZ;split;·exact h
 ·rename_i t hg;split;·exact h
  rename_i Po;split;·exact h
  rename_i kH;split;·exact h
  rename_i iU;have iU:=ai8.1 iU;have hm:=Fi hg;obtain⟨_,hp,_⟩:=h.tx _ hm;obtain⟨a,b,c⟩:=alX hp;rw[zz1 (by simp[c])];have G2:∀{i:Nat} {y:Rn×Str},f.aw[i]?=some y->(f.aw++[((bh (aF t).1).1,e.nm)])[i]?=some y:=λ{i y} q=>by rw[abi (aac.1 q).1];exact q
  have agv:∀x∈f.ks,1<=x.2/\x.2<=((f.aw++[((bh (aF t).1).1,e.nm)]).length:Int)/\(∃y,(f.aw++[((bh (aF t).1).1,e.nm)])[(x.2-1).toNat]?=some y/\y.2=x.1.1)/\x.1.2≠[]/\x.1.2.length<=16:=by intro x hx;obtain⟨q1,q2,⟨y,q3,q4⟩,q5⟩:=h.kk x hx;refine⟨q1,by rw[aah];simp;omega,⟨y,G2 q3,q4⟩,q5⟩
  have Iv:(f.aw++[((bh (aF t).1).1,e.nm)]).length<=64:=by rw[aah];have:=h.nr;simp;omega
  refine⟨λx hx=>?_,Iv,h.nn,h.nt,h.tx,h.nd,?_,?_,?_,h.ck⟩
  ·rcases aaQ.1 hx with q|q;·exact h.run x q
   ·rw[No] at q;subst q;exact⟨a,t,hg,b.symm⟩
  ·show (if e.ky=[] then f.ks else f.ks++[((e.nm,e.ky),e.rn)]).length<=(f.aw++[((bh (aF t).1).1,e.nm)]).length;have:=h.nk;split<;>simp<;>omega
  ·show ∀x∈(if e.ky=[] then f.ks else f.ks++[((e.nm,e.ky),e.rn)]),_;split;·exact agv
   ·rename_i aE;intro x hx;rcases aaQ.1 hx with q|q;·exact agv x q
    ·rw[No] at q;subst q;refine⟨by show 1<=e.rn;omega,by show e.rn<=_;rw[aah];simp;omega,⟨((bh (aF t).1).1,e.nm),?_,rfl⟩,aE,hk⟩;show (f.aw++[((bh (aF t).1).1,e.nm)])[(e.rn-1).toNat]?=_;rw[show (e.rn-1).toNat=f.aw.length by omega,abm (aaq _),ajA];rfl
  ·show ((if e.ky=[] then f.ks else f.ks++[((e.nm,e.ky),e.rn)]).map (·.1)).Nodup;split;·exact h.kd
   ·rename_i aE;rw[acZ,aet];refine⟨h.kd,zzy,λx hx y hy q=>?_⟩;simp at hy;subst hy;subst q;obtain⟨z,hz,AQ⟩:=abN.1 hx;cases Kg:lY f.ks (e.nm,e.ky) with
    |none=>exact MK Kg z hz AQ|some id=>exact Po ⟨aE,by rw[Kg];rfl⟩
theorem apx (h:FI f)(h0:0<=now)(h1:now<=1099511627776):FI (GQ f now).1:=by
 unfold GQ;split;·exact h
 refine⟨λx hx=>?_,by show (f.aw.map (vF now)).length<=64;rw[abF];exact h.nr,h.nn,h.nt,h.tx,h.nd,by show _<=(f.aw.map (vF now)).length;rw[abF];exact h.nk,λx hx=>?_,h.kd,h0,h1⟩;·obtain⟨y,hy,rfl⟩:=abN.1 hx;obtain⟨a,t,b,c⟩:=h.run y hy;obtain⟨d,e⟩:=aeP h0 h1 y.1.rs.length 0 y.1 a;exact⟨d,t,b,c.trans e.symm⟩
 ·obtain⟨q1,q2,⟨y,q3,q4⟩,q5⟩:=h.kk x hx;refine⟨q1,by show x.2<=((f.aw.map (vF now)).length:Int);rw[abF];exact q2,⟨vF now y,?_,q4⟩,q5⟩;show (f.aw.map (vF now))[(x.2-1).toNat]?=_;rw[acd,q3];rfl
theorem aET {R:Rn}(h:RI R){ck:Int}(h0:0<=ck)(h1:ck<=1099511627776)(hd:e.kd=4->e.dt.length<=64)(he:(nW R e ck).2=0):RI (nW R e ck).1/\(nW R e ck).1.ts=R.ts:=by
 unfold nW at he⊢;split;·rename_i q;rw[zz2 q] at he;exact arG h _ _ _ h0 h1 he
 ·rename_i q3;rw[zz1 q3] at he;split;·rename_i q;rw[zz2 q] at he;exact ar5 h _ _ _ (hd q) he
  ·rename_i q4;rw[zz1 q4] at he;split;·rename_i q;rw[zz2 q] at he;exact axX h _ _ _ h0 h1 he
   ·rename_i q5;rw[zz1 q5] at he;split;·rename_i q;rw[zz2 q] at he;exact aGs h _ he
    ·rename_i q7;rw[zz1 q7] at he;exact aGK h he
theorem axY (h:FI f)(hd:e.kd=4->e.dt.length<=64):FI (FG f e).1:=by
 unfold FG;split;·exact h
 ·rename_i x hx;split
  ·rename_i he;have hm:=aab hx;have aX:=(aac.1 hx).1;obtain⟨a,t,b,c⟩:=h.run x hm;obtain⟨d,g⟩:=aET a h.ck.1 h.ck.2 hd he;refine⟨λy hy=>?_,by show (f.aw.set _ _).length<=64;rw[adi];exact h.nr,h.nn,h.nt,h.tx,h.nd,by show _<=(f.aw.set _ _).length;rw[adi];exact h.nk,λy hy=>?_,h.kd,h.ck⟩
   ·rcases adT hy with q|rfl;·exact h.run y q
    ·exact⟨d,t,b,c.trans g.symm⟩
   ·obtain⟨q1,q2,⟨z,q3,q4⟩,q5⟩:=h.kk y hy;refine⟨q1,by show y.2<=((f.aw.set _ _).length:Int);rw[adi];exact q2,?_,q5⟩;show ∃w,(f.aw.set (e.rn-1).toNat ((nW x.1 e f.ck).1,x.2))[(y.2-1).toNat]?=some w/\w.2=y.1.1;rw[agZ];by_cases hq:(e.rn-1).toNat=(y.2-1).toNat;·rw[zz2 hq,zz2 aX];refine⟨_,rfl,?_⟩;rw[<-hq] at q3;have:=ab0 (hx.symm.trans q3);rw[this];exact q4
    ·rw[zz1 hq];exact⟨z,q3,q4⟩
  ·exact h
theorem TJ (h:FI f)(e:Ev):FI (yU f e).1:=by
 unfold yU;by_cases hg:Cz e=true
 ·rw[zz2 hg];split;·rename_i hk;have:=Sh hg (c:=77) (by rw[hk];simp[pM]);unfold wK at this;simp at this;exact azn h this
  split;·rename_i xF hk;have:=Sh hg (c:=75) (by rw[hk];simp[pM]);unfold wK at this;simp at this;exact axD h this
  split;·rename_i xF iw hk;have:=Sh hg (c:=78) (by rw[hk];simp[pM]);unfold wK np at this;rw[zz1 zzx,zz1 zzx,zz1 zzx,zz2 rfl,zz1 zzz] at this;simp at this;exact apx h zzz this.2
  split;·exact h
  split;·exact h
  ·refine axY h λhk=>?_;have:=Sh hg (c:=68) (by rw[hk];simp[pM]);unfold wK at this;rw[zz1 zzx,zz1 zzx,zz1 zzx,zz1 zzx,zz1 zzx,zz1 zzx,zz1 zzz] at this;simpa using this
 ·rw[zz1 hg];exact h
end
end
theorem FI.sz {f:Fm}(h:FI f):Vb f:=
 ⟨by have:=h.nn;omega,by have:=h.nr;omega,by have:=h.nk;have:=h.nr;omega,λx hx=>by obtain⟨hr,_⟩:=h.run x hx;have hs:=hr.i0.ok.sm;exact⟨by have:=hs.r;omega,by have:=hs.s;omega,by have:=hs.n;omega,λt ht=>by have:=hs.a t ht;omega⟩⟩
theorem acz (R:Rn):yE R R=true:=by unfold yE;simp
theorem aga (f:Fm):zK f f=true:=by unfold zK;rw[alK λs _=>by simp[B8],alK λx _=>by simp[ud,acz]];simp
noncomputable def allM:Fm->List Ev->Fm
 |f,[]=>f|f,e::r=>allM (yU f e).1 r
theorem Xr:∀{l:List Ev} {f:Fm},FI f->FI (allM f l)
 |[],f,h=>h|e::r,f,h=>Xr (l:=r) (TJ h e)
theorem aFx (e:Ev)(H:Hp):st 8 (.ptr H.next 0) (.agg (aS e)) (al H zE 26 0)=some (al H (aS e) 26 0):=gy rfl rfl rfl zzx rfl
section
variable {H:Hp}{l:List Ev}{x:AV}
theorem V1 {i:Nat}{e:Ev}(h:l[i]?=some e):(oZ l)[i]?=some (aS e):=by unfold oZ;rw[acd,h];rfl
theorem Hj (h:RL H 8 x (oZ l)):aG x=some (zi (l.length:Nat)):=by have:=h.len zzx;unfold oZ at this;rwa[abF] at this
theorem af1 {p:Nat}{x:AV}{l:List Ev}(hl:l.length<=1000):∀(r:List Ev) (i:Nat) (H:Hp) (a:FA) (f:Fm),i<=l.length->l.drop i=r->RL H 8 x (oZ l)->(∀j∈ak x,j∉own p a)->FL H p a f->FI f->Gl H->
  ∃a' H',(∀j4:K.Fn 1,abJ JN GO cK j4 (.ptr p 0) x (zi (l.length:Nat)) (zi (i:Nat)) H=j4 (.ptr p 0) H')/\FL H' p a' (allM f r)/\FSt H H' p a a'
 |[],i,H,a,f,hi,h,hx,hd,hF,hI,hg=>by obtain rfl:=drop_nil hi h;refine⟨a,H,λj4=>?_,hF,FSt.same (Out.refl _ _) p a⟩;rw[akV];simp only[aaN,dA,zz0,simprocAttr]
 |e::r,i,H,a,f,hi,h,hx,hd,hF,hI,hg=>by
  obtain⟨h1,h2,h3⟩:=dU h;have es:=dD h1 zzz;obtain⟨b,o,q1,q2,q3,q4,q5⟩:=hx.at zzx (V1 h2);have hz:=aFx e H;have o1:=aD H (aS e) 26 0;have c1:=aP H (aS e) 26 0;generalize bw:al H (aS e) 26 0=H1 at*
  have ek:av H1 H.next 0 8=some (aS e):=c1.av 8 0 (by rw[tN];omega);obtain⟨a',H2,u1,u2,u3⟩:=abK (hF.au o1) (hg.au o1) hI.ok e;have dC:=hx.1.lt;obtain⟨a2,H',i1,i2,i3⟩:=af1 hl r (i+1) H2 a' (yU f e).1 h1 h3 ((hx.au o1).out u3.o λj hj z=>hd j hj z) (λj hj z=>(u3.w j z).elim (hd j hj) λz=>by have:=dC j hj;have:=o1.1;omega) u2 (TJ hI e) ((hg.au o1).out u3.o hF.lo);refine⟨a2,H',λj4=>?_,i2,((FSt.same o1 p a).trans u3).trans i3⟩;rw[akV];simp(disch:=try exact zqz)only[aaN,aQ h1,q1,q4,hz,bw,ek,u1,es,i1,ar,aq,zz0,simprocAttr]
theorem aFW (hl:l.length<=1000)(hg:Gl H)(lJ:11<=H.next)(hx:RL H 8 x (oZ l)):
  ∃p a H',cK (zf 13) [x] H=some (.ptr p 0,H')/\FL H' p a (allM qh l)/\Out [] H H'/\(∀j∈own p a,H.next<=j)/\∀j∈bq.cY a,H.next<=j:=by
 obtain⟨p,a,H1,n1,n2,n3,n4,n5⟩:=Zo lJ;have dC:=hx.1.lt;have fU:=Hj hx;obtain⟨a',H',i1,i2,i3⟩:=af1 hl l 0 H1 a qh (abg _) aaM (hx.au n3) (λj hj z=>by have:=dC j hj;have:=n4 j z;omega) n2 fi0 (hg.au n3);rw[show (((0:Nat):Int))=0 from rfl] at i1;have l1:=n3.1;refine⟨p,a',H',aDQ ?_,i2,n3.then i3.o λj hj=>.inr (n4 j hj),λj hj=>(i3.w j hj).elim (n4 j) λz=>zzz,λj hj=>(i3.i j hj).elim (λz=>by unfold bq.cY at z;rw[n5] at z;cases z) λz=>zzz⟩;unfold ads;simp(disch:=try exact zqz)only[n1,fU,i1,ar,aq,zz0,simprocAttr]
end
end
theorem ua (n a b:Int)(H:Hp):cK (zf 93) [zi n,zi a,zi b] H=some (.bool (np n a b),H):=by
 refine avD ?_;unfold aeD np;by_cases h1:a<=n;·simp(disch:=try exact zqz)only[h1,acy,ar,aq,zz0,simprocAttr]
 ·simp(disch:=try exact zqz)only[h1,acn,ar,aq,zz0,simprocAttr]
def Ag (t:Tk)(r:RT):Bool:=
 np r.ph 0 5&&(np r.tr 0 (t.cu+1)&&(!decide (64<r.iT.length)&&(!decide (r.fF<0)&&(!decide (1099511691776<r.fF)&&(((r.ph==2)||(r.ph==5))||(r.fF==0))))))
def uy (ts:List Tk)(l:List Str):Str->Nat->Bool:=λs i=>!((l.take i).any (λa=>s==a))&&(!(s==[])&&ts.any (λt=>t.on==s))
noncomputable def wB (R:Rn)(ts:List Tk):Bool:=
 decide ((bh ts).2=0)&&(np R.st 0 3&&(decide (R.rs.length=ts.length)&&(yE {R with ts:=(bh ts).1.ts} R &&
  ((List.zipWith Ag ts R.rs).all id&&(List.zipWith (uy ts R.sg) R.sg (List.range R.sg.length)).all id))))
section
variable {H:Hp}{dx x:AV}{i:Nat}{ts:List Tk}{xs:List AV}
theorem aF1 {t:Tk}(ht:ts[i]?=some t)(hx:xs[i]?=some x):(List.zipWith aJ ts xs)[i]?=some (aJ t x):=by rw[adf,ht,hx]
theorem RD.cu (h:RD H dx xs ts){t:Tk}(ht:ts[i]?=some t):∃b o,(∀k,ia 6 dx (.int k i)=some (.ptr b o))/\cellAt H b (o+2)=some (zi t.cu):=by have hi:=(aac.1 ht).1;have hx:xs[i]?=some (xs[i]'(by rw[h.len];exact hi)):=aai _;obtain⟨b,o,q1,q2,q3,q4,q5⟩:=h.row.at zzx (aF1 ht hx);exact⟨b,o,q1,q5 2 _ rfl⟩
theorem aeJ {ts:List Tk}{rs:List RT}{p d:Nat}{dx tx:AV}{xs:List AV}(hlen:rs.length=ts.length)(hn:rs.length<=1000)(hq:∀t∈ts,0<=t.cu/\t.cu<=8):∀(r:List RT) (i:Nat) (H:Hp),i<=rs.length->rs.drop i=r->RL H 4 tx (eG rs)->RD H dx xs ts->Cs H d [dx] 72 0->
  ∃H',(∀uI:K.Fn 2,Sk JN GO cK uI (.ptr p 0) (.ptr d 0) tx (zi (rs.length:Nat)) (zi (i:Nat)) H=if (List.zipWith Ag (ts.drop i) r).all id=true then uI (.ptr p 0) (.ptr d 0) H' else some (.bool false,H'))/\Out [] H H'
 |[],i,H,hi,h,hT,hD,hd=>by obtain rfl:=drop_nil hi h;refine⟨H,λuI=>?_,Out.refl _ _⟩;rw[W0,List.zipWith_nil_right];simp only[yh,dA,List.all_nil,if_true,zz0,simprocAttr]
 |u::r,i,H,hi,h,hT,hD,hd=>by
  obtain⟨h1,h2,h3⟩:=dU h;have es:=dD h1 zzz;obtain⟨t,ht⟩:∃t,ts[i]?=some t:=⟨_,aai zzz⟩;obtain⟨r1,r2⟩:=hq t (aab ht);have er:IntKind.wrap .i64 (t.cu+1)=t.cu+1:=wrap_i64 zzz zzz;obtain⟨b,o,q1,q2,q3,q4,q5⟩:=hT.at zzx (sU h2);have hz:st 4 (.ptr H.next 0) (.agg (dQ u)) (al H [zi 0,zi 0,zi 0,.str []] 132 0)=some (al H (dQ u) 132 0):=gy rfl rfl rfl zzx rfl;have o1:=aD H (dQ u) 132 0;have c1:=aP H (dQ u) 132 0;generalize bw:al H (dQ u) 132 0=H1 at*
  have k0:cellAt H1 H.next 0=some (zi u.ph):=c1.cellAt rfl;have k1:cellAt H1 H.next 1=some (zi u.tr):=c1.cellAt rfl;have k2:cellAt H1 H.next 2=some (zi u.fF):=c1.cellAt rfl;have k3:cellAt H1 H.next 3=some (.str u.iT):=c1.cellAt rfl;have eU:=hd.out o1 zzy;have rS:=hT.au o1;have Dd:=hD.au o1;have kd:cellAt H1 d 0=some dx:=eU.cellAt rfl;obtain⟨b2,o2,p1,p2⟩:=Dd.cu ht;obtain⟨H',i1,i2⟩:=aeJ (p:=p) hlen hn hq r (i+1) H1 h1 h3 rS Dd eU;rw[drop_at ht,List.zipWith_cons_cons,alq];have hid:∀b:Bool,id b=b:=λ_=>rfl;rw[hid];cases hM:Ag t u with
  |true=>
   unfold Ag at hM;simp only[aam,akk] at hM;obtain⟨m1,m2,m3,m4,m5,m6⟩:=hM;have MB:decide ((64:Int)<((u.iT.length:Nat):Int))=false:=by rw[decide_eq_false_iff_not] at m3⊢;omega
   refine⟨H',λuI=>?_,o1.trans i2⟩;rw[W0,acy,<-i1 uI];cases a2:(u.ph==2) with
   |true=>simp(disch:=try exact zqz)only[yh,aQ h1,q1,q4,hz,bw,k0,k1,k2,k3,kd,p1,p2,er,a2,ua,m1,m2,MB,m4,m5,es,ar,aq,zz0,simprocAttr]|false=>
    cases a5:(u.ph==5) with
    |true=>simp(disch:=try exact zqz)only[yh,aQ h1,q1,q4,hz,bw,k0,k1,k2,k3,kd,p1,p2,er,a2,a5,ua,m1,m2,MB,m4,m5,es,ar,aq,zz0,simprocAttr]|false=>
     rw[a2,a5,Bool.or_false,ank,zz6] at m6;have m6':(u.fF != 0)=false:=by simp[m6]
     simp(disch:=try exact zqz)only[yh,aQ h1,q1,q4,hz,bw,k0,k1,k2,k3,kd,p1,p2,er,a2,a5,ua,m1,m2,MB,m4,m5,m6',es,ar,aq,zz0,simprocAttr]
  |false=>
   refine⟨H1,λuI=>?_,o1⟩;rw[W0,acn,zz1 zzx];unfold Ag at hM;have key:∀c2 c5:Bool,(u.ph==2)=c2->(u.ph==5)=c5->yh JN GO cK uI (Sk JN GO cK uI) (.ptr p 0) (.ptr d 0) tx (zi (rs.length:Nat)) (zi (i:Nat)) H=some (.bool false,H1):=by
    intro c2 c5 a2 a5;cases m1:np u.ph 0 5 with
    |false=>cases c2<;>cases c5<;>simp(disch:=try exact zqz)only[yh,aQ h1,q1,q4,hz,bw,k0,k1,k2,k3,kd,p1,p2,er,a2,a5,ua,m1,es,ar,aq,zz0,simprocAttr]|true=>
    cases m2:np u.tr 0 (t.cu+1) with
    |false=>cases c2<;>cases c5<;>simp(disch:=try exact zqz)only[yh,aQ h1,q1,q4,hz,bw,k0,k1,k2,k3,kd,p1,p2,er,a2,a5,ua,m1,m2,es,ar,aq,zz0,simprocAttr]|true=>
    cases m3:decide ((64:Int)<((u.iT.length:Nat):Int)) with
    |true=>cases c2<;>cases c5<;>simp(disch:=try exact zqz)only[yh,aQ h1,q1,q4,hz,bw,k0,k1,k2,k3,kd,p1,p2,er,a2,a5,ua,m1,m2,m3,es,ar,aq,zz0,simprocAttr]|false=>
    have MB:decide (64<u.iT.length)=false:=by rw[decide_eq_false_iff_not] at m3⊢;omega
    cases m4:decide (u.fF<0) with
    |true=>cases c2<;>cases c5<;>simp(disch:=try exact zqz)only[yh,aQ h1,q1,q4,hz,bw,k0,k1,k2,k3,kd,p1,p2,er,a2,a5,ua,m1,m2,m3,m4,es,ar,aq,zz0,simprocAttr]|false=>
    cases m5:decide (1099511691776<u.fF) with
    |true=>cases c2<;>cases c5<;>simp(disch:=try exact zqz)only[yh,aQ h1,q1,q4,hz,bw,k0,k1,k2,k3,kd,p1,p2,er,a2,a5,ua,m1,m2,m3,m4,m5,es,ar,aq,zz0,simprocAttr]|false=>
     rw[m1,m2,MB,m4,m5,a2,a5] at hM;cases c2 with
     |true=>cases hM
     |false=>
      cases c5 with
      |true=>cases hM
      |false=>
       have m6:(u.fF != 0)=true:=by rw[bne,akk];simpa using hM
       simp(disch:=try exact zqz)only[yh,aQ h1,q1,q4,hz,bw,k0,k1,k2,k3,kd,p1,p2,er,a2,a5,ua,m1,m2,m3,m4,m5,m6,es,ar,aq,zz0,simprocAttr]
   exact key _ _ rfl rfl
theorem aBA {t:Tk}{s:Str}{p:Nat}(hp:cellAt H p 0=some (.str s))(iS:p<H.next):
  ∃H',cK (.func (.func 96) [] [.ptr p 0]) [.agg (aJ t x)] H=some (.bool (t.on==s),H')/\Out [] H H':=by
 have o1:=aD H (aJ t x) 99 0;have c1:=aP H (aJ t x) 99 0;have b1:=xj t x H;generalize al H (aJ t x) 99 0=H1 at*
 obtain⟨e0,e1,e2,e3,e4,e5⟩:=uZ t x;have k5:=c1.cellAt e5;have kp:cellAt H1 p 0=some (.str s):=by rw[o1.cellAt iS zzy];exact hp
 refine⟨H1,aHh ?_,o1⟩;unfold aew;simp(disch:=try exact zqz)only[b1,k5,kp,ar,aq,zz0,simprocAttr]
def onL (s:Str)(c:List AV):Bool:=match c[5]? with|some (AV.str a)=>a==s|_=>false
theorem ack (s:Str):∀(ts:List Tk) (xs:List AV),xs.length=ts.length->(List.zipWith aJ ts xs).any (onL s)=ts.any (λt=>t.on==s)
 |[],_,_=>rfl|t::ts,[],h=>by simp at h
 |t::ts,x::xs,h=>by rw[List.zipWith_cons_cons,List.any_cons,List.any_cons,ack s ts xs (by simpa using h)];rfl
theorem amr {ts:List Tk}{sg:List Str}{p d:Nat}{dx sx:AV}{xs:List AV}{F:List AV}(hF:F[3]?=some sx)(hn:sg.length<=1000)(htn:ts.length<=1000):∀(r:List Str) (i:Nat) (H:Hp),i<=sg.length->sg.drop i=r->Rw H 1 sx (strs sg)->RD H dx xs ts->Cs H d [dx] 72 0->Cs H p F 75 0->
  ∃H',(∀xv:K.Fn 0,Vr JN GO cK xv (.ptr p 0) (.ptr d 0) sx (zi (sg.length:Nat)) (zi (i:Nat)) H=if (List.zipWith (uy ts sg) r ((List.range sg.length).drop i)).all id=true then xv H' else some (.bool false,H'))/\Out [] H H'
 |[],i,H,hi,h,hS,hD,hd,hp=>by obtain rfl:=drop_nil hi h;refine⟨H,λxv=>?_,Out.refl _ _⟩;rw[Mb,List.zipWith_nil_left];simp only[HI,dA,List.all_nil,if_true,zz0,simprocAttr]
 |s::r,i,H,hi,h,hS,hD,hd,hp=>by
  obtain⟨h1,h2,h3⟩:=dU h;have es:=dD h1 zzz;obtain⟨q,q1,q2⟩:=hS.gh (mP h2) .i64;have hz:st 1 (.ptr H.next 0) (.str s) (al H [.str []] 9 0)=some (al H [.str s] 9 0):=Rx (l:=[.str []]) rfl rfl zzx zzx;have o1:=aD H [.str s] 9 0;have c1:=aP H [.str s] 9 0;have n1:(al H [.str s] 9 0).next=H.next+1:=rfl;generalize bw:al H [.str s] 9 0=H1 at*
  have ks:cellAt H1 H.next 0=some (.str s):=c1.cellAt rfl;have eU:=hd.out o1 zzy;have LJ:=hp.out o1 zzy;have Jh:=hS.au o1;have Dd:=hD.au o1;have kd:cellAt H1 d 0=some dx:=eU.cellAt rfl;have kp:cellAt H1 p 3=some sx:=LJ.cellAt hF;obtain⟨xc,s1,s2,s3⟩:=Ar (n:=sg.length) Jh (by rw[gQ,adV]) zzx (a:=0) (b:=i) (lo:=none) (hi:=some (zi (i:Nat))) (abg _) hi (Bd.no 0) (Bd.yes _ _ _);have om:((strs sg).drop (0*1)).take ((i-0)*1)=strs (sg.take i):=by simp[strs,List.map_take]
  rw[om] at s2;have nY:=WC s2 (by rw[ad9];omega) s;have hr:(List.range sg.length)[i]?=some i:=by rw[List.getElem?_range];simp[h1]
  rw[drop_at hr,List.zipWith_cons_cons,alq];have hid:∀b:Bool,id b=b:=λ_=>rfl;rw[hid];cases c3:((sg.take i).any (λa=>s==a)) with
  |true=>
   have hM:uy ts sg s i=false:=by unfold uy;rw[c3];rfl
   refine⟨H1,λxv=>?_,o1⟩;rw[Mb,hM,acn,zz1 zzx];simp(disch:=try exact zqz)only[HI,aQ h1,q1,q2,hz,bw,ks,kp,s1,nY,c3,ar,aq,zz0,simprocAttr]
  |false=>
   cases c4:(s==[]) with
   |true=>
    have hM:uy ts sg s i=false:=by unfold uy;rw[c3,c4];rfl
    refine⟨H1,λxv=>?_,o1⟩;rw[Mb,hM,acn,zz1 zzx];simp(disch:=try exact zqz)only[HI,aQ h1,q1,q2,hz,bw,ks,kp,s1,nY,c3,c4,ar,aq,zz0,simprocAttr]
   |false=>
    obtain⟨H2,t1,t2⟩:=aoT (fv:=.func (.func 96) [] [.ptr H.next 0]) (p:=onL s) Dd.row (by rw[aey,Dd.len,ajN];omega) (λH' k c hc=>by
     obtain⟨j,hj⟩:=ab2 hc;rw[adf] at hj;cases ht:ts[j]? with
     |none=>rw[ht] at hj;cases hj
     |some t=>
      cases hx:xs[j]? with
      |none=>rw[ht,hx] at hj;cases hj
      |some x=>
       rw[ht,hx] at hj;obtain rfl:=ab0 hj;have iS:H.next<H1.next:=zzz;exact aBA (by rw[k.cellAt iS zzy];exact ks) (ac2 iS k.1))
    rw[ack s ts xs Dd.len] at t1;have bG:=o1.trans t2;cases c5:ts.any (λt=>t.on==s) with
    |false=>
     have hM:uy ts sg s i=false:=by unfold uy;rw[c3,c4,c5];rfl
     rw[c5] at t1;refine⟨H2,λxv=>?_,bG⟩;rw[Mb,hM,acn,zz1 zzx];simp(disch:=try exact zqz)only[HI,aQ h1,q1,q2,hz,bw,ks,kp,kd,s1,nY,c3,c4,t1,ar,aq,zz0,simprocAttr]
    |true=>
     have hM:uy ts sg s i=true:=by unfold uy;rw[c3,c4,c5];rfl
     rw[c5] at t1;obtain⟨H',i1,i2⟩:=amr (p:=p) (d:=d) hF hn htn r (i+1) H2 h1 h3 (Jh.au t2) (Dd.au t2) (eU.out t2 zzy) (LJ.out t2 zzy);refine⟨H',λxv=>?_,bG.trans i2⟩;rw[Mb,hM,acy,<-i1 xv];simp(disch:=try exact zqz)only[HI,aQ h1,q1,q2,hz,bw,ks,kp,kd,s1,nY,c3,c4,t1,es,ar,aq,zz0,simprocAttr]
theorem Ue (h:(bh ts).2=0):(bh ts).1.ts=ts:=by
 unfold bh at h⊢;by_cases hg:jH ts=0;·rw[zz2 hg];rfl
 ·rw[zz1 hg] at h;exact absurd h hg
theorem apj {tx sx ex:AV}{ys:List AV}{R:Rn}(hR:RV H dx xs tx sx R)(hD:RD H ex ys ts)(hn:ts.length<=1000)(dd:∀t∈ts,t.after.length<=1000)(hq:∀t∈ts,0<=t.cu/\t.cu<=8)(hr:R.rs.length<=1000)(hg:R.sg.length<=1000):
  ∃H',cK (zf 57) [.agg (rv dx R.st tx sx),dv ex] H=some (.bool (wB R ts),H')/\Out [] H H':=by
 have b1:bx 75 (.agg (rv dx R.st tx sx)) H=some (H.next,al H (rv dx R.st tx sx) 75 0):=iz zzy;have o1:=aD H (rv dx R.st tx sx) 75 0;have c1:=aP H (rv dx R.st tx sx) 75 0;have n1:(al H (rv dx R.st tx sx) 75 0).next=H.next+1:=rfl;generalize al H (rv dx R.st tx sx) 75 0=H1 at*
 have b2:bx 72 (dv ex) H1=some (H.next+1,al H1 [ex] 72 0):=by rw[<-n1];exact iz zzy
 have o2:=aD H1 [ex] 72 0;have c2:=aP H1 [ex] 72 0;have n2:(al H1 [ex] 72 0).next=H.next+2:=by rw[bS,n1]
 rw[n1] at c2;generalize bF:al H1 [ex] 72 0=H2 at*
 have bG:=o1.trans o2;have kl:av H2 (H.next+1) 0 1=some [ex]:=c2.av 1 0 zzy;obtain⟨fx,fs,gx,gs,H3,r1,r2,r3,r4⟩:=T8 (hD.au bG) hn dd;have hz:st 4 (.ptr H3.next 0) (.agg (rv fx (bh ts).1.st gx gs)) (al H3 zR 75 0)=some (al H3 (rv fx (bh ts).1.st gx gs) 75 0):=gy (by simp[r2.v.d.row.one,r2.t.rl.one,r2.s.lg,iV]) rfl rfl zzx rfl;have o4:=aD H3 (rv fx (bh ts).1.st gx gs) 75 0;have c4:=aP H3 (rv fx (bh ts).1.st gx gs) 75 0;have n3:=r3.1;have DQ:=(bG.trans r3).trans o4;generalize hA4:al H3 (rv fx (bh ts).1.st gx gs) 75 0=H4 at*
 have cp:=((c1.out o2 zzy).out r3 zzy).out o4 zzy;have cd:=(c2.out r3 zzy).out o4 zzy;have k1:cellAt H4 H.next 1=some (zi R.st):=cp.cellAt rfl;have k2:cellAt H4 H.next 2=some tx:=cp.cellAt rfl;have k3:cellAt H4 H.next 3=some sx:=cp.cellAt rfl;have kd:cellAt H4 (H.next+1) 0=some ex:=cd.cellAt rfl;have lt:=hR.t.len zzx;rw[AA] at lt;have le:=hD.aG;unfold wB;by_cases he:(bh ts).2=0
 rotate_left
 ·have d0:((bh ts).2 != 0)=true:=by simp[he]
  rw[zz4 he];refine⟨H4,Kq ?_,DQ⟩;unfold FW;simp(disch:=try exact zqz)only[b1,n1,b2,bF,kl,r1,hz,hA4,d0,acn,ar,aq,zz0,simprocAttr]
 have d0:((bh ts).2 != 0)=false:=by simp[he]
 rw[zz3 he,acy];cases m1:np R.st 0 3 with
 |false=>
  refine⟨H4,Kq ?_,DQ⟩;unfold FW;simp(disch:=try exact zqz)only[b1,n1,b2,bF,kl,r1,hz,hA4,d0,k1,ua,m1,acn,ar,aq,zz0,simprocAttr]
 |true=>
 by_cases hl:R.rs.length=ts.length
 rotate_left
 ·have d1:(((R.rs.length:Nat):Int) != ((ts.length:Nat):Int))=true:=by simp;omega
  rw[zz4 hl];refine⟨H4,Kq ?_,DQ⟩;unfold FW;simp(disch:=try exact zqz)only[b1,n1,b2,bF,kl,r1,hz,hA4,d0,k1,k2,kd,lt,le,ua,m1,d1,acn,acy,ar,aq,zz0,simprocAttr]
 have d1:(((R.rs.length:Nat):Int) != ((ts.length:Nat):Int))=false:=by simp[hl]
 rw[zz3 hl,acy,acy];have hN:∀j,j∈[H3.next]->H.next<=j:=la zzz;have C8:H.next∉[H3.next]:=by rw[No];omega
 have hdn:H.next+1∉[H3.next]:=by rw[No];omega
 obtain⟨H5,u1,u2,u3,u4⟩:=eV c4 zzx (o:=1) zzy (v:=zi R.st) rfl;obtain⟨H6,v1,v2,v3,v4⟩:=eV u2 zzx (o:=2) zzy (v:=tx) hR.t.one;obtain⟨H7,w1,w2,w3,w4⟩:=eV v2 zzx (o:=3) zzy (v:=sx) hR.s.one;have fY:(((rv fx (bh ts).1.st gx gs).set 1 (zi R.st)).set 2 tx).set 3 sx=rv fx R.st tx sx:=rfl;rw[fY] at w2;have Yn:=cp.out u3 C8;have cp6:=Yn.out v3 C8;have cp7:=cp6.out w3 C8;have cd7:=((cd.out u3 hdn).out v3 hdn).out w3 hdn;have xr:cellAt H5 H.next 2=some tx:=Yn.cellAt rfl;have ub:cellAt H5 H.next 3=some sx:=Yn.cellAt rfl;have wk:cellAt H6 H.next 3=some sx:=cp6.cellAt rfl;have f7:av H7 H3.next 0 4=some (rv fx R.st tx sx):=w2.av 4 0 zzy;have p7:av H7 H.next 0 4=some (rv dx R.st tx sx):=cp7.av 4 0 zzy;have o7:Out [] H H7:=fh (fh (fh DQ u3 hN) v3 hN) w3 hN;have F8:=hR.au o7;have hD7:=hD.au o7;have hX:RV H7 fx fs tx sx {R with ts:=(bh ts).1.ts}:=by
  refine⟨?_,F8.t,F8.s⟩;have fr:∀j∈mZ fx fs,j∉[H3.next]:=λj hj=>by rw[No];have:=r2.v.d.lt j hj;omega
  exact (((r2.v.d.au o4).out u3 fr).out v3 fr).out w3 fr
 have lP:=Ue he;obtain⟨H8,s1,s2⟩:=akO (R:={R with ts:=(bh ts).1.ts}) (S:=R) (by show R.rs.length<=_;omega) (by show R.sg.length<=_;omega) (by show (bh ts).1.ts.length<=_;rw[lP];omega) (by show ∀t∈(bh ts).1.ts,_;rw[lP];exactλt ht=>by have:=dd t ht;omega) hX F8;have CU:cK (zf 36) [.agg (rv fx R.st tx sx),.agg (rv dx R.st tx sx)] H7=some (.bool (yE {R with ts:=(bh ts).1.ts} R),H8):=s1;have o8:=o7.trans s2;cases m2:yE {R with ts:=(bh ts).1.ts} R with
 |false=>
  rw[m2] at CU;refine⟨H8,Kq ?_,o8⟩;unfold FW;simp(disch:=try exact zqz)only[b1,n1,b2,bF,kl,r1,hz,hA4,d0,k1,k2,k3,kd,lt,le,ua,m1,d1,u1,v1,w1,xr,ub,wk,eP (lG hR.t.1),eP (lG hR.s),f7,p7,CU,acn,acy,ar,aq,zz0,simprocAttr]
 |true=>
 rw[m2] at CU;have cp8:=cp7.out s2 zzy;have cd8:=cd7.out s2 zzy;have Ib:cellAt H8 H.next 2=some tx:=cp8.cellAt rfl;obtain⟨H9,i1,i2⟩:=aeJ (p:=H.next) (d:=H.next+1) hl hr hq R.rs 0 H8 (abg _) aaM (F8.t.au s2) (hD7.au s2) cd8;rw[show (((0:Nat):Int))=0 from rfl,aaM] at i1;have o9:=o8.trans i2;have cp9:=cp8.out i2 zzy;have Q2:cellAt H9 H.next 3=some sx:=cp9.cellAt rfl;cases m3:(List.zipWith Ag ts R.rs).all id with
 |false=>
  simp only[m3,aa4,if_false] at i1;refine⟨H9,Kq ?_,o9⟩;unfold FW;simp(disch:=try exact zqz)only[b1,n1,b2,bF,kl,r1,hz,hA4,d0,k1,k2,k3,kd,lt,le,ua,m1,d1,u1,v1,w1,xr,ub,wk,eP (lG hR.t.1),eP (lG hR.s),f7,p7,CU,Ib,i1,acn,acy,ar,aq,zz0,simprocAttr]
 |true=>
 simp only[m3,if_true] at i1;have ls:=hR.s.gX;rw[gQ] at ls;obtain⟨mz,j1,j2⟩:=amr (p:=H.next) (d:=H.next+1) (F:=rv dx R.st tx sx) rfl hg hn R.sg 0 H9 (abg _) aaM ((F8.s.au s2).au i2) ((hD7.au s2).au i2) (cd8.out i2 zzy) cp9;rw[show (((0:Nat):Int))=0 from rfl,aaM] at j1;refine⟨mz,Kq ?_,o9.trans j2⟩;unfold FW;cases m4:(List.zipWith (uy ts R.sg) R.sg (List.range R.sg.length)).all id with
 |false=>
  simp only[m4,aa4,if_false] at j1;simp(disch:=try exact zqz)only[b1,n1,b2,bF,kl,r1,hz,hA4,d0,k1,k2,k3,kd,lt,le,ls,ua,m1,d1,u1,v1,w1,xr,ub,wk,eP (lG hR.t.1),eP (lG hR.s),f7,p7,CU,Ib,i1,Q2,j1,Bool.and_false,acy,ar,aq,zz0,simprocAttr]
 |true=>
  simp only[m4,if_true] at j1;simp(disch:=try exact zqz)only[b1,n1,b2,bF,kl,r1,hz,hA4,d0,k1,k2,k3,kd,lt,le,ls,ua,m1,d1,u1,v1,w1,xr,ub,wk,eP (lG hR.t.1),eP (lG hR.s),f7,p7,CU,Ib,i1,Q2,j1,acy,ar,aq,zz0,simprocAttr]
end
structure SS where
 ck:Int
 nms:List Str
 aM:List Str
 rs:List Rn
 fG:List Str
 ks:List Ke
structure SA where
 nx:AV
 tx:AV
 rx:AV
 ox:AV
 kx:AV
 ras:List RA
def fc (a:SA)(S:SS):List AV:=[zi S.ck,a.nx,a.tx,a.rx,a.ox,a.kx]
def iB (r:RA)(R:Rn):List AV:=rv r.dx R.st r.tx r.sx
structure SV (N:Nat)(H:Hp)(a:SA)(S:SS):Prop where
 n:Rw H 1 a.nx (strs S.nms)
 t:Rw H 1 a.tx (strs S.aM)
 r:RL H 4 a.rx (List.zipWith iB a.ras S.rs)
 v:∀(i:Nat) (r:RA) (R:Rn),a.ras[i]?=some r->S.rs[i]?=some R->RV H r.dx r.xs r.tx r.sx R
 len:a.ras.length=S.rs.length
 o:Rw H 1 a.ox (strs S.fG)
 k:RL H 3 a.kx (S.ks.map cl)
 b:∀j,(j∈ak a.nx\/j∈ak a.tx\/j∈ak a.rx\/j∈ak a.ox\/j∈ak a.kx\/j∈a.ras.flatMap RA.fp)->j<N
section
variable {H H':Hp}{N:Nat}{S:SS}{a:SA}
theorem SV.out {T:List Nat}(h:SV N H a S)(k:Out T H H')(hs:∀j∈T,N<=j):SV N H' a S:=by
 have q:∀j,j<N->j∉T:=λj hj hm=>by have:=hs j hm;omega
 exact⟨h.n.out k λj hj=>q j (h.b j (.inl hj)),h.t.out k λj hj=>q j (h.b j (.inr (.inl hj))),h.r.out k λj hj=>q j (h.b j (.inr (.inr (.inl hj)))),
  λi r R hr hR=>(h.v i r R hr hR).out k λj hj=>q j (h.b j (.inr (.inr (.inr (.inr (.inr (ae8.2 ⟨r,aab hr,hj⟩))))))),h.len,h.o.out k λj hj=>q j (h.b j (.inr (.inr (.inr (.inl hj))))),h.k.out k λj hj=>q j (h.b j (.inr (.inr (.inr (.inr (.inl hj)))))),h.b⟩
theorem SV.au (h:SV N H a S)(k:Out [] H H'):SV N H' a S:=h.out k λ_ q=>by cases q
theorem ay3 {text:Str}{dx:AV}{xs:List AV}(hg:Gl H)(h:RD H dx xs (aF text).1):∃H',cK (zf 55) [dv dx] H=some (.str (lr (aF text).1),H')/\Out [] H H':=by
 by_cases hp:(aF text).2=0;·have kD:=Qi hp;exact amW hg kD.2.1 kD.2.2.1 kD.2.2.2.1 kD.1 h
 ·have h0:=Pk hp;rw[h0] at h⊢;have hg0:jH []≠0:=by unfold jH;simp
  have hs:lr []=[]:=by unfold lr;rw[zz1 hg0]
  have aO:bx 72 (dv dx) H=some (H.next,al H [dx] 72 0):=iz zzy;have o1:=aD H [dx] 72 0;have c1:=aP H [dx] 72 0;generalize hA:al H [dx] 72 0=H1 at*
  have k1:av H1 H.next 0 1=some [dx]:=c1.av 1 0 zzy;obtain⟨H2,g1,g2⟩:=S6 (ts:=[]) (abg _) (λt ht=>by cases ht) (h.au o1);have d:(jH [] != 0)=true:=by simp[hg0]
  refine⟨H2,aeW ?_,o1.trans g2⟩;unfold abw;simp(disch:=try exact zqz)only[aO,hA,k1,g1,d,hs,ar,aq,zz0,simprocAttr]
noncomputable def kG:Fm->List (Str×Str)->Option Fm
 |f,[]=>some f|f,x::r=>if ui x.1=true/\lr (aF x.2).1=x.2/\(mY f x.1 x.2).2=0 then kG (mY f x.1 x.2).1 r else none
theorem asE {f:Fm}{s t:Str}(hn:f.nms.length<=16):(mY f s t).1.nms.length<=16:=by
 unfold mY;split;·exact hn
 ·split;·exact hn
  ·split;·exact hn
   ·rename_i h;show (f.nms++[s]).length<=16;rw[aah];simp;omega
theorem DM {α β:Type}{l:List α}{m:List β}{i:Nat}{x:α×β}(h:(l.zip m)[i]?=some x):l[i]?=some x.1/\m[i]?=some x.2:=by rw[alB] at h;exact h
theorem Mo (s:Str):same (.str s) (.str s)=true:=by simp[same,sY]
theorem aiV {sp p:Nat}{sa:SA}{S:SS}(hl:S.nms.length=S.aM.length)(hn:S.nms.length<=1000):∀(r:List (Str×Str)) (i:Nat) (H:Hp) (a:FA) (f:Fm),i<=S.nms.length->(S.nms.zip S.aM).drop i=r->SV sp H sa S->Cs H sp (fc sa S) 50 0->FL H p a f->Gl H->(∀j∈own p a,sp<j)->f.nms.length<=16->
  ∃a' H',(∀oO:K.Fn 2,Nz JN GO cK oO (.ptr sp 0) (.ptr p 0) sa.nx (zi (S.nms.length:Nat)) (zi (i:Nat)) H=match kG f r with|none=>some (.tuple [.dE,zi 2],H')|some _=>oO (.ptr sp 0) (.ptr p 0) H')/\Out (own p a) H H'/\∀f',kG f r=some f'->FL H' p a' f'/\FSt H H' p a a'/\f'.nms.length<=16
 |[],i,H,a,f,hi,h,hS,hc,hF,hg,ho,lZ=>by
  have sG:(S.nms.zip S.aM).length=S.nms.length:=by rw[aiM];omega
  obtain rfl:=(drop_nil zzz h).trans sG;refine⟨a,H,λoO=>?_,Out.refl _ _,λf' h' =>?_⟩;·rw[ahV];simp only[Fj,dA,kG,zz0,simprocAttr]
  ·cases h';exact⟨hF,FSt.same (Out.refl _ _) p a,lZ⟩
 |x::r,i,H,a,f,hi,h,hS,hc,hF,hg,ho,lZ=>by
  have sG:(S.nms.zip S.aM).length=S.nms.length:=by rw[aiM];omega
  obtain⟨h1,h2,h3⟩:=dU h;rw[sG] at h1;obtain⟨hs,ht⟩:=DM h2;have es:=dD h1 zzz;obtain⟨q,q1,q2⟩:=hS.n.gh (mP hs) .i64;have kt:cellAt H sp 2=some sa.tx:=hc.cellAt rfl;obtain⟨w,w1,w2⟩:=hS.t.gh (mP ht) .i64;obtain⟨dx,xs,H2,p1,p2,p3,p4⟩:=PC (text:=x.2) hg;have eU:=p2.row.one;have o3:=aD H2 [dx] 72 0;have c3:=aP H2 [dx] 72 0;have aC:st 1 (.ptr H2.next 0) (dv dx) (al H2 [.ah] 72 0)=some (al H2 [dx] 72 0):=gy (by simp[eU]) rfl rfl zzx rfl;generalize jg:al H2 [dx] 72 0=H3 at*
  have gg:=p3.trans o3;have k3:av H3 H2.next 0 1=some [dx]:=c3.av 1 0 zzy;obtain⟨H4,s1,s2⟩:=ay3 (hg.au gg) (p2.au o3);have gq:=gg.trans s2;have Uz:=hS.au gg;have hS4:=hS.au gq;have hc3:=hc.out gg zzy;have Mj:=hc.out gq zzy;have Jy:cellAt H3 sp 2=some sa.tx:=hc3.cellAt rfl;have Ci:cellAt H4 sp 2=some sa.tx:=Mj.cellAt rfl;obtain⟨w',u1,u2⟩:=Uz.t.gh (mP ht) .i64;have e1:w'=w:=by rw[u1] at w1;exact ab0 w1
  subst e1;obtain⟨Xn,v1,v2⟩:=hS4.t.gh (mP ht) .i64;have e2:Xn=w':=by rw[v1] at u1;exact ab0 u1
  subst e2;obtain⟨a',H5,d1,d2,d3⟩:=adL (hF.au gq) (hg.au gq) lZ x.1 x.2;have AE:=Ob x.1 H3;have YS:=lG hS.t;have base:∀(oO:K.Fn 2),Nz JN GO cK oO (.ptr sp 0) (.ptr p 0) sa.nx (zi (S.nms.length:Nat)) (zi (i:Nat)) H=Fj JN GO cK oO (Nz JN GO cK oO) (.ptr sp 0) (.ptr p 0) sa.nx (zi (S.nms.length:Nat)) (zi (i:Nat)) H:=λoO=>ahV cK oO _ _ _ _ _ H;cases m1:ui x.1 with
  |false=>
   rw[m1] at AE;have hM:kG f (x::r)=none:=by unfold kG;rw[zz1 (by rw[m1];simp)]
   refine⟨a,H3,λoO=>?_,gg.mono λj hj=>(by cases hj),λf' h'=>by rw[hM] at h';cases h'⟩;rw[base,hM];simp(disch:=try exact zqz)only[Fj,aQ h1,q1,q2,kt,w1,w2,p1,aC,jg,AE,ar,aq,zz0,simprocAttr]
  |true=>
  rw[m1] at AE;cases m2:(lr (aF x.2).1==x.2) with
  |false=>
   have hM:kG f (x::r)=none:=by unfold kG;rw[zz1 (λz=>by rw[z.2.1] at m2;simp at m2)]
   refine⟨a,H4,λoO=>?_,gq.mono λj hj=>(by cases hj),λf' h'=>by rw[hM] at h';cases h'⟩;rw[base,hM];simp(disch:=try exact zqz)only[Fj,aQ h1,q1,q2,kt,w1,w2,p1,aC,jg,AE,k3,s1,Jy,Ci,u1,u2,v1,v2,m2,eP YS,eP (Mo _),ar,aq,zz0,simprocAttr]
  |true=>
  have m2':lr (aF x.2).1=x.2:=by simpa using m2
  by_cases m3:(mY f x.1 x.2).2=0
  ·have d0:((mY f x.1 x.2).2 != 0)=false:=by simp[m3]
   have hM:kG f (x::r)=kG (mY f x.1 x.2).1 r:=by
    conv=>lhs;unfold kG
    rw[zz2 ⟨m1,m2',m3⟩]
   have gO:∀j∈own p a',sp<j:=λj hj=>(d3.w j hj).elim (ho j) λz=>by have:=Mj.1;omega
   have hle:∀j∈own p a,sp<=j:=λj hj=>amw (ho j hj);have aE:sp∉own p a:=λz=>by have:=ho _ z;omega
   obtain⟨a2,H',i1,i0,i2⟩:=aiV hl hn r (i+1) H5 a' _ h1 h3 (hS4.out d3.o hle) (Mj.out d3.o aE) d2 ((hg.au gq).out d3.o (hF.au gq).lo) gO (asE lZ);refine⟨a2,H',λoO=>?_,(FSt.end gq d3).o.then i0 (FSt.end gq d3).w,λf' h' =>?_⟩;·rw[base,hM,<-i1 oO];simp(disch:=try exact zqz)only[Fj,aQ h1,q1,q2,kt,w1,w2,p1,aC,jg,AE,k3,s1,Jy,Ci,u1,u2,v1,v2,m2,d1,d0,eP YS,eP (Mo _),es,ar,aq,zz0,simprocAttr]
   ·rw[hM] at h';obtain⟨z1,z2,z3⟩:=i2 f' h';exact⟨z1,FSt.end gq (d3.trans z2),z3⟩
  ·have d0:((mY f x.1 x.2).2 != 0)=true:=by simp[m3]
   have hM:kG f (x::r)=none:=by unfold kG;rw[zz1 (λz=>m3 z.2.2)]
   refine⟨a,H5,λoO=>?_,(FSt.end gq d3).o,λf' h'=>by rw[hM] at h';cases h'⟩;rw[base,hM];simp(disch:=try exact zqz)only[Fj,aQ h1,q1,q2,kt,w1,w2,p1,aC,jg,AE,k3,s1,Jy,Ci,u1,u2,v1,v2,m2,d1,d0,eP YS,eP (Mo _),ar,aq,zz0,simprocAttr]
end
theorem afZ {H:Hp}{dx tx sx:AV}{xs:List AV}{R:Rn}(h:RV H dx xs tx sx R)(hs:Sm R):
  ∃ay aU ax az H',cK (zf 58) [.agg (rv dx R.st tx sx)] H=some (.agg (rv ay R.st ax az),H')/\RO H' ay aU ax az R/\Out [] H H'/\∀j∈pj ay aU ax az,H.next<=j:=by
 have aO:bx 75 (.agg (rv dx R.st tx sx)) H=some (H.next,al H (rv dx R.st tx sx) 75 0):=iz zzy;have o1:=aD H (rv dx R.st tx sx) 75 0;have c1:=aP H (rv dx R.st tx sx) 75 0;have n1:(al H (rv dx R.st tx sx) 75 0).next=H.next+1:=rfl;generalize al H (rv dx R.st tx sx) 75 0=H1 at*
 have o2:=aD H1 zR 75 0;have c2:=aP H1 zR 75 0;have n2:(al H1 zR 75 0).next=H.next+2:=by rw[bS,n1]
 rw[n1] at c2;generalize bF:al H1 zR 75 0=H2 at*
 have bG:=o1.trans o2;have k4:av H2 H.next 0 4=some (rv dx R.st tx sx):=(c1.out o2 zzy).av 4 0 zzy;obtain⟨ay,aU,ax,az,H3,r1,r2,r3,r4⟩:=DV (h.au bG) hs;obtain⟨H4,s1,s2,s3,s4⟩:=iE (n:=4) (vs:=rv ay R.st ax az) (c2.out r3 zzy) rfl rfl (by simp[r2.v.d.row.one,r2.t.rl.one,r2.s.lg,iV]);have k5:av H4 (H.next+1) 0 4=some (rv ay R.st ax az):=s2.av 4 0 zzy;refine⟨ay,aU,ax,az,H4,aBn ?_,r2.out s3 λj hj=>by rw[No];have:=r4 j hj;omega,fh (bG.trans r3) s3 (la (agD _)),λj hj=>by have:=r4 j hj;omega⟩;unfold af7;simp(disch:=try exact zqz)only[aO,n1,bF,k4,r1,s1,k5,ar,aq,zz0,simprocAttr]
theorem aCL {rs:List RA}{l:List Rn}{i:Nat}{r:RA}{R:Rn}(hr:rs[i]?=some r)(hx:l[i]?=some R):(List.zipWith iB rs l)[i]?=some (iB r R):=by rw[adf,hr,hx]
theorem awM (f:Fm)(s:Str):∀t∈tT f s,0<=t.cu/\t.cu<=8:=by
 unfold tT;cases ey f.aM s with
 |none=>intro t ht;cases ht
 |some x=>
  simp only;by_cases h:(aF x).2=0;·intro t ht;have:=((IA h).2.2.2.2.2 t ht).2;unfold uL at this;simp only[ahp,ak2,aam,zz5] at this;omega
  ·rw[Pk h];intro t ht;cases ht
theorem Ur {R:Rn}{ts:List Tk}(h:wB R ts=true):R.ts=ts:=by unfold wB yE at h;simp only[aam,zz5] at h;rw[<-h.2.2.2.1.2.2.2,Ue h.1]
noncomputable def mf:Fm->List (Rn×Str)->Option Fm
 |f,[]=>some f|f,x::r=>if (ey f.aM x.2).isSome=true/\wB x.1 (tT f x.2)=true then mf {f with aw:=f.aw++[x]} r else none
theorem ai4 {sp p:Nat}{sa:SA}{S:SS}(hl:S.rs.length=S.fG.length)(hn:S.rs.length<=64)(hb:∀R∈S.rs,R.rs.length<=1000/\R.sg.length<=1000):∀(r:List (Rn×Str)) (i:Nat) (H:Hp) (a:FA) (f:Fm),i<=S.rs.length->(S.rs.zip S.fG).drop i=r->SV sp H sa S->Cs H sp (fc sa S) 50 0->FL H p a f->Gl H->(∀j∈own p a,sp<j)->f.aw.length<=i->
  ∃a' H',(∀qV:K.Fn 2,K5 JN GO cK qV (.ptr sp 0) (.ptr p 0) sa.rx (zi (S.rs.length:Nat)) (zi (i:Nat)) H=match mf f r with|none=>some (.tuple [.dE,zi 2],H')|some _=>qV (.ptr sp 0) (.ptr p 0) H')/\Out (own p a) H H'/\∀f',mf f r=some f'->FL H' p a' f'/\FSt H H' p a a'
 |[],i,H,a,f,hi,h,hS,hc,hF,hg,ho,lZ=>by
  have sG:(S.rs.zip S.fG).length=S.rs.length:=by rw[aiM];omega
  obtain rfl:=(drop_nil zzz h).trans sG;refine⟨a,H,λqV=>?_,Out.refl _ _,λf' h' =>?_⟩;·rw[al5];simp only[Jq,dA,mf,zz0,simprocAttr]
  ·cases h';exact⟨hF,FSt.same (Out.refl _ _) p a⟩
 |x::r,i,H,a,f,hi,h,hS,hc,hF,hg,ho,lZ=>by
  have sG:(S.rs.zip S.fG).length=S.rs.length:=by rw[aiM];omega
  obtain⟨h1,h2,h3⟩:=dU h;rw[sG] at h1;obtain⟨hR,hO⟩:=DM h2;have es:=dD h1 zzz;obtain⟨ra,Cd⟩:∃ra,sa.ras[i]?=some ra:=⟨_,aai (by rw[hS.len];exact h1)⟩;obtain⟨b,o,q1,q2,q3,q4,q5⟩:=hS.r.at zzx (aCL Cd hR);have hv:=hS.v i ra x.1 Cd hR;obtain⟨b1,b2⟩:=hb x.1 (aab hR);have hz:st 4 (.ptr H.next 0) (.agg (iB ra x.1)) (al H zR 75 0)=some (al H (iB ra x.1) 75 0):=gy (by simp[iB,hv.d.row.one,hv.t.one,hv.s.one,iV]) rfl rfl zzx rfl;have o1:=aD H (iB ra x.1) 75 0;have c1:=aP H (iB ra x.1) 75 0;have n1:(al H (iB ra x.1) 75 0).next=H.next+1:=rfl;generalize bw:al H (iB ra x.1) 75 0=H1 at*
  have ko:cellAt H1 sp 4=some sa.ox:=(hc.out o1 zzy).cellAt rfl;obtain⟨w,w1,w2⟩:=(hS.au o1).o.gh (mP hO) .i64;obtain⟨dx,xs,H2,d1,d2,d3,d4⟩:=ahE (hF.au o1) (hg.au o1) x.2;have eU:=d2.row.one;have aC:st 1 (.ptr H2.next 0) (dv dx) (al H2 [.ah] 72 0)=some (al H2 [dx] 72 0):=gy (by simp[eU]) rfl rfl zzx rfl;have o3:=aD H2 [dx] 72 0;have c3:=aP H2 [dx] 72 0;generalize jg:al H2 [dx] 72 0=H3 at*
  have gg:=(o1.trans d3).trans o3;have kd:av H3 H2.next 0 1=some [dx]:=c3.av 1 0 zzy;have kr:av H3 H.next 0 4=some (iB ra x.1):=((c1.out d3 zzy).out o3 zzy).av 4 0 (by simp[iB]);have base:∀(qV:K.Fn 2),K5 JN GO cK qV (.ptr sp 0) (.ptr p 0) sa.rx (zi (S.rs.length:Nat)) (zi (i:Nat)) H=Jq JN GO cK qV (K5 JN GO cK qV) (.ptr sp 0) (.ptr p 0) sa.rx (zi (S.rs.length:Nat)) (zi (i:Nat)) H:=λqV=>al5 cK qV _ _ _ _ _ H;cases m1:(ey f.aM x.2).isSome with
  |false=>
   rw[m1] at d1;have hM:mf f (x::r)=none:=by unfold mf;rw[zz1 (by rw[m1];simp)]
   refine⟨a,H3,λqV=>?_,gg.mono λj hj=>(by cases hj),λf' h'=>by rw[hM] at h';cases h'⟩;rw[base,hM];simp(disch:=try exact zqz)only[Jq,aQ h1,q1,q4,hz,bw,ko,w1,w2,d1,aC,jg,ar,aq,zz0,simprocAttr]
  |true=>
  rw[m1] at d1;obtain⟨z1,z2⟩:=aci f x.2;obtain⟨H4,y1,y2⟩:=apj (hv.au gg) (d2.au o3) zzz (λt ht=>by have:=z2 t ht;omega) (awM f x.2) b1 b2;have Ji:cK (zf 57) [.agg (iB ra x.1),.agg [dx]] H3=some (.bool (wB x.1 (tT f x.2)),H4):=y1;have gq:=gg.trans y2;cases m2:wB x.1 (tT f x.2) with
  |false=>
   rw[m2] at Ji;have hM:mf f (x::r)=none:=by unfold mf;rw[zz1 (by rw[m2];simp)]
   refine⟨a,H4,λqV=>?_,gq.mono λj hj=>(by cases hj),λf' h'=>by rw[hM] at h';cases h'⟩;rw[base,hM];simp(disch:=try exact zqz)only[Jq,aQ h1,q1,q4,hz,bw,ko,w1,w2,d1,aC,jg,kd,kr,Ji,ar,aq,zz0,simprocAttr]
  |true=>
  rw[m2] at Ji;have lP:=Ur m2;have ot:Sm x.1:=⟨by rw[lP];omega,by rw[lP];exactλt ht=>by have:=z2 t ht;omega,b1,zzz⟩;have SP:=hF.au gq;obtain⟨ay,aU,ax,az,H5,r1,r2,r3,r4⟩:=afZ (hv.au gq) ot;have Bg:cK (zf 58) [.agg (iB ra x.1)] H4=some (.agg (rv ay x.1.st ax az),H5):=r1;have QI:=gq.trans r3;have hF5:=hF.au QI;have Mj:=hc.out gq zzy;have hc5:=hc.out QI zzy;have kr4:av H4 H.next 0 4=some (iB ra x.1):=(((c1.out d3 zzy).out o3 zzy).out y2 zzy).av 4 0 (by simp[iB]);have wN:cellAt H4 p 3=some a.rx:=SP.c.cellAt rfl;have ub:cellAt H5 p 3=some a.rx:=hF5.c.cellAt rfl;have ko4:cellAt H4 sp 4=some sa.ox:=Mj.cellAt rfl;have ko5:cellAt H5 sp 4=some sa.ox:=hc5.cellAt rfl;have G2:∀{X:Hp},Out [] H1 X->ld w X=some (.str x.2):=λ{X} k=>by
   obtain⟨w',u1,u2⟩:=((hS.au o1).au k).o.gh (mP hO) .i64;have e:w'=w:=by rw[u1] at w1;exact ab0 w1
   rw[<-e];exact u2
  have hw4:=G2 ((d3.trans o3).trans y2);have LC:=G2 (((d3.trans o3).trans y2).trans r3);have hn5:H.next<=H4.next:=gq.1;have tt:∀j∈(RA.mk ay aU ax az).fp,j∉own p a:=λj hj q=>by have:=r4 j hj;have:=hF.lt j q;omega
  obtain⟨cn,H6,H7,a1,a2,a3,a4,a5,a6,a7⟩:=hF5.Y2 (r':=⟨ay,aU,ax,az⟩) (x:=x) r2.v tt zzz;have GS:c8 77 5 [.ah,(zi 0),.ah,.ah,(.str [])] false a.rx (.slice H5.next 0 1 1 true 5) (al H5 [ay,zi x.1.st,ax,az,.str x.2] 77 0)=some (cn,H6):=a1 H5.next rfl;have f1:fl [.ah,(zi 0),.ah,.ah,(.str [])] [(0,4,.agg (rv ay x.1.st ax az)),(4,1,.str x.2)]=some (bE ⟨ay,aU,ax,az⟩ x):=by rw[z8 (l:=rv ay x.1.st ax az) (n:=4) rfl zzy,yW rfl zzy,pW];rfl
  have f2:fl [.ah,(zi 0),.ah,.ah,(.str [])] [(0,5,.agg (bE ⟨ay,aU,ax,az⟩ x))]=some (bE ⟨ay,aU,ax,az⟩ x):=by rw[z8 (l:=bE ⟨ay,aU,ax,az⟩ x) (n:=5) rfl zzy,pW];rfl
  have cB:aA H5 (bE ⟨ay,aU,ax,az⟩ x) 77 0=some (H5.next,al H5 (bE ⟨ay,aU,ax,az⟩ x) 77 0):=eA (by simp[bE]);have wk:cellAt (al H5 [ay,zi x.1.st,ax,az,.str x.2] 77 0) p 3=some a.rx:=by rw[(aD _ _ _ _).cellAt hF5.c.1 zzy];exact ub
  have hM:mf f (x::r)=mf {f with aw:=f.aw++[x]} r:=by
   conv=>lhs;unfold mf
   rw[zz2 ⟨m1,m2⟩]
  have LV:Out (own p a) H H7:=(QI.mono λj hj=>by cases hj).trans a4;have hn7:=LV.1;have aIf:=QI.1;have mJ:=hc.1;have hle:∀j∈own p a,sp<=j:=λj hj=>amw (ho j hj);have sD:FSt H H7 p a {a with rx:=cn,ras:=a.ras++[⟨ay,aU,ax,az⟩]}:=⟨LV,λj hj=>(a5 j hj).imp id λq=>zzz,λj hj=>(a6 j hj).imp id λq=>by have:=r4 j q;omega⟩;obtain⟨a',H',i1,i0,i2⟩:=ai4 hl hn hb r (i+1) H7 _ _ h1 h3 (hS.out LV hle) (hc.out LV λz=>by have:=ho _ z;omega) a3 (hg.out LV hF.lo) (λj hj=>(a5 j hj).elim (ho j) λq=>zzz) (by show (f.aw++[x]).length<=_;rw[aah];simp;omega);refine⟨a',H',λqV=>?_,sD.o.then i0 sD.w,λf' h' =>?_⟩;·rw[base,hM,<-i1 qV];simp(disch:=try exact zqz)only[Jq,aQ h1,q1,q4,hz,bw,ko,w1,w2,d1,aC,jg,kd,kr,Ji,kr4,Bg,wN,ub,ko4,ko5,hw4,LC,f1,f2,cB,wk,GS,a2,eP (lG hF.r.1.rw),eP (lG hS.o),eP (Mo _),es,ar,aq,zz0,simprocAttr]
  ·rw[hM] at h';obtain⟨z1,z2⟩:=i2 f' h';exact⟨z1,sD.trans z2⟩
def p9 (f:Fm)(x:Ke):Bool:=decide (1<=x.2)&&(decide (x.2<=(f.aw.length:Int))&&((f.aw[(x.2-1).toNat]?.map (·.2)==some x.1.1)&&(!(x.1.2==[])&&(decide (x.1.2.length<=16)&&(lY f.ks x.1).isNone))))
def ou:Fm->List Ke->Option Fm
 |f,[]=>some f|f,x::r=>bif p9 f x then ou {f with ks:=f.ks++[x]} r else none
theorem ahg {sp p:Nat}{sa:SA}{S:SS}(hn:S.ks.length<=128):∀(r:List Ke) (i:Nat) (H:Hp) (a:FA) (f:Fm),i<=S.ks.length->S.ks.drop i=r->SV sp H sa S->FL H p a f->f.aw.length<=64->(∀j∈own p a,sp<j)->sp<H.next->f.ks.length<=i->
  ∃a' H',(∀kO:K.Fn 1,Ht JN GO cK kO (.ptr p 0) sa.kx (zi (S.ks.length:Nat)) (zi (i:Nat)) H=match ou f r with|none=>some (.tuple [.dE,zi 2],H')|some _=>kO (.ptr p 0) H')/\Out (own p a) H H'/\∀f',ou f r=some f'->FL H' p a' f'/\FSt H H' p a a'
 |[],i,H,a,f,hi,h,hS,hF,iU,ho,mJ,hk=>by
  obtain rfl:=drop_nil hi h;refine⟨a,H,λkO=>?_,Out.refl _ _,λf' h' =>?_⟩;·rw[ahH];simp only[yC,dA,ou,zz0,simprocAttr]
  ·cases h';exact⟨hF,FSt.same (Out.refl _ _) p a⟩
 |x::r,i,H,a,f,hi,h,hS,hF,iU,ho,mJ,hk=>by
  obtain⟨h1,h2,h3⟩:=dU h;have es:=dD h1 zzz;obtain⟨b,o,q1,q2,q3,q4,q5⟩:=hS.k.at zzx (i:=i) (c:=cl x) (by rw[acd,h2];rfl);have hz:st 3 (.ptr H.next 0) (.agg (cl x)) (al H [(.str []),(.str []),(zi 0)] 82 0)=some (al H (cl x) 82 0):=gy rfl rfl rfl zzx rfl;have o1:=aD H (cl x) 82 0;have c1:=aP H (cl x) 82 0;have n1:(al H (cl x) 82 0).next=H.next+1:=rfl;generalize bw:al H (cl x) 82 0=H1 at*
  have e0:cellAt H1 H.next 0=some (.str x.1.1):=c1.cellAt rfl;have e1:cellAt H1 H.next 1=some (.str x.1.2):=c1.cellAt rfl;have e2:cellAt H1 H.next 2=some (zi x.2):=c1.cellAt rfl;have ek:av H1 H.next 0 2=some (bN x.1):=c1.av 2 0 (by simp[cl]);have Ab:=hF.au o1;have k3:cellAt H1 p 3=some a.rx:=Ab.c.cellAt rfl;have k4:cellAt H1 p 4=some (.ptr a.kp 0):=Ab.c.cellAt rfl;have fS:=hF.JH;have base:∀(kO:K.Fn 1),Ht JN GO cK kO (.ptr p 0) sa.kx (zi (S.ks.length:Nat)) (zi (i:Nat)) H=yC JN GO cK kO (Ht JN GO cK kO) (.ptr p 0) sa.kx (zi (S.ks.length:Nat)) (zi (i:Nat)) H:=λkO=>ahH cK kO _ _ _ _ H;have bad:p9 f x=false->(∃H',Out (own p a) H H'/\∀(kO:K.Fn 1),yC JN GO cK kO (Ht JN GO cK kO) (.ptr p 0) sa.kx (zi (S.ks.length:Nat)) (zi (i:Nat)) H=some (.tuple [.dE,zi 2],H'))->∃a' H',(∀kO:K.Fn 1,Ht JN GO cK kO (.ptr p 0) sa.kx (zi (S.ks.length:Nat)) (zi (i:Nat)) H=match ou f (x::r) with|none=>some (.tuple [.dE,zi 2],H')|some _=>kO (.ptr p 0) H')/\Out (own p a) H H'/\∀f',ou f (x::r)=some f'->FL H' p a' f'/\FSt H H' p a a':=by
   rintro hb ⟨H',hH0,hH⟩;have hM:ou f (x::r)=none:=by show (bif p9 f x then _ else none)=none;rw[hb];rfl
   exact⟨a,H',λkO=>by rw[base,hM,hH],hH0,λf' h'=>by rw[hM] at h';cases h'⟩
  by_cases g1:1<=x.2
  rotate_left
  ·have d1:decide (x.2<1)=true:=zz3 zzz;refine bad (by unfold p9;rw[zz4 g1];rfl) ⟨H1,o1.mono λj hj=>(by cases hj),λkO=>?_⟩;simp(disch:=try exact zqz)only[yC,aQ h1,q1,q4,hz,bw,e2,d1,ar,aq,zz0,simprocAttr]
  have d1:decide (x.2<1)=false:=zz4 zzz;by_cases g2:x.2<=(f.aw.length:Int)
  rotate_left
  ·have d2:decide (((f.aw.length:Nat):Int)<x.2)=true:=zz3 zzz;refine bad (by unfold p9;rw[zz4 g2,acn,Bool.and_false]) ⟨H1,o1.mono λj hj=>(by cases hj),λkO=>?_⟩;simp(disch:=try exact zqz)only[yC,aQ h1,q1,q4,hz,bw,e2,d1,k3,fS,d2,ar,aq,zz0,simprocAttr]
  have d2:decide (((f.aw.length:Nat):Int)<x.2)=false:=zz4 zzz;obtain⟨m,hm⟩:∃m:Nat,x.2=(m:Int)+1:=⟨(x.2-1).toNat,zzz⟩;have hmi:(x.2-1).toNat=m:=zzz;have hw:IntKind.wrap .i64 (x.2-1)=((m:Nat):Int):=by rw[hm,wrap_i64 zzz zzz];omega
  have yd:m<f.aw.length:=zzz;obtain⟨y,hy⟩:∃y,f.aw[m]?=some y:=⟨_,aai yd⟩;obtain⟨ra,Cd⟩:∃ra,a.ras[m]?=some ra:=⟨_,aai (by rw[hF.len];exact yd)⟩;obtain⟨b',o',p1,p2,p3,p4,p5⟩:=Ab.r.rl.at zzx (Ts Cd hy);have pn:cellAt H1 b' (o'+4)=some (.str y.2):=p5 4 _ rfl;cases m3:(y.2==x.1.1) with
  |false=>
   refine bad (by unfold p9;rw[hmi,hy];simp[m3]) ⟨H1,o1.mono λj hj=>(by cases hj),λkO=>?_⟩;simp(disch:=try exact zqz)only[yC,aQ h1,q1,q4,hz,bw,e0,e2,d1,k3,fS,d2,hw,p1,pn,m3,ar,aq,zz0,simprocAttr]
  |true=>
  cases m4:(x.1.2==[]) with
  |true=>
   refine bad (by unfold p9;rw[m4];simp) ⟨H1,o1.mono λj hj=>(by cases hj),λkO=>?_⟩;simp(disch:=try exact zqz)only[yC,aQ h1,q1,q4,hz,bw,e0,e1,e2,d1,k3,fS,d2,hw,p1,pn,m3,m4,ar,aq,zz0,simprocAttr]
  |false=>
  by_cases g5:x.1.2.length<=16
  rotate_left
  ·have d5:decide ((16:Int)<((x.1.2.length:Nat):Int))=true:=zz3 zzz;refine bad (by unfold p9;rw[zz4 g5];simp) ⟨H1,o1.mono λj hj=>(by cases hj),λkO=>?_⟩;simp(disch:=try exact zqz)only[yC,aQ h1,q1,q4,hz,bw,e0,e1,e2,d1,k3,fS,d2,hw,p1,pn,m3,m4,d5,ar,aq,zz0,simprocAttr]
  have d5:decide ((16:Int)<((x.1.2.length:Nat):Int))=false:=zz4 zzz;cases Qe:lY f.ks x.1 with
  |some SQ=>
   obtain⟨H2,t1,t2⟩:=asl Ab.k Qe x.2;refine bad (by unfold p9;rw[Qe];simp) ⟨H2,(o1.mono λj hj=>(by cases hj)).then t2 λj hj=>(by cases hj),λkO=>?_⟩;simp(disch:=try exact zqz)only[yC,aQ h1,q1,q4,hz,bw,e0,e1,e2,ek,d1,k3,k4,fS,d2,hw,p1,pn,m3,m4,d5,t1,ar,aq,zz0,simprocAttr]
  |none=>
   obtain⟨uO,H2,t1,t2,t3⟩:=Ab.iO zzz Qe x.2;have mK:p9 f x=true:=by unfold p9;rw[hmi,hy,Qe,m4,zz3 g1,zz3 g2,zz3 g5];simp at m3;simp[m3]
   have hM:ou f (x::r)=ou {f with ks:=f.ks++[x]} r:=by show (bif p9 f x then _ else none)=_;rw[mK];rfl
   have sD:=FSt.end o1 t3;have hle:∀j∈own p a,sp<=j:=λj hj=>amw (ho j hj);obtain⟨a',H',i1,i0,i2⟩:=ahg hn r (i+1) H2 {a with kl:=uO} {f with ks:=f.ks++[x]} h1 h3 (hS.out sD.o hle) t2 iU (λj hj=>(sD.w j hj).elim (ho j) λq=>zzz) (ac2 mJ sD.o.1) (by show (f.ks++[x]).length<=_;rw[aah];simp;omega);refine⟨a',H',λkO=>?_,sD.o.then i0 sD.w,λf' h' =>?_⟩;·rw[base,hM,<-i1 kO];simp(disch:=try exact zqz)only[yC,aQ h1,q1,q4,hz,bw,e0,e1,e2,ek,d1,k3,k4,fS,d2,hw,p1,pn,m3,m4,d5,t1,es,ar,aq,zz0,simprocAttr]
   ·rw[hM] at h';obtain⟨z1,z2⟩:=i2 f' h';exact⟨z1,sD.trans z2⟩
def rX (S:SS):Bool:=decide (S.ck<0)||(decide (1099511627776<S.ck)||(!(decide (S.nms.length=S.aM.length))||(!(decide (S.rs.length=S.fG.length))||(decide (64<S.rs.length)||decide (128<S.ks.length)))))
noncomputable def oY (S:SS):Option Fm:=
 bif rX S then none else (kG {qh with ck:=S.ck} (S.nms.zip S.aM)).bind λf=>(mf f (S.rs.zip S.fG)).bind λf=>ou f S.ks
theorem Tf:∀(l:List (Str×Str)) (f f':Fm),kG f l=some f'->f'.aw=f.aw/\f'.ks=f.ks
 |[],f,f',h=>by cases h;exact⟨rfl,rfl⟩
 |x::r,f,f',h=>by
  unfold kG at h;split at h
  ·obtain⟨a,b⟩:=Tf r _ _ h;have:(mY f x.1 x.2).1.aw=f.aw/\(mY f x.1 x.2).1.ks=f.ks:=by
    unfold mY;split;·exact⟨rfl,rfl⟩
    ·split;·exact⟨rfl,rfl⟩
     ·split<;>exact⟨rfl,rfl⟩
   exact⟨a.trans this.1,b.trans this.2⟩
  ·cases h
theorem SF:∀(l:List (Rn×Str)) (f f':Fm),mf f l=some f'->f'.ks=f.ks/\f'.aw=f.aw++l/\f'.nms=f.nms/\f'.aM=f.aM/\f'.ck=f.ck
 |[],f,f',h=>by cases h;exact⟨rfl,(ac4 _).symm,rfl,rfl,rfl⟩
 |x::r,f,f',h=>by
  unfold mf at h;split at h;·obtain⟨a,b,c,d,e⟩:=SF r _ _ h;exact⟨a,by rw[b];simp,c,d,e⟩
  ·cases h
theorem aHv {H:Hp}{sa:SA}{S:SS}(hS:SV H.next H sa S)(hg:Gl H)(lI:S.nms.length<=1000)(hb:∀R∈S.rs,R.rs.length<=1000/\R.sg.length<=1000):
  ∃p a H',cK (zf 22) [.agg (fc sa S)] H=(match oY S with|none=>some (.tuple [.dE,zi 2],H')|some _=>some (.tuple [.ptr p 0,zi 0],H'))/\Out [] H H'/\∀f,oY S=some f->FL H' p a f/\Out [] H H'/\(∀j∈own p a,H.next<=j)/\∀j∈bq.cY a,H.next<=j:=by
 have aO:bx 50 (.agg (fc sa S)) H=some (H.next,al H (fc sa S) 50 0):=iz (by simp[fc]);have o1:=aD H (fc sa S) 50 0;have c1:=aP H (fc sa S) 50 0;have n1:(al H (fc sa S) 50 0).next=H.next+1:=rfl;generalize bw:al H (fc sa S) 50 0=H1 at*
 obtain⟨p,a,H2,m1,m2,m3,m4,m5⟩:=Zo (hg.au o1).nx;have o2:=o1.trans m3;have c2:=c1.out m3 zzy;have k0:cellAt H2 H.next 0=some (zi S.ck):=c2.cellAt rfl;have k1:cellAt H2 H.next 1=some sa.nx:=c2.cellAt rfl;have k2:cellAt H2 H.next 2=some sa.tx:=c2.cellAt rfl;have k3:cellAt H2 H.next 3=some sa.rx:=c2.cellAt rfl;have k4:cellAt H2 H.next 4=some sa.ox:=c2.cellAt rfl;have k5:cellAt H2 H.next 5=some sa.kx:=c2.cellAt rfl;have l1:=hS.n.gX;have l2:=hS.t.gX;have l4:=hS.o.gX;rw[gQ] at l1 l2 l4;have l3:=hS.r.len zzx;rw[aey,hS.len,ajN] at l3;have l5:=hS.k.len zzx;rw[abF] at l5;have bad:rX S=true->cK (zf 22) [.agg (fc sa S)] H=some (.tuple [.dE,zi 2],H2)->∃p a H',cK (zf 22) [.agg (fc sa S)] H=(match oY S with|none=>some (.tuple [.dE,zi 2],H')|some _=>some (.tuple [.ptr p 0,zi 0],H'))/\Out [] H H'/\∀f,oY S=some f->FL H' p a f/\Out [] H H'/\(∀j∈own p a,H.next<=j)/\∀j∈bq.cY a,H.next<=j:=by
  intro hb hc;have hM:oY S=none:=by unfold oY;rw[hb];rfl
  exact⟨p,a,H2,by rw[hM,hc],o2,λf h=>by rw[hM] at h;cases h⟩
 by_cases g1:S.ck<0;·have d1:decide (S.ck<0)=true:=zz3 g1;refine bad (by unfold rX;rw[d1];rfl) (Bv ?_);unfold Ac;simp(disch:=try exact zqz)only[aO,bw,m1,k0,d1,ar,aq,zz0,simprocAttr]
 have d1:decide (S.ck<0)=false:=zz4 g1;by_cases g2:1099511627776<S.ck;·have d2:decide (1099511627776<S.ck)=true:=zz3 g2;refine bad (by unfold rX;rw[d1,d2];rfl) (Bv ?_);unfold Ac;simp(disch:=try exact zqz)only[aO,bw,m1,k0,d1,d2,ar,aq,zz0,simprocAttr]
 have d2:decide (1099511627776<S.ck)=false:=zz4 g2;by_cases g3:S.nms.length=S.aM.length
 rotate_left
 ·have d3:(((S.nms.length:Nat):Int) != ((S.aM.length:Nat):Int))=true:=by simp;omega
  refine bad (by unfold rX;rw[zz4 g3];simp) (Bv ?_);unfold Ac;simp(disch:=try exact zqz)only[aO,bw,m1,k0,k1,k2,l1,l2,d1,d2,d3,ar,aq,zz0,simprocAttr]
 have d3:(((S.nms.length:Nat):Int) != ((S.aM.length:Nat):Int))=false:=by simp;omega
 by_cases g4:S.rs.length=S.fG.length
 rotate_left
 ·have d4:(((S.rs.length:Nat):Int) != ((S.fG.length:Nat):Int))=true:=by simp;omega
  refine bad (by unfold rX;rw[zz4 g4];simp) (Bv ?_);unfold Ac;simp(disch:=try exact zqz)only[aO,bw,m1,k0,k1,k2,k3,k4,l1,l2,l3,l4,d1,d2,d3,d4,ar,aq,zz0,simprocAttr]
 have d4:(((S.rs.length:Nat):Int) != ((S.fG.length:Nat):Int))=false:=by simp;omega
 by_cases g5:64<S.rs.length;·have d5:decide ((64:Int)<((S.rs.length:Nat):Int))=true:=zz3 zzz;refine bad (by unfold rX;rw[zz3 g5];simp) (Bv ?_);unfold Ac;simp(disch:=try exact zqz)only[aO,bw,m1,k0,k1,k2,k3,k4,l1,l2,l3,l4,d1,d2,d3,d4,d5,ar,aq,zz0,simprocAttr]
 have d5:decide ((64:Int)<((S.rs.length:Nat):Int))=false:=zz4 zzz;by_cases g6:128<S.ks.length;·have d6:decide ((128:Int)<((S.ks.length:Nat):Int))=true:=zz3 zzz;refine bad (by unfold rX;rw[zz3 g6];simp) (Bv ?_);unfold Ac;simp(disch:=try exact zqz)only[aO,bw,m1,k0,k1,k2,k3,k4,k5,l1,l2,l3,l4,l5,d1,d2,d3,d4,d5,d6,ar,aq,zz0,simprocAttr]
 have d6:decide ((128:Int)<((S.ks.length:Nat):Int))=false:=zz4 zzz;have qY:rX S=false:=by unfold rX;rw[d1,d2,zz3 g3,zz3 g4,zz4 g5,zz4 g6];rfl
 obtain⟨H3,s1,s2,s3⟩:=m2.clock S.ck;have J1:∀j∈own p a,H.next<j:=λj hj=>by have:=m4 j hj;omega
 have hle:∀j∈own p a,H.next<=j:=λj hj=>amw (J1 j hj);have aE:H.next∉own p a:=λz=>by have:=J1 _ z;omega
 have O:∀{X:Hp} {b:FA},FSt H2 X p a b->Out [] H X/\SV H.next X sa S/\Cs X H.next (fc sa S) 50 0/\Gl X/\∀j∈own p b,H.next<j:=by intro X b k;have ko:Out [] H X:=fh o2 k.o hle;refine⟨ko,hS.au ko,c2.out k.o aE,hg.au ko,λj hj=>(k.w j hj).elim (J1 j) λq=>?_⟩;have:=m3.1;omega
 obtain⟨O31,O32,O33,O34,O35⟩:=O s3;have q1:cellAt H3 H.next 1=some sa.nx:=O33.cellAt rfl;obtain⟨a4,H4,i1,i0,i2⟩:=aiV (sp:=H.next) g3 lI (S.nms.zip S.aM) 0 H3 a _ (abg _) aaM O32 O33 s2 O34 O35 (abg _);rw[show (((0:Nat):Int))=0 from rfl] at i1;have XN:oY S=(kG {qh with ck:=S.ck} (S.nms.zip S.aM)).bind λf=>(mf f (S.rs.zip S.fG)).bind λf=>ou f S.ks:=by unfold oY;rw[qY];rfl
 cases uq:kG {qh with ck:=S.ck} (S.nms.zip S.aM) with
 |none=>
  simp only[uq] at i1;have hM:oY S=none:=by rw[XN,uq];rfl
  refine⟨p,a,H4,?_,fh (fh o2 s3.o hle) i0 hle,λf h=>by rw[hM] at h;cases h⟩;rw[hM];refine Bv ?_;unfold Ac;simp(disch:=try exact zqz)only[aO,bw,m1,k0,k1,k2,k3,k4,k5,l1,l2,l3,l4,l5,d1,d2,d3,d4,d5,d6,s1,q1,i1,ar,aq,zz0,simprocAttr]
 |some f1=>
 simp only[uq] at i1;obtain⟨t1,t2,t3⟩:=i2 f1 uq;obtain⟨O41,O42,O43,O44,O45⟩:=O (s3.trans t2);have q3:cellAt H4 H.next 3=some sa.rx:=O43.cellAt rfl;obtain⟨r1,r2⟩:=Tf _ _ _ uq;have Bg:f1.aw=[]:=r1;have r2':f1.ks=[]:=r2;obtain⟨a5,H5,j1,j0,j2⟩:=ai4 (sp:=H.next) g4 zzz hb (S.rs.zip S.fG) 0 H4 a4 f1 (abg _) aaM O42 O43 t1 O44 O45 (by rw[Bg];exact aaq _);rw[show (((0:Nat):Int))=0 from rfl] at j1;cases Du:mf f1 (S.rs.zip S.fG) with
 |none=>
  simp only[Du] at j1;have hM:oY S=none:=by rw[XN,uq,acf,Du];rfl
  refine⟨p,a,H5,?_,fh O41 j0 (λj hj=>amw (O45 j hj)),λf h=>by rw[hM] at h;cases h⟩;rw[hM];refine Bv ?_;unfold Ac;simp(disch:=try exact zqz)only[aO,bw,m1,k0,k1,k2,k3,k4,k5,l1,l2,l3,l4,l5,d1,d2,d3,d4,d5,d6,s1,q1,i1,q3,j1,ar,aq,zz0,simprocAttr]
 |some f2=>
 simp only[Du] at j1;obtain⟨u1,u2⟩:=j2 f2 Du;obtain⟨O51,O52,O53,O54,O55⟩:=O ((s3.trans t2).trans u2);have q5:cellAt H5 H.next 5=some sa.kx:=O53.cellAt rfl;obtain⟨v1,v2,v3,v4,v5⟩:=SF _ _ _ Du;obtain⟨a6,H6,w1,w0,w2⟩:=ahg (sp:=H.next) (p:=p) zzz S.ks 0 H5 a5 f2 (abg _) aaM O52 u1 (by rw[v2,Bg,afV,aiM];omega) O55 O53.1 (by rw[v1,r2'];exact aaq _);rw[show (((0:Nat):Int))=0 from rfl] at w1;have RB:oY S=ou f2 S.ks:=by rw[XN,uq,acf,Du,acf]
 cases Gg:ou f2 S.ks with
 |none=>
  simp only[Gg] at w1;refine⟨p,a,H6,?_,fh O51 w0 (λj hj=>amw (O55 j hj)),λf h=>by rw[RB,Gg] at h;cases h⟩;rw[RB,Gg];refine Bv ?_;unfold Ac;simp(disch:=try exact zqz)only[aO,bw,m1,k0,k1,k2,k3,k4,k5,l1,l2,l3,l4,l5,d1,d2,d3,d4,d5,d6,s1,q1,i1,q3,j1,q5,w1,ar,aq,zz0,simprocAttr]
 |some f3=>
 simp only[Gg] at w1;obtain⟨x1,x2⟩:=w2 f3 Gg;obtain⟨O61,O62,O63,O64,O65⟩:=O (((s3.trans t2).trans u2).trans x2);refine⟨p,a6,H6,?_,O61,λf h=>?_⟩;·rw[RB,Gg];refine Bv ?_;unfold Ac;simp(disch:=try exact zqz)only[aO,bw,m1,k0,k1,k2,k3,k4,k5,l1,l2,l3,l4,l5,d1,d2,d3,d4,d5,d6,s1,q1,i1,q3,j1,q5,w1,ar,aq,zz0,simprocAttr]
 ·rw[RB,Gg] at h;cases h;exact⟨x1,O61,λj hj=>amw (O65 j hj),λj hj=>((((s3.trans t2).trans u2).trans x2).i j hj).elim (λz=>by unfold bq.cY at z;rw[m5] at z;cases z) λz=>by have:=m3.1;omega⟩
def lu (q:Nat)(a:SA):List (List Nat):=[[q],ak a.tx,ak a.rx,ak a.ox,ak a.nx++(ak a.kx++a.ras.flatMap RA.fp)]
structure SB (N:Nat)(H:Hp)(q:Nat)(a:SA)(S:SS):Prop where
 c:Cs H q (fc a S) 50 0
 n:Rw H 1 a.nx (strs S.nms)
 t:Ow H 9 1 a.tx (strs S.aM)
 r:OL H 75 4 a.rx (List.zipWith iB a.ras S.rs)
 v:∀(i:Nat) (r:RA) (R:Rn),a.ras[i]?=some r->S.rs[i]?=some R->RV H r.dx r.xs r.tx r.sx R
 len:a.ras.length=S.rs.length
 o:Ow H 9 1 a.ox (strs S.fG)
 k:RL H 3 a.kx (S.ks.map cl)
 dj:(lu q a).Pairwise Dj
 fr:∀l∈lu q a,∀j∈l,N<=j
 lt:∀l∈lu q a,∀j∈l,j<H.next
section
variable {H H':Hp}{N i:Nat}{S:SS}{T:List Nat}{a:SA}
theorem qJ {q:Nat}{j:Nat}(h:j∈ak a.nx\/j∈ak a.kx\/j∈a.ras.flatMap RA.fp):j∈ak a.nx++(ak a.kx++a.ras.flatMap RA.fp):=by
 rcases h with h|h|h;·exact aaG _ h
 ·exact aaw _ (aaG _ h)
 ·exact aaw _ (aaw _ h)
theorem SB.part {q:Nat}(h:SB N H q a S)(k:Out T H H')(hT:(lu q a)[i]?=some T):
  (i≠0->Cs H' q (fc a S) 50 0)/\(i≠1->Ow H' 9 1 a.tx (strs S.aM))/\(i≠2->OL H' 75 4 a.rx (List.zipWith iB a.ras S.rs))/\(i≠3->Ow H' 9 1 a.ox (strs S.fG))/\
  (i≠4->Rw H' 1 a.nx (strs S.nms)/\RL H' 3 a.kx (S.ks.map cl)/\∀(i:Nat) (r:RA) (R:Rn),a.ras[i]?=some r->S.rs[i]?=some R->RV H' r.dx r.xs r.tx r.sx R):=by
 have sep:∀{j:Nat} {l:List Nat},i≠j->(lu q a)[j]?=some l->∀x∈l,x∉T:=λlM hl=>(zp h.dj lM hT hl).symm;refine⟨λhi=>h.c.out k (sep hi rfl q (.head _)),λhi=>h.t.out k (sep hi rfl),λhi=>h.r.out k (sep hi rfl),λhi=>h.o.out k (sep hi rfl),λhi=>⟨h.n.out k λj hj=>sep hi rfl j (qJ (q:=q) (.inl hj)),h.k.out k λj hj=>sep hi rfl j (qJ (q:=q) (.inr (.inl hj))),λi r R hr hR=>(h.v i r R hr hR).out k λj hj=>sep hi rfl j (qJ (q:=q) (.inr (.inr (ae8.2 ⟨r,aab hr,hj⟩))))⟩⟩
theorem SB.au {q:Nat}(h:SB N H q a S)(k:Out [] H H'):SB N H' q a S:=
 ⟨h.c.out k zzy,h.n.au k,h.t.out k λj hj=>zzy,h.r.out k λj hj=>zzy,λi r R hr hR=>(h.v i r R hr hR).au k,h.len,h.o.out k λj hj=>zzy,h.k.au k,h.dj,h.fr,λl hl j hj=>ac2 (h.lt l hl j hj) k.1⟩
theorem SB.put {q:Nat}{a':SA}{S':SS}{o:Nat}{T':List Nat}{v:AV}(h:SB N H q a S)(k:Out T H H')(hi:i≠0)(hT:(lu q a)[i]?=some T)(hs:lu q a'=(lu q a).set i T')(cI:∀j∈T',j∈T\/H.next<=j)(aN:∀j∈T',j<H'.next)(hN:N<=H.next)(ho:o<6)(hv:aW v=true)(aC:(fc a S).set o v=fc a' S'):
  ∃H2,st 1 (.ptr q o) v H'=some H2/\Cs H2 q (fc a' S') 50 0/\Out [q] H' H2/\(lu q a').Pairwise Dj/\(∀l∈lu q a',∀j∈l,N<=j)/\(∀l∈lu q a',∀j∈l,j<H2.next)/\(∀j∈T,N<=j)/\N<=q/\∀{j:Nat} {l:List Nat},0≠j->(lu q a')[j]?=some l->∀x∈l,x∉[q]:=by
 obtain⟨p0,_⟩:=h.part k hT;obtain⟨H2,s1,s2,s3,s4⟩:=eV (p0 hi) zzx (o:=o) (by simpa[fc] using ho) (v:=v) hv;have qp:(lu q a').Pairwise Dj:=by rw[hs];exact KK h.dj hT h.lt cI
 have hTm:=aab hT;have h0:(lu q a')[0]?=some [q]:=rfl;refine⟨H2,s1,by rw[<-aC];exact s2,s3,qp,λl hl j hj=>?_,λl hl j hj=>?_,h.fr T hTm,h.fr [q] (.head _) q (.head _),λlM hl=>(zp qp lM h0 hl).symm⟩
 ·rw[hs] at hl;rcases adT hl with z|rfl;·exact h.fr l z j hj
  ·exact (cI j hj).elim (h.fr T hTm j) λz=>zzz
 ·rw[hs] at hl;have:=s3.1;rcases adT hl with z|rfl;·have:=h.lt l z j hj;have:=k.1;omega
  ·have:=aN j hj;omega
theorem SB.ayV {q:Nat}(h:SB N H q a S)(hN:N<=H.next)(s:Str)(hn:S.aM.length<=1000):
  ∃ax H1 H2 T,(∀i,i=H.next->c8 9 1 [(.str [])] false a.tx (.slice i 0 1 1 true 1) (al H [.str s] 9 0)=some (ax,H1))/\st 1 (.ptr q 2) ax H1=some H2/\SB N H2 q {a with tx:=ax} {S with aM:=S.aM++[s]}/\Out T H H2/\∀j∈T,∃l∈lu q a,j∈l:=by
 obtain⟨ax,H1,p1,p2,p3,p4,p5⟩:=wL (el2:=9) (z:=[(.str [])]) (vs:=[.str s]) h.t rfl rfl zzx (by rw[gQ];simp;omega);obtain⟨q0,q1,q2,q3,q4⟩:=h.part p3 (i:=1) rfl;obtain⟨H2,s1,s2,s3,d1,d2,d3,d4,d5,d6⟩:=h.put (a':={a with tx:=ax}) (S':={S with aM:=S.aM++[s]}) (o:=2) (T':=ak ax) p3 (i:=1) zzx rfl rfl p4 p2.rw.lt hN zzx p5 rfl;obtain⟨r1,r2,r3⟩:=q4 zzx;have m:=λ{x} hx=>d6 (j:=4) zzx rfl x hx;refine⟨ax,H1,H2,ak a.tx++[q],p1,s1,⟨s2,r1.out s3 λj hj=>m (qJ (q:=q) (.inl hj)),?_,(q2 zzx).out s3 (d6 (j:=2) zzx rfl),λi r R hr hR=>(r3 i r R hr hR).out s3 λj hj=>m (qJ (q:=q) (.inr (.inr (ae8.2 ⟨r,aab hr,hj⟩)))),h.len,(q3 zzx).out s3 (d6 (j:=3) zzx rfl),r2.out s3 λj hj=>m (qJ (q:=q) (.inr (.inl hj))),d1,d2,d3⟩,
  (p3.mono λj hj=>aaG _ hj).trans (s3.mono λj hj=>aaw _ hj),λj hj=>(aaQ.1 hj).elim (λz=>⟨_,(.tail _ (.head _)),z⟩) λz=>⟨_,.head _,z⟩⟩
 rw[show strs (S.aM++[s])=strs S.aM++[.str s] by rw[HK];rfl];exact p2.out s3 (d6 (j:=1) zzx rfl)
theorem SB.aun {q:Nat}(h:SB N H q a S)(hN:N<=H.next)(s:Str)(hn:S.fG.length<=1000):
  ∃oU H1 H2 T,(∀i,i=H.next->c8 9 1 [(.str [])] false a.ox (.slice i 0 1 1 true 1) (al H [.str s] 9 0)=some (oU,H1))/\st 1 (.ptr q 4) oU H1=some H2/\SB N H2 q {a with ox:=oU} {S with fG:=S.fG++[s]}/\Out T H H2/\∀j∈T,∃l∈lu q a,j∈l:=by
 obtain⟨oU,H1,p1,p2,p3,p4,p5⟩:=wL (el2:=9) (z:=[(.str [])]) (vs:=[.str s]) h.o rfl rfl zzx (by rw[gQ];simp;omega);obtain⟨q0,q1,q2,q3,q4⟩:=h.part p3 (i:=3) rfl;obtain⟨H2,s1,s2,s3,d1,d2,d3,d4,d5,d6⟩:=h.put (a':={a with ox:=oU}) (S':={S with fG:=S.fG++[s]}) (o:=4) (T':=ak oU) p3 (i:=3) zzx rfl rfl p4 p2.rw.lt hN zzx p5 rfl;obtain⟨r1,r2,r3⟩:=q4 zzx;have m:=λ{x} hx=>d6 (j:=4) zzx rfl x hx;refine⟨oU,H1,H2,ak a.ox++[q],p1,s1,⟨s2,r1.out s3 λj hj=>m (qJ (q:=q) (.inl hj)),(q1 zzx).out s3 (d6 (j:=1) zzx rfl),(q2 zzx).out s3 (d6 (j:=2) zzx rfl),λi r R hr hR=>(r3 i r R hr hR).out s3 λj hj=>m (qJ (q:=q) (.inr (.inr (ae8.2 ⟨r,aab hr,hj⟩)))),h.len,?_,r2.out s3 λj hj=>m (qJ (q:=q) (.inr (.inl hj))),d1,d2,d3⟩,
  (p3.mono λj hj=>aaG _ hj).trans (s3.mono λj hj=>aaw _ hj),λj hj=>(aaQ.1 hj).elim (λz=>⟨_,(.tail _ (.tail _ (.tail _ (.head _)))),z⟩) λz=>⟨_,.head _,z⟩⟩
 rw[show strs (S.fG++[s])=strs S.fG++[.str s] by rw[HK];rfl];exact p2.out s3 (d6 (j:=3) zzx rfl)
theorem flatMap_push (l:List RA)(r:RA):(l++[r]).flatMap RA.fp=l.flatMap RA.fp++r.fp:=by rw[al4];simp
theorem SB.av7 {q:Nat}(h:SB N H q a S)(hN:N<=H.next){r:RA}{R:Rn}(hR:RV H r.dx r.xs r.tx r.sx R)(hf:∀j∈r.fp,N<=j/\∀l∈lu q a,j∉l)(hn:S.rs.length<=1000):
  ∃cn H1 H2 T,(∀i,i=H.next->c8 75 4 zR false a.rx (.slice i 0 1 1 true 4) (al H (iB r R) 75 0)=some (cn,H1))/\st 1 (.ptr q 3) cn H1=some H2/\SB N H2 q {a with rx:=cn,ras:=a.ras++[r]} {S with rs:=S.rs++[R]}/\Out T H H2/\∀j∈T,∃l∈lu q a,j∈l:=by
 obtain⟨cn,H1,p1,p2,p3,p4,p5⟩:=h.r.push (el2:=75) (z:=zR) (vs:=iB r R) (by simp[iB,hR.d.row.one,hR.t.one,hR.s.one,iV]) rfl zzx (by rw[aey];have:=h.len;omega);obtain⟨q0,q1,q2,q3,q4⟩:=h.part p3 (i:=2) rfl;obtain⟨H2,s1,s2,s3,d1,d2,d3,d4,d5,d6⟩:=h.put (a':={a with rx:=cn}) (S':=S) (o:=3) (T':=ak cn) p3 (i:=2) zzx rfl rfl p4 p2.rl.1.lt hN zzx p5 rfl;obtain⟨r1,r2,r3⟩:=q4 zzx;have m:=λ{x} hx=>d6 (j:=4) zzx rfl x hx;have ast:=hR.lt;have lI:=p3.1;have jo:=s3.1;have fq:∀j∈r.fp,j∉ak a.rx/\j≠q:=λj hj=>⟨(hf j hj).2 _ (.tail _ (.tail _ (.head _))),λe=>(hf j hj).2 [q] (.head _) (by rw[e];exact .head _)⟩;have tt:∀j∈r.fp,j<H.next:=λj hj=>ast j hj;have iK:RV H2 r.dx r.xs r.tx r.sx R:=(hR.out p3 λj hj=>(fq j hj).1).out s3 λj hj=>by rw[No];exact (fq j hj).2
 have J2:∀j,j∈ak a.nx++(ak a.kx++(a.ras++[r]).flatMap RA.fp)->j∈ak a.nx++(ak a.kx++a.ras.flatMap RA.fp)\/j∈r.fp:=λj hj=>by
  rw[flatMap_push] at hj;rcases aaQ.1 hj with z|z;·exact .inl (aaG _ z)
  ·rcases aaQ.1 z with z|z;·exact .inl (aaw _ (aaG _ z))
   ·rcases aaQ.1 z with z|z;·exact .inl (aaw _ (aaw _ z))
    ·exact .inr z
 have Ka:lu q {a with rx:=cn,ras:=a.ras++[r]}=(lu q {a with rx:=cn}).set 4 (ak a.nx++(ak a.kx++(a.ras++[r]).flatMap RA.fp)):=rfl;have wu:∀j∈r.fp,∀l∈lu q {a with rx:=cn},j∉l:=λj hj l hl hm=>by
  have e:lu q {a with rx:=cn}=(lu q a).set 2 (ak cn):=rfl;rw[e] at hl;rcases adT hl with z|rfl;·exact (hf j hj).2 l z hm
  ·rcases p4 j hm with z|z;·exact (fq j hj).1 z
   ·have:=tt j hj;omega
 have qp:(lu q {a with rx:=cn,ras:=a.ras++[r]}).Pairwise Dj:=by
  rw[Ka,akW];have hp:=akW.1 d1;have e4:(lu q {a with rx:=cn}).length=5:=rfl;intro i j hi hj lM;rw[adi] at hi hj;rw[List.getElem_set,List.getElem_set];by_cases h1:4=i;·omega
  ·rw[zz1 h1];by_cases h2:4=j
   ·rw[zz2 h2];intro x hx hm;rcases J2 x hm with z|z;·exact (hp i 4 hi (by rw[e4];decide) zzz) x hx z
    ·exact wu x z _ (List.getElem_mem hi) hx
   ·rw[zz1 h2];exact hp i j hi hj lM
 refine⟨cn,H1,H2,ak a.rx++[q],p1,s1,⟨s2,r1.out s3 λj hj=>m (qJ (q:=q) (.inl hj)),(q1 zzx).out s3 (d6 (j:=1) zzx rfl),?_,λi r' R' dH bp=>?_,by simp[h.len],(q3 zzx).out s3 (d6 (j:=3) zzx rfl),r2.out s3 λj hj=>m (qJ (q:=q) (.inr (.inl hj))),qp,λl hl j hj=>?_,λl hl j hj=>?_⟩,
  (p3.mono λj hj=>aaG _ hj).trans (s3.mono λj hj=>aaw _ hj),λj hj=>(aaQ.1 hj).elim (λz=>⟨_,(.tail _ (.tail _ (.head _))),z⟩) λz=>⟨_,.head _,z⟩⟩
 ·rw[show List.zipWith iB (a.ras++[r]) (S.rs++[R])=List.zipWith iB a.ras S.rs++[iB r R] by rw[List.zipWith_append h.len];rfl];exact p2.out s3 (d6 (j:=2) zzx rfl)
 ·by_cases aX:i<a.ras.length;·rw[abi aX] at dH;rw[abi (by rw[<-h.len];exact aX)] at bp;exact (r3 i r' R' dH bp).out s3 λj hj=>m (qJ (q:=q) (.inr (.inr (ae8.2 ⟨r',aab dH,hj⟩))))
  ·rw[abm zzz] at dH;rw[abm (by rw[<-h.len];omega),<-h.len] at bp;have h0:i-a.ras.length=0:=by have:=(aac.1 dH).1;simp at this;omega
   rw[h0] at dH bp;cases dH;cases bp;exact iK
 ·rw[Ka] at hl;rcases adT hl with z|rfl;·exact d2 l z j hj
  ·rcases J2 j hj with z|z;·exact d2 _ (.tail _ (.tail _ (.tail _ (.tail _ (.head _))))) j z
   ·exact (hf j z).1
 ·rw[Ka] at hl;rcases adT hl with z|rfl;·exact d3 l z j hj
  ·rcases J2 j hj with z|z;·exact d3 _ (.tail _ (.tail _ (.tail _ (.tail _ (.head _))))) j z
   ·have:=tt j z;omega
end
end Go.Proofs.YtodfajmihkagnaaGreatDoor.bq
