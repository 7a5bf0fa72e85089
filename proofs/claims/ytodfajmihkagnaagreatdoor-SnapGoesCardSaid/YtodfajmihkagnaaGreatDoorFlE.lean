/- Laws that the proof uses. -/
import Derived.Test.YtodfajmihkagnaaGreatDoorDfD6
import Derived.Test.YtodfajmihkagnaaGreatDoorDfKb
set_option linter.unusedVariables false
set_option linter.unusedSimpArgs false
set_option maxRecDepth 100000
set_option maxHeartbeats 2000000
namespace Go.Proofs.YtodfajmihkagnaaGreatDoor.bD
open Go Am Am.K lD na kJ pf
section
section
section
section
section
section
section
section
theorem PC {text:Str}(h:(aG text).2≠0):(aG text).1=[]:=by
 unfold aG at h⊢;by_cases h1:1024<text.length;·rw[zz2 h1]
 ·rw[zz1 h1] at h⊢;cases lW:qH ((cJ 59 text).map rJ) (cJ 59 text) with
  |none=>rfl|some ts=>
   rw[lW] at h;by_cases h2:jD ts=0;·simp only[zz2 h2] at h;exact absurd rfl h
   ·simp only[zz1 h2]
theorem aar (text:Str):(aG text).1.length<=16/\∀t∈(aG text).1,t.after.length<=16:=by
 by_cases h:(aG text).2=0;·obtain⟨g1,g2,g3,g4,g5,g6⟩:=IL h;exact⟨g3,als g3 g4⟩
 ·rw[PC h];exact⟨aa7 _,λt ht=>by cases ht⟩
theorem adh (f:Fm)(s:Str):(tJ f s).length<=16/\∀t∈tJ f s,t.after.length<=16:=by
 unfold tJ;cases eE f.aM s with
 |none=>exact⟨aa7 _,λt ht=>by cases ht⟩|some t=>exact aar t
noncomputable def Hc (f:Fm)(e:Ev):Fm×Int:=
 match eE f.aM e.nm with
 |none=>(f,4)|some t=>if e.ky≠[]/\(mY f.ks (e.nm,e.ky)).isSome=true then (f,5) else if f.aw.length=64 then (f,6) else if e.rn≠(f.aw.length:Int)+1 then (f,1) else
  if (bh (aG t).1).2≠0 then (f,(bh (aG t).1).2) else
  ({f with aw:=f.aw++[((bh (aG t).1).1,e.nm)],ks:=if e.ky=[] then f.ks else f.ks++[((e.nm,e.ky),e.rn)]},0)
theorem aD8 {H:Hp}{p:Nat}{a:FA}{f:Fm}(h:FL H p a f)(hg:Gl H)(hk:f.ks.length<128)(hr:f.aw.length<=64)(e:Ev):
  ∃a' H',cK (zf 41) [.ptr p 0,.agg (aQ e)] H=some (zi (Hc f e).2,H')/\FL H' p a' (Hc f e).1/\FSt H H' p a a':=by
 have aO:bx 26 (.agg (aQ e)) H=some (H.next,al H (aQ e) 26 0):=iw (by rw[tD];omega);have o1:=aD H (aQ e) 26 0;have c1:=aP H (aQ e) 26 0;have n1:(al H (aQ e) 26 0).next=H.next+1:=rfl;generalize al H (aQ e) 26 0=H1 at*
 have h1:=h.au o1;have E1:cellAt H1 H.next 1=some (zi e.rn):=c1.cellAt rfl;have E5:cellAt H1 H.next 5=some (.str e.nm):=c1.cellAt rfl;have E6:cellAt H1 H.next 6=some (.str e.ky):=c1.cellAt rfl;obtain⟨dx,xs,H2,p1,p2,p3,p4⟩:=aiu h1 (hg.au o1) e.nm;have fX:=p2.row.one;have o3:=aD H2 [dx] 72 0;have c3:=aP H2 [dx] 72 0;have n3:(al H2 [dx] 72 0).next=H2.next+1:=rfl;have aC:st 1 (.ptr H2.next 0) (dv dx) (al H2 [.ah] 72 0)=some (al H2 [dx] 72 0):=gJ (by simp[fX]) rfl rfl zzx rfl;generalize iB:al H2 [dx] 72 0=H3 at*
 have h3:=(h1.au p3).au o3;have gh:=(o1.trans p3).trans o3;have XS:=(c1.out p3 zzy).out o3 zzy;obtain⟨H4,q1,q2⟩:=aA9 h3 e.nm e.ky;have h4:=h3.au q2;have gw:=gh.trans q2;have RY:=XS.out q2 zzy;have F5:cellAt H3 H.next 5=some (.str e.nm):=XS.cellAt rfl;have F6:cellAt H3 H.next 6=some (.str e.ky):=XS.cellAt rfl;have G1:cellAt H4 H.next 1=some (zi e.rn):=RY.cellAt rfl;have G6:cellAt H4 H.next 6=some (.str e.ky):=RY.cellAt rfl;have k3:cellAt H4 p 3=some a.rx:=h4.c.cellAt rfl;have fT:=h4.JS;unfold Hc;unfold tJ at p2;cases hs:eE f.aM e.nm with
 |none=>
  rw[hs] at p1;refine⟨a,H4,Au ?_,h4,FSt.same gw p a⟩;unfold zX;simp(disch:=try exact zqz)only[aO,E5,p1,aC,F5,F6,q1,agw,ar,aq,zz0,simprocAttr]
 |some t=>
  rw[hs] at p1 p2;simp only at p2⊢;by_cases Kn:e.ky=[]
  ·have b1:(!(e.ky==[]))=false:=by simp[Kn]
   rw[zz1 (by simp[Kn])];by_cases kH:f.aw.length=64
   ·have b2:(((f.aw.length:Nat):Int)==64)=true:=by simp[kH]
    rw[zz2 kH];refine⟨a,H4,Au ?_,h4,FSt.same gw p a⟩;unfold zX;simp(disch:=try exact zqz)only[aO,E5,p1,aC,F5,F6,q1,agz,G6,b1,k3,fT,b2,ar,aq,zz0,simprocAttr]
   ·have b2:(((f.aw.length:Nat):Int)==64)=false:=by rw[zz9];omega
    rw[zz1 kH];have hw:IntKind.wrap .i64 (((f.aw.length:Nat):Int)+1)=((f.aw.length:Nat):Int)+1:=wrap_i64 zzz zzz;by_cases iR:e.rn=(f.aw.length:Int)+1
    ·have b3:(e.rn != ((f.aw.length:Nat):Int)+1)=false:=by simp[iR]
     rw[zz1 (by simp[iR])];have hb:=aar t;have k5:av H4 H2.next 0 1=some [dx]:=(c3.out q2 zzy).av 1 0 zzy;obtain⟨ay,aT,ax,aA,H5,r1,r2,r3,r4⟩:=UG ((p2.au o3).au q2) (by have:=hb.1;omega) (λu hu=>by have:=hb.2 u hu;omega);have o6:=aD H5 (rv ay (bh (aG t).1).1.st ax aA) 75 0;have c6:=aP H5 (rv ay (bh (aG t).1).1.st ax aA) 75 0;have n6:(al H5 (rv ay (bh (aG t).1).1.st ax aA) 75 0).next=H5.next+1:=rfl;have wY:st 4 (.ptr H5.next 0) (.agg (rv ay (bh (aG t).1).1.st ax aA)) (al H5 [.ah,(zi 0),.ah,.ah] 75 0)=some (al H5 (rv ay (bh (aG t).1).1.st ax aA) 75 0):=gJ (by simp[r2.v.d.row.one,r2.t.rl.one,r2.s.lr,iS]) rfl rfl zzx rfl;generalize hA6:al H5 (rv ay (bh (aG t).1).1.st ax aA) 75 0=H6 at*
     have h6:=(h4.au r3).au o6;have Ga:=(gw.trans r3).trans o6;by_cases he:(bh (aG t).1).2=0
     ·have b4:((bh (aG t).1).2 != 0)=false:=by simp[he]
      rw[zz1 (by simp[he]),zz2 Kn];have m3:cellAt H6 p 3=some a.rx:=h6.c.cellAt rfl;have m4:av H6 H5.next 0 4=some (rv ay (bh (aG t).1).1.st ax aA):=c6.av 4 0 zzy;have FW:=(RY.out r3 zzy).out o6 zzy;have m5:cellAt H6 H.next 5=some (.str e.nm):=FW.cellAt rfl;have OX:RV H6 ay aT ax aA (bh (aG t).1).1:=r2.v.au o6;have tc:∀j∈(RA.mk ay aT ax aA).fp,j∉own p a:=λj hj q=>by have:=r4 j hj;have:=h4.lt j q;omega
      obtain⟨eH,H7,H8,a1,a2,a3,a4,a5,a6,a7⟩:=h6.ZT (r':=⟨ay,aT,ax,aA⟩) (x:=((bh (aG t).1).1,e.nm)) OX tc zzz;have G4:=a1 H6.next rfl;have f1:fl [.ah,(zi 0),.ah,.ah,(.str [])] [(0,4,.agg (rv ay (bh (aG t).1).1.st ax aA)),(4,1,.str e.nm)]=some (bJ ⟨ay,aT,ax,aA⟩ ((bh (aG t).1).1,e.nm)):=by rw[Ai (l:=rv ay (bh (aG t).1).1.st ax aA) (n:=4) rfl zzy,yW rfl zzy,pz];rfl
      have f2:fl [.ah,(zi 0),.ah,.ah,(.str [])] [(0,5,.agg (bJ ⟨ay,aT,ax,aA⟩ ((bh (aG t).1).1,e.nm)))]=some (bJ ⟨ay,aT,ax,aA⟩ ((bh (aG t).1).1,e.nm)):=by rw[Ai (l:=bJ ⟨ay,aT,ax,aA⟩ ((bh (aG t).1).1,e.nm)) (n:=5) rfl zzy,pz];rfl
      have cF:az H6 (bJ ⟨ay,aT,ax,aA⟩ ((bh (aG t).1).1,e.nm)) 77 0=some (H6.next,al H6 (bJ ⟨ay,aT,ax,aA⟩ ((bh (aG t).1).1,e.nm)) 77 0):=eh (by simp[bJ]);have m6:cellAt (al H6 (bJ ⟨ay,aT,ax,aA⟩ ((bh (aG t).1).1,e.nm)) 77 0) p 3=some a.rx:=by rw[xz h6.c.1];exact m3
      have ot:=lN h6.r.1.rw;have Mq:H.next∉own p a:=λq=>by have:=h.lt _ q;omega
      have m8:cellAt H8 H.next 6=some (.str e.ky):=(FW.out a4 Mq).cellAt rfl;have sA:FSt H H8 p a {a with rx:=eH,ras:=a.ras++[⟨ay,aT,ax,aA⟩]}:=by have:=gw.1;have:=Ga.1;exact⟨(Ga.mono λj hj=>by cases hj).trans a4,λj hj=>(a5 j hj).imp (λq=>q) λq=>zzz,λj hj=>(a6 j hj).imp (λq=>q) λq=>by have:=r4 j q;omega⟩
      refine⟨_,H8,Au ?_,a3,sA⟩;unfold zX;simp(disch:=try exact zqz)only[aO,E5,p1,aC,F5,F6,q1,agz,G6,b1,k3,fT,b2,G1,hw,b3,k5,r1,wY,b4,m3,m4,m5,f1,f2,cF,G4,a2,m6,eG ot,m8,ar,aq,zz0,simprocAttr]
     ·have b4:((bh (aG t).1).2 != 0)=true:=by simp[he]
      rw[zz2 he];refine⟨a,H6,Au ?_,h6,FSt.same Ga p a⟩;unfold zX;simp(disch:=try exact zqz)only[aO,E5,p1,aC,F5,F6,q1,agz,G6,b1,k3,fT,b2,G1,hw,b3,k5,r1,wY,b4,ar,aq,zz0,simprocAttr]
    ·have b3:(e.rn != ((f.aw.length:Nat):Int)+1)=true:=by simp[iR]
     rw[zz2 iR];refine⟨a,H4,Au ?_,h4,FSt.same gw p a⟩;unfold zX;simp(disch:=try exact zqz)only[aO,E5,p1,aC,F5,F6,q1,agz,G6,b1,k3,fT,b2,G1,hw,b3,ar,aq,zz0,simprocAttr]
  ·have b1:(!(e.ky==[]))=true:=by simp[Kn]
   cases Kl:mY f.ks (e.nm,e.ky) with
   |some Tn=>
    rw[zz2 ⟨Kn,rfl⟩];rw[Kl] at q1;refine⟨a,H4,Au ?_,h4,FSt.same gw p a⟩;unfold zX;simp(disch:=try exact zqz)only[aO,E5,p1,aC,F5,F6,q1,agz,af7,G6,b1,ar,aq,zz0,simprocAttr]
   |none=>
   rw[zz1 zzy];rw[Kl] at q1;by_cases kH:f.aw.length=64
   ·have b2:(((f.aw.length:Nat):Int)==64)=true:=by simp[kH]
    rw[zz2 kH];refine⟨a,H4,Au ?_,h4,FSt.same gw p a⟩;unfold zX;simp(disch:=try exact zqz)only[aO,E5,p1,aC,F5,F6,q1,agz,agw,G6,b1,k3,fT,b2,ar,aq,zz0,simprocAttr]
   ·have b2:(((f.aw.length:Nat):Int)==64)=false:=by rw[zz9];omega
    rw[zz1 kH];have hw:IntKind.wrap .i64 (((f.aw.length:Nat):Int)+1)=((f.aw.length:Nat):Int)+1:=wrap_i64 zzz zzz;by_cases iR:e.rn=(f.aw.length:Int)+1
    ·have b3:(e.rn != ((f.aw.length:Nat):Int)+1)=false:=by simp[iR]
     rw[zz1 (by simp[iR])];have hb:=aar t;have k5:av H4 H2.next 0 1=some [dx]:=(c3.out q2 zzy).av 1 0 zzy;obtain⟨ay,aT,ax,aA,H5,r1,r2,r3,r4⟩:=UG ((p2.au o3).au q2) (by have:=hb.1;omega) (λu hu=>by have:=hb.2 u hu;omega);have o6:=aD H5 (rv ay (bh (aG t).1).1.st ax aA) 75 0;have c6:=aP H5 (rv ay (bh (aG t).1).1.st ax aA) 75 0;have n6:(al H5 (rv ay (bh (aG t).1).1.st ax aA) 75 0).next=H5.next+1:=rfl;have wY:st 4 (.ptr H5.next 0) (.agg (rv ay (bh (aG t).1).1.st ax aA)) (al H5 [.ah,(zi 0),.ah,.ah] 75 0)=some (al H5 (rv ay (bh (aG t).1).1.st ax aA) 75 0):=gJ (by simp[r2.v.d.row.one,r2.t.rl.one,r2.s.lr,iS]) rfl rfl zzx rfl;generalize hA6:al H5 (rv ay (bh (aG t).1).1.st ax aA) 75 0=H6 at*
     have h6:=(h4.au r3).au o6;have Ga:=(gw.trans r3).trans o6;by_cases he:(bh (aG t).1).2=0
     ·have b4:((bh (aG t).1).2 != 0)=false:=by simp[he]
      rw[zz1 (by simp[he]),zz1 Kn];have m3:cellAt H6 p 3=some a.rx:=h6.c.cellAt rfl;have m4:av H6 H5.next 0 4=some (rv ay (bh (aG t).1).1.st ax aA):=c6.av 4 0 zzy;have FW:=(RY.out r3 zzy).out o6 zzy;have m5:cellAt H6 H.next 5=some (.str e.nm):=FW.cellAt rfl;have OX:RV H6 ay aT ax aA (bh (aG t).1).1:=r2.v.au o6;have tc:∀j∈(RA.mk ay aT ax aA).fp,j∉own p a:=λj hj q=>by have:=r4 j hj;have:=h4.lt j q;omega
      obtain⟨eH,H7,H8,a1,a2,a3,a4,a5,a6,a7⟩:=h6.ZT (r':=⟨ay,aT,ax,aA⟩) (x:=((bh (aG t).1).1,e.nm)) OX tc zzz;have G4:=a1 H6.next rfl;have f1:fl [.ah,(zi 0),.ah,.ah,(.str [])] [(0,4,.agg (rv ay (bh (aG t).1).1.st ax aA)),(4,1,.str e.nm)]=some (bJ ⟨ay,aT,ax,aA⟩ ((bh (aG t).1).1,e.nm)):=by rw[Ai (l:=rv ay (bh (aG t).1).1.st ax aA) (n:=4) rfl zzy,yW rfl zzy,pz];rfl
      have f2:fl [.ah,(zi 0),.ah,.ah,(.str [])] [(0,5,.agg (bJ ⟨ay,aT,ax,aA⟩ ((bh (aG t).1).1,e.nm)))]=some (bJ ⟨ay,aT,ax,aA⟩ ((bh (aG t).1).1,e.nm)):=by rw[Ai (l:=bJ ⟨ay,aT,ax,aA⟩ ((bh (aG t).1).1,e.nm)) (n:=5) rfl zzy,pz];rfl
      have cF:az H6 (bJ ⟨ay,aT,ax,aA⟩ ((bh (aG t).1).1,e.nm)) 77 0=some (H6.next,al H6 (bJ ⟨ay,aT,ax,aA⟩ ((bh (aG t).1).1,e.nm)) 77 0):=eh (by simp[bJ]);have m6:cellAt (al H6 (bJ ⟨ay,aT,ax,aA⟩ ((bh (aG t).1).1,e.nm)) 77 0) p 3=some a.rx:=by rw[xz h6.c.1];exact m3
      have ot:=lN h6.r.1.rw;have Mq:H.next∉own p a:=λq=>by have:=h.lt _ q;omega
      have m8:cellAt H8 H.next 6=some (.str e.ky):=(FW.out a4 Mq).cellAt rfl;have sA:FSt H H8 p a {a with rx:=eH,ras:=a.ras++[⟨ay,aT,ax,aA⟩]}:=by have:=gw.1;have:=Ga.1;exact⟨(Ga.mono λj hj=>by cases hj).trans a4,λj hj=>(a5 j hj).imp (λq=>q) λq=>zzz,λj hj=>(a6 j hj).imp (λq=>q) λq=>by have:=r4 j q;omega⟩
      have m1:cellAt H8 H.next 1=some (zi e.rn):=(FW.out a4 Mq).cellAt rfl;have m9:cellAt H8 H.next 5=some (.str e.nm):=(FW.out a4 Mq).cellAt rfl;have m0:cellAt H8 p 4=some (.ptr a.kp 0):=a3.c.cellAt rfl;have f3:fl [(.str []),(.str [])] [(0,1,.str e.nm),(1,1,.str e.ky)]=some (bP (e.nm,e.ky)):=rfl;obtain⟨xu,H9,y1,y2,y3⟩:=a3.iY hk Kl e.rn;have Js:cK (zf 33) [.ptr a.kp 0,.agg (bP (e.nm,e.ky)),zi e.rn] H8=some (.tuple [zi e.rn,.bool true],H9):=y1;refine⟨_,H9,Au ?_,y2,sA.trans y3⟩;unfold zX;simp(disch:=try exact zqz)only[aO,E5,p1,aC,F5,F6,q1,agz,agw,G6,b1,k3,fT,b2,G1,hw,b3,k5,r1,wY,b4,m3,m4,m5,f1,f2,cF,G4,a2,m6,eG ot,m8,m1,m9,m0,f3,Js,ar,aq,zz0,simprocAttr]
     ·have b4:((bh (aG t).1).2 != 0)=true:=by simp[he]
      rw[zz2 he];refine⟨a,H6,Au ?_,h6,FSt.same Ga p a⟩;unfold zX;simp(disch:=try exact zqz)only[aO,E5,p1,aC,F5,F6,q1,agz,agw,G6,b1,k3,fT,b2,G1,hw,b3,k5,r1,wY,b4,ar,aq,zz0,simprocAttr]
    ·have b3:(e.rn != ((f.aw.length:Nat):Int)+1)=true:=by simp[iR]
     rw[zz2 iR];refine⟨a,H4,Au ?_,h4,FSt.same gw p a⟩;unfold zX;simp(disch:=try exact zqz)only[aO,E5,p1,aC,F5,F6,q1,agz,agw,G6,b1,k3,fT,b2,G1,hw,b3,ar,aq,zz0,simprocAttr]
def lX (now:Int)(R:Rn)(i:Nat):Rn:=match R.rs[i]?,R.ts[i]? with
 |some t,some d=>if R.st≠0\/now<t.fH then R else if t.ph=2 then nw R i t d now else if t.ph=5 then {R with rs:=R.rs.set i {t with ph:=1,fH:=0} } else R
 |_,_=>R
def zv (now:Int):Nat->Nat->Rn->Rn
 |0,_,R=>R|m+1,i,R=>zv now m (i+1) (lX now R i)
def Bk (R:Rn)(now:Int):Rn:=zv now R.rs.length 0 R
section
variable {i:Nat}{now:Int}
theorem mem_set {rs:List RT}{u v:RT}(h:v∈rs.set i u):v∈rs\/v=u:=adt h
theorem aIg {R:Rn}{t:RT}{d:Tk}(ht:R.rs[i]?=some t)(hk:oD R)(hb:yq R):oD (nw R i t d now)/\yq (nw R i t d now)/\(nw R i t d now).ts=R.ts/\(nw R i t d now).sg=R.sg/\(nw R i t d now).rs.length=R.rs.length:=by
 have hbt:=hb.t t (aac ht);unfold nw;split
 ·refine⟨hk.set i _,⟨hb.d,λu hu=>?_⟩,rfl,rfl,acV⟩;rcases mem_set hu with hu|rfl;·exact hb.t u hu
  ·exact hbt
 ·have h1:=hk.set i {t with ph:=4,fH:=0};refine⟨⟨⟨h1.sm.n,h1.sm.a,h1.sm.r,h1.sm.s⟩,h1.len,h1.lu⟩,⟨hb.d,λu hu=>?_⟩,rfl,rfl,acV⟩;rcases mem_set hu with hu|rfl;·exact hb.t u hu
  ·exact hbt
theorem aGV {R:Rn}(hk:oD R)(hb:yq R):oD (lX now R i)/\yq (lX now R i)/\(lX now R i).ts=R.ts/\(lX now R i).sg=R.sg/\(lX now R i).rs.length=R.rs.length:=by
 unfold lX;split
 ·rename_i t d ht hd;split;·exact⟨hk,hb,rfl,rfl,rfl⟩
  ·split;·exact aIg ht hk hb
   ·split
    ·refine⟨hk.set i _,⟨hb.d,λu hu=>?_⟩,rfl,rfl,acV⟩;rcases mem_set hu with hu|rfl;·exact hb.t u hu
     ·exact hb.t t (aac ht)
    ·exact⟨hk,hb,rfl,rfl,rfl⟩
 ·exact⟨hk,hb,rfl,rfl,rfl⟩
theorem alJ {dx tx sx bU:AV}{xs:List AV}{P n:Nat}{now:Int}(hn:n<=1000)(hp:P∉pw dx xs tx sx):∀(m i:Nat) (H:Hp) (R:Rn),i+m=n->R.rs.length=n->Cs H P (rv dx R.st tx sx) 75 0->RO H dx xs tx sx R->oD R->yq R->
  ∃H',(∀eD:K.Fn 2,Kk JN GO cK eD (zi now) (.ptr P 0) bU (zi (n:Nat)) (zi (i:Nat)) H=eD (.ptr P 0) bU H')/\Cs H' P (rv dx (zv now m i R).st tx sx) 75 0/\RO H' dx xs tx sx (zv now m i R)/\Out (P::ak tx) H H'
 |0,i,H,R,hm,hl,hC,hO,hk,hb=>by obtain rfl:i=n:=zzz;refine⟨H,λeD=>?_,hC,hO,Out.refl _ _⟩;rw[Ic];simp only[FY,df,zz0,simprocAttr]
 |m+1,i,H,R,hm,hl,hC,hO,hk,hb=>by
  have h1:i<n:=zzz;have es:=dC h1 zzz;have ht:R.rs[i]?=some (R.rs[i]' zzz):=aaC _;have aR:R.ts.length=n:=by rw[<-hk.len];exact hl
  have hd:R.ts[i]?=some (R.ts[i]' zzz):=aaC _;have kp:=aGV (i:=i) (now:=now) hk hb;have hA:lX now R i=(if R.st≠0\/now<(R.rs[i]' zzz).fH then R else if (R.rs[i]' zzz).ph=2 then nw R i (R.rs[i]' zzz) (R.ts[i]' zzz) now else if (R.rs[i]' zzz).ph=5 then {R with rs:=R.rs.set i {(R.rs[i]' zzz) with ph:=1,fH:=0} } else R):=by unfold lX;rw[ht,hd]
  generalize R.rs[i]' zzz=t at*
  generalize R.ts[i]' zzz=d at*
  have c1:cellAt H P 1=some (zi R.st):=hC.cellAt rfl;have c2:cellAt H P 2=some tx:=hC.cellAt rfl;obtain⟨b,o,q1,q2,q3,q4,q5⟩:=hO.v.t.at zzx (sP ht);have r0:cellAt H b o=some (zi t.ph):=by have:=q5 0 _ (Eo t).1;rwa[aed] at this
  have r2:cellAt H b (o+2)=some (zi t.fH):=q5 2 _ (Eo t).2.2.1;have aV:=(aag.1 ht).1;show ∃H',(∀eD:K.Fn 2,_)/\Cs H' P (rv dx (zv now m (i+1) (lX now R i)).st tx sx) 75 0/\RO H' dx xs tx sx (zv now m (i+1) (lX now R i))/\Out (P::ak tx) H H';have go:∀(H1:Hp),Cs H1 P (rv dx (lX now R i).st tx sx) 75 0->RO H1 dx xs tx sx (lX now R i)->Out (P::ak tx) H H1->(∀H':Hp,(∀eD:K.Fn 2,Kk JN GO cK eD (zi now) (.ptr P 0) bU (zi (n:Nat)) (zi ((i+1:Nat):Int)) H1=eD (.ptr P 0) bU H')->∀eD:K.Fn 2,Kk JN GO cK eD (zi now) (.ptr P 0) bU (zi (n:Nat)) (zi (i:Nat)) H=eD (.ptr P 0) bU H')->
    ∃H',(∀eD:K.Fn 2,Kk JN GO cK eD (zi now) (.ptr P 0) bU (zi (n:Nat)) (zi (i:Nat)) H=eD (.ptr P 0) bU H')/\Cs H' P (rv dx (zv now m (i+1) (lX now R i)).st tx sx) 75 0/\RO H' dx xs tx sx (zv now m (i+1) (lX now R i))/\Out (P::ak tx) H H':=by
   intro H1 a1 a2 a3 a4;obtain⟨H',i1,i2,i3,i4⟩:=alJ (bU:=bU) hn hp m (i+1) H1 (lX now R i) zzz (kp.2.2.2.2.trans hl) a1 a2 kp.1 kp.2.1;exact⟨H',a4 H' i1,i2,i3,a3.trans i4⟩
  clear kp;by_cases h0:R.st=0
  ·have d0:(R.st != 0)=false:=by simp[h0]
   by_cases h2:now<t.fH;·have d2:decide (now<t.fH)=true:=zz3 h2;rw[zz2 (.inr h2)] at hA;rw[hA] at go⊢;refine go H hC hO (Out.refl _ _) λH' i1 eD=>?_;rw[Ic];simp(disch:=try exact zqz)only[FY,aN h1,c1,c2,q1,d0,r2,d2,es,i1,ar,aq,zz0,simprocAttr]
   ·have d2:decide (now<t.fH)=false:=zz4 h2;rw[zz1 (λq=>q.elim (λz=>z h0) h2)] at hA;by_cases h3:t.ph=2
    ·have d3:(t.ph==2)=true:=by simp[h3]
     rw[zz2 h3] at hA;rw[hA] at go⊢;have bd:=hb.d d (aac hd);have bt:=hb.t t (aac ht);obtain⟨H1,f1,f2,f3,f4⟩:=adL hC hO hp ht hd bd.1 bd.2 bt.1 bt.2 now;refine go H1 f2 f3 f4 λH' i1 eD=>?_;rw[Ic];simp(disch:=try exact zqz)only[FY,aN h1,c1,c2,q1,d0,r2,d2,r0,d3,f1,es,i1,ar,aq,zz0,simprocAttr]
    ·have d3:(t.ph==2)=false:=by simp[h3]
     rw[zz1 h3] at hA;by_cases h5:t.ph=5
     ·have d5:(t.ph==5)=true:=by simp[h5]
      rw[zz2 h5] at hA;rw[hA] at go⊢;obtain⟨H2,w1,w2,w3,w4⟩:=hO.t.ff (k:=0) (v:=zi 1) (sP ht) q1 rfl zzx;have e2:((eL R.rs).set i ((dT t).set 0 (zi 1)))[i]?=some ((dT t).set 0 (zi 1)):=aeH (by rw[AJ];exact aV);obtain⟨H3,v1,v2,v3,v4⟩:=w2.ff (k:=2) (v:=zi 0) e2 q1 rfl zzx;rw[List.set_set] at v2;have fY:((dT t).set 0 (zi 1)).set 2 (zi 0)=dT {t with ph:=1,fH:=0}:=rfl;rw[fY,P3] at v2;rw[aed] at w1;have o3:=w3.trans v3;have BT:P∉ak tx:=λz=>hp (aaT _ (aa1 _ z));refine go H3 (hC.out o3 BT) (hO.cW v2 o3) (o3.mono λj hj=>.tail _ hj) λH' i1 eD=>?_;rw[Ic];simp(disch:=try exact zqz)only[FY,aN h1,c1,c2,q1,d0,r2,d2,r0,d3,d5,w1,v1,es,i1,ar,aq,zz0,simprocAttr]
     ·have d5:(t.ph==5)=false:=by simp[h5]
      rw[zz1 h5] at hA;rw[hA] at go⊢;refine go H hC hO (Out.refl _ _) λH' i1 eD=>?_;rw[Ic];simp(disch:=try exact zqz)only[FY,aN h1,c1,c2,q1,d0,r2,d2,r0,d3,d5,es,i1,ar,aq,zz0,simprocAttr]
  ·have d0:(R.st != 0)=true:=by simp[h0]
   rw[zz2 (.inl h0)] at hA;rw[hA] at go⊢;refine go H hC hO (Out.refl _ _) λH' i1 eD=>?_;rw[Ic];simp(disch:=try exact zqz)only[FY,aN h1,c1,c2,q1,d0,es,i1,ar,aq,zz0,simprocAttr]
theorem aH1 {H:Hp}{dx tx sx:AV}{xs:List AV}{R:Rn}(h:RV H dx xs tx sx R)(hk:oD R)(hb:yq R)(now:Int):
  ∃ay aT ax aA H',cK (zf 77) [.agg (rv dx R.st tx sx),zi now] H=some (.agg (rv ay (Bk R now).st ax aA),H')/\RO H' ay aT ax aA (Bk R now)/\Out [] H H'/\∀j∈pw ay aT ax aA,H.next<=j:=by
 have aO:bx 75 (.agg (rv dx R.st tx sx)) H=some (H.next,al H (rv dx R.st tx sx) 75 0):=iw zzy;have o1:=aD H (rv dx R.st tx sx) 75 0;have c1:=aP H (rv dx R.st tx sx) 75 0;have n1:(al H (rv dx R.st tx sx) 75 0).next=H.next+1:=rfl;generalize al H (rv dx R.st tx sx) 75 0=H1 at*
 have o2:=aD H1 zR 75 0;have c2:=aP H1 zR 75 0;have n2:(al H1 zR 75 0).next=H.next+2:=by rw[bT,n1]
 rw[n1] at c2;generalize bq:al H1 zR 75 0=H2 at*
 have bF:=o1.trans o2;have mc:=c1.out o2 zzy;have k1:av H2 H.next 0 4=some (rv dx R.st tx sx):=mc.av 4 0 zzy;obtain⟨ay,aT,ax,aA,H4,r1,r2,r3,r4⟩:=DW (h.au bF) hk.sm;have n4:=r3.nx;have xn:∀z:Int,(rv ay z ax aA).all aZ=true:=λz=>by simp[r2.v.d.row.one,r2.t.rl.one,r2.s.lr,iS]
 obtain⟨H5,s1,s2,s3,s4⟩:=iC (n:=4) (vs:=rv ay R.st ax aA) (mc.out r3 zzy) rfl rfl (xn _);have fr:∀m,m<H.next+2->∀j∈pw ay aT ax aA,j∉[m]:=λm hm j hj=>by rw[No];have:=r4 j hj;omega
 have R5:=r2.out s3 (fr _ zzz);have AS:∀m,m<H.next+2->m∉ak ax:=λm hm z=>by have:=r4 m (aaT _ (aa1 _ z));omega
 have hr:=hk.sm.r;obtain⟨H7,t1,t2,t3,t4⟩:=alJ (bU:=.ptr (H.next+1) 0) (P:=H.next) (now:=now) hr (λz=>by have:=r4 _ z;omega) R.rs.length 0 H5 R zzz rfl s2 R5 hk hb;rw[show (((0:Nat):Int))=0 from rfl] at t1;have P2:Cs H7 H.next (rv ay (Bk R now).st ax aA) 75 0:=t2;have Td:RO H7 ay aT ax aA (Bk R now):=t3;have Nd:∀m,m<H.next+2->m≠H.next->m∉H.next::ak ax:=λm hm aF z=>(aaD.1 z).elim aF (AS m hm);have K3:=((c2.out r3 zzy).out s3 (by rw[No];omega)).out t4 (Nd _ zzz zzz);have k5:cellAt H5 H.next 2=some ax:=s2.cellAt rfl;have tl:=R5.v.an6;have k7:av H7 H.next 0 4=some (rv ay (Bk R now).st ax aA):=P2.av 4 0 zzy;obtain⟨H8,w1,w2,w3,w4⟩:=iC (n:=4) (vs:=rv ay (Bk R now).st ax aA) K3 rfl rfl (xn _);have k8:av H8 (H.next+1) 0 4=some (rv ay (Bk R now).st ax aA):=w2.av 4 0 zzy;have uS:∀j∈ak ax,H.next<=j:=λj hj=>by have:=r4 j (aaT _ (aa1 _ hj));omega
 have out:=eR (eR (eR (bF.trans r3) s3 (ll (aaO _))) t4 (λj hj=>(aaD.1 hj).elim (λe=>zzz) (uS j))) w3 (ll (agN _));refine⟨ay,aT,ax,aA,H8,ar5 ?_,Td.out w3 (fr _ zzz),out,λj hj=>by have:=r4 j hj;omega⟩;unfold al5;simp(disch:=try exact zqz)only[aO,n1,bq,k1,r1,s1,k5,tl,t1,k7,w1,k8,ar,aq,zz0,simprocAttr]
end
def yU (R:Rn):Rn×Int:=if R.st≠0 then (tt,9) else ({R with st:=3},0)
section
variable {H:Hp}{a:FA}{f:Fm}{i:Nat}{now:Int}{x:Rn×Str}
theorem ax2 {dx tx sx:AV}{xs:List AV}{R:Rn}(h:RV H dx xs tx sx R)(hk:oD R):
  qi (zf 82) [.agg (rv dx R.st tx sx)] H (yU R).1 (yU R).2:=by
 have aO:bx 75 (.agg (rv dx R.st tx sx)) H=some (H.next,al H (rv dx R.st tx sx) 75 0):=iw zzy;have o1:=aD H (rv dx R.st tx sx) 75 0;have c1:=aP H (rv dx R.st tx sx) 75 0;have n1:(al H (rv dx R.st tx sx) 75 0).next=H.next+1:=rfl;generalize al H (rv dx R.st tx sx) 75 0=H1 at*
 have o2:=aD H1 zR 75 0;have c2:=aP H1 zR 75 0;have n2:(al H1 zR 75 0).next=H.next+2:=by rw[bT,n1]
 rw[n1] at c2;generalize bq:al H1 zR 75 0=H2 at*
 have bF:=o1.trans o2;have mc:=c1.out o2 zzy;have k1:cellAt H2 H.next 1=some (zi R.st):=mc.cellAt rfl;have k4:av H2 H.next 0 4=some (rv dx R.st tx sx):=mc.av 4 0 zzy;unfold yU;by_cases h0:R.st=0
 ·have d0:(R.st != 0)=false:=by simp[h0]
  rw[zz1 (by simp[h0])];obtain⟨ay,aT,ax,aA,H3,r1,r2,r3,r4⟩:=DW (h.au bF) hk.sm;obtain⟨H4,s1,s2,s3,s4⟩:=iC (n:=4) (vs:=rv ay R.st ax aA) (mc.out r3 zzy) rfl rfl (by simp[r2.v.d.row.one,r2.t.rl.one,r2.s.lr,iS]);obtain⟨H5,t1,t2,t3,t4⟩:=ff s2 zzx (o:=1) zzy (v:=zi 3) rfl;have fY:(rv ay R.st ax aA).set 1 (zi 3)=rv ay 3 ax aA:=rfl;rw[fY] at t2;have k5:av H5 H.next 0 4=some (rv ay 3 ax aA):=t2.av 4 0 zzy;have aF:H.next+1∉[H.next]:=by rw[No];omega
  have cQ:=((c2.out r3 zzy).out s3 aF).out t3 aF;obtain⟨H6,u1,u2,u3,u4⟩:=iC (n:=4) (vs:=rv ay 3 ax aA) cQ rfl rfl (by simp[r2.v.d.row.one,r2.t.rl.one,r2.s.lr,iS]);have k6:av H6 (H.next+1) 0 4=some (rv ay 3 ax aA):=u2.av 4 0 zzy;have fr:∀m,m<H.next+2->∀j∈pw ay aT ax aA,j∉[m]:=λm hm j hj=>by rw[No];have:=r4 j hj;omega
  have R6:=((r2.out s3 (fr _ zzz)).out t3 (fr _ zzz)).out u3 (fr _ zzz);have out:=eR (eR (eR (bF.trans r3) s3 (ll (aaO _))) t3 (ll (aaO _))) u3 (ll (agN _));refine⟨ay,aT,ax,aA,H6,am8 ?_,⟨⟨R6.v.d,R6.v.t,R6.v.s⟩,R6.t,R6.s,R6.dt,R6.ds⟩,out,λj hj=>by have:=r4 j hj;omega⟩;unfold Yy;simp(disch:=try exact zqz)only[aO,n1,bq,k1,d0,k4,r1,s1,t1,k5,u1,k6,ar,aq,zz0,simprocAttr]
 ·have d0:(R.st != 0)=true:=by simp[h0]
  rw[zz2 h0];have k5:av H2 (H.next+1) 0 4=some zR:=c2.av 4 0 zzy;refine qi.err (H1:=H2) (m:=H.next+1) (am8 (?_:_=some (_,H2))) bF (Out.refl _ _) (agN _);have hz:st 4 (.ptr (H.next+1) 0) (.agg zR) (al H1 zR 75 0)=some H2:=by rw[<-bq];exact gJ rfl rfl n1.symm zzx rfl
  rw[bq] at hz;unfold Yy;simp(disch:=try exact zqz)only[aO,n1,bq,k1,d0,hz,k5,ar,aq,zz0,simprocAttr]
def vo (now:Int)(x:Rn×Str):Rn×Str:=(Bk x.1 now,x.2)
def G0 (f:Fm)(now:Int):Fm×Int:=if now<=f.ck then (f,10) else ({f with ck:=now,aw:=f.aw.map (vo now)},0)
def xJ (f:Fm)(now:Int)(i:Nat):Fm:={f with ck:=now,aw:=(f.aw.take i).map (vo now)++f.aw.drop i}
theorem aoa (h:f.aw[i]?=some x):(xJ f now i).aw[i]?=some x:=by have hi:=(aag.1 h).1;show ((f.aw.take i).map (vo now)++f.aw.drop i)[i]?=_;rw[abk (by rw[abv,ad8];omega),abv,ad8,agr,amV zzz,ajQ,aed];exact h
theorem aB6 (h:f.aw[i]?=some x):(xJ f now i).aw.set i (vo now x)=(xJ f now (i+1)).aw:=by
 have hi:=(aag.1 h).1;show ((f.aw.take i).map (vo now)++f.aw.drop i).set i (vo now x)=(f.aw.take (i+1)).map (vo now)++f.aw.drop (i+1);have hd:f.aw.drop i=x::f.aw.drop (i+1):=by rw[aiB hi];rw[aaC hi] at h;rw[acd h]
 rw[amh _ _ (by rw[abv,ad8];omega),abv,ad8,amV zzz,ajQ,hd,akq,h,List.set_cons_zero,acY,abr];rfl
theorem FL.at {H:Hp}{p:Nat}{a:FA}{f:Fm}(h:FL H p a f){i:Nat}{x:Rn×Str}(hx:f.aw[i]?=some x):
  ∃r b o,a.ras[i]?=some r/\(∀kd,ia 5 a.rx (.int kd i)=some (.ptr b o))/\b∈ak a.rx/\b<H.next/\av H b o 4=some (rv r.dx x.1.st r.tx r.sx)/\av H b o 5=some (bJ r x)/\RV H r.dx r.xs r.tx r.sx x.1:=by
 have aV:=(aag.1 hx).1;have hr:a.ras[i]?=some (a.ras[i]'(by rw[h.len];exact aV)):=aaC _;obtain⟨b,o,q1,q2,q3,q4,q5⟩:=h.r.rl.at zzx (T8 hr hx);refine⟨_,b,o,hr,q1,q2,q3,?_,q4,h.v i _ x hr hx⟩;have e0:=q5 0 _ rfl;have e1:=q5 1 _ rfl;have e2:=q5 2 _ rfl;have e3:=q5 3 _ rfl;rw[aed] at e0;simp only[av,e0,e1,e2,e3,abY,acf];rfl
theorem aeP {p:Nat}{f:Fm}{now:Int}(hr:f.aw.length<=64)(ir:∀x∈f.aw,oD x.1/\yq x.1):∀(r:List (Rn×Str)) (i:Nat) (H:Hp) (a:FA),i<=f.aw.length->f.aw.drop i=r->FL H p a (xJ f now i)->
  ∃a' H',(∀fD:K.Fn 0,ZJ JN GO cK fD (.ptr p 0) (zi now) (zi (f.aw.length:Nat)) (zi (i:Nat)) H=fD H')/\FL H' p a' (xJ f now f.aw.length)/\FSt H H' p a a'
 |[],i,H,a,hi,h,hF=>by obtain rfl:=drop_nil hi h;refine⟨a,H,λfD=>?_,hF,FSt.same (Out.refl _ _) p a⟩;rw[agW];simp only[XC,df,zz0,simprocAttr]
 |x::r,i,H,a,hi,h,hF=>by
  obtain⟨g1,g2,g3⟩:=dU h;have es:=dC g1 zzz;have k3:cellAt H p 3=some a.rx:=hF.c.cellAt rfl;obtain⟨ra,b,o,q1,q2,q3,q4,q5,q6,q7⟩:=hF.at (aoa (now:=now) g2);obtain⟨Ca,M3⟩:=ir x (aac g2);obtain⟨ay,aT,ax,aA,H1,t1,t2,t3,t4⟩:=aH1 q7 Ca M3 now;have EU:=hF.au t3;have tc:∀j∈(RA.mk ay aT ax aA).fp,j∉own p a:=λj hj q=>by have:=t4 j hj;have:=hF.lt j q;omega
  obtain⟨H2,s1,s2,s3,s4⟩:=EU.amy (aoa (now:=now) g2) q2 (r':=⟨ay,aT,ax,aA⟩) t2.v tc;have yO:cellAt H1 p 3=some a.rx:=EU.c.cellAt rfl;have sA:FSt H H2 p a {a with ras:=a.ras.set i ⟨ay,aT,ax,aA⟩}:=⟨(t3.mono λj hj=>by cases hj).trans (s3.mono λj hj=>kZ (k:=5) rfl hj),λj hj=>.inl hj,λj hj=>(s4 j hj).imp (λq=>q) λq=>t4 j q⟩;have F3:FL H2 p {a with ras:=a.ras.set i ⟨ay,aT,ax,aA⟩} (xJ f now (i+1)):=by
   have:=aB6 (now:=now) g2;have e:{xJ f now i with aw:=(xJ f now i).aw.set i (Bk x.1 now,x.2)}=xJ f now (i+1):=by show ({ck:=now,nms:=f.nms,aM:=f.aM,aw:=_,ks:=f.ks}:Fm)=_;rw[show (Bk x.1 now,x.2)=vo now x from rfl,this];rfl
   rw[e] at s2;exact s2
  obtain⟨a',H',i1,i2,i3⟩:=aeP hr ir r (i+1) H2 _ g1 g3 F3;refine⟨a',H',λfD=>?_,i2,sA.trans i3⟩;rw[agW];simp(disch:=try exact zqz)only[XC,aN g1,k3,q2,q5,t1,s1,yO,eG (lN hF.r.1.rw),es,i1,ar,aq,zz0,simprocAttr]
theorem aAZ {p:Nat}(h:FL H p a f)(hr:f.aw.length<=64)(ir:∀x∈f.aw,oD x.1/\yq x.1)(now:Int):
  ∃a' H',cK (zf 42) [.ptr p 0,zi now] H=some (zi (G0 f now).2,H')/\FL H' p a' (G0 f now).1/\FSt H H' p a a':=by
 have k0:cellAt H p 0=some (zi f.ck):=h.c.cellAt rfl;unfold G0;by_cases hn:now<=f.ck;·have d:decide (now<=f.ck)=true:=zz3 hn;rw[zz2 hn];refine⟨a,H,aoR ?_,h,FSt.same (Out.refl _ _) p a⟩;unfold Xy;simp(disch:=try exact zqz)only[k0,d,ar,aq,zz0,simprocAttr]
 ·have d:decide (now<=f.ck)=false:=zz4 hn;rw[zz1 hn];obtain⟨H1,s1,s2,s3⟩:=h.clock now;have s2':FL H1 p a (xJ f now 0):=s2;have k3:cellAt H1 p 3=some a.rx:=s2.c.cellAt rfl;have fT:=s2.JS;obtain⟨a',H',i1,i2,i3⟩:=aeP hr ir f.aw 0 H1 a (aa7 _) aaY s2';rw[show (((0:Nat):Int))=0 from rfl] at i1;have e:xJ f now f.aw.length={f with ck:=now,aw:=f.aw.map (vo now)}:=by unfold xJ;rw[List.take_length,List.drop_length,acQ]
  rw[e] at i2;refine⟨a',H',aoR ?_,i2,s3.trans i3⟩;unfold Xy;simp(disch:=try exact zqz)only[k0,d,s1,k3,fT,i1,ar,aq,zz0,simprocAttr]
noncomputable def nX (R:Rn)(e:Ev)(ck:Int):Rn×Int:=
 if e.kd=3 then qn R e.tk e.ty ck else if e.kd=4 then rS R e.tk e.ty e.dt else if e.kd=5 then Ae R e.tk e.ty ck else if e.kd=7 then u9 R e.nm else yU R
noncomputable def FX (f:Fm)(e:Ev):Fm×Int:=match f.aw[(e.rn-1).toNat]? with
 |none=>(f,0)|some x=>if (nX x.1 e f.ck).2=0 then ({f with aw:=f.aw.set (e.rn-1).toNat ((nX x.1 e f.ck).1,x.2)},0) else (f,(nX x.1 e f.ck).2)
theorem arW {p:Nat}(h:FL H p a f)(hr:f.aw.length<=64)(ir:∀x∈f.aw,oD x.1/\yq x.1/\x.1.sg.length<=900)(e:Ev)(h1:1<=e.rn)(h2:e.rn<=f.aw.length):
  ∃a' H',cK (zf 43) [.ptr p 0,.agg (aQ e)] H=some (zi (FX f e).2,H')/\FL H' p a' (FX f e).1/\FSt H H' p a a':=by
 obtain⟨i,hi⟩:∃i:Nat,e.rn=(i:Int)+1:=⟨(e.rn-1).toNat,zzz⟩;have aV:i<f.aw.length:=zzz;have hx:f.aw[i]?=some (f.aw[i]'aV):=aaC _;generalize f.aw[i]'aV=x at hx;obtain⟨Ca,M3,ok3⟩:=ir x (aac hx);have pQ:(e.rn-1).toNat=i:=zzz;have hw:IntKind.wrap .i64 (e.rn-1)=((i:Nat):Int):=by rw[hi,wrap_i64 zzz zzz];omega
 have aO:bx 26 (.agg (aQ e)) H=some (H.next,al H (aQ e) 26 0):=iw (by rw[tD];omega);have o1:=aD H (aQ e) 26 0;have c1:=aP H (aQ e) 26 0;have n1:(al H (aQ e) 26 0).next=H.next+1:=rfl;generalize al H (aQ e) 26 0=H1 at*
 have F1:=h.au o1;have k3:cellAt H1 p 3=some a.rx:=F1.c.cellAt rfl;have E1:cellAt H1 H.next 1=some (zi e.rn):=c1.cellAt rfl;have cF:az H1 zR 75 0=some (H.next+1,al H1 zR 75 0):=by rw[<-n1];exact eh zzy
 have o2:=aD H1 zR 75 0;have c2:=aP H1 zR 75 0;have n2:(al H1 zR 75 0).next=H.next+2:=by rw[bT,n1]
 rw[n1] at c2;generalize bq:al H1 zR 75 0=H2 at*
 have F2:=F1.au o2;have bF:=o1.trans o2;have cE:=c1.out o2 zzy;have E0:cellAt H2 H.next 0=some (zi e.kd):=cE.cellAt rfl;have E2:cellAt H2 H.next 2=some (zi e.tk):=cE.cellAt rfl;have E3:cellAt H2 H.next 3=some (zi e.ty):=cE.cellAt rfl;have E5:cellAt H2 H.next 5=some (.str e.nm):=cE.cellAt rfl;have E7:cellAt H2 H.next 7=some (.str e.dt):=cE.cellAt rfl;have k0:cellAt H2 p 0=some (zi f.ck):=F2.c.cellAt rfl;obtain⟨ra,b,o,q1,q2,q3,q4,q5,q6,q7⟩:=F2.at hx;unfold FX;rw[pQ,hx];simp only;have fin:∀(fv:AV) (args:List AV) (R':Rn) (err:Int),qi fv args H2 R' err->∃(ay:AV) (aT:List AV) (ax aA:AV) (H3 H4:Hp) (a':FA) (H5:Hp),cK fv args H2=some (.tuple [.agg (rv ay R'.st ax aA),zi err],H3)/\st 4 (.ptr (H.next+1) 0) (.agg (rv ay R'.st ax aA)) H3=some H4/\
   (err=0->av H4 (H.next+1) 0 4=some (rv ay R'.st ax aA)/\st 4 (.ptr b o) (.agg (rv ay R'.st ax aA)) H4=some H5/\FL H5 p a' {f with aw:=f.aw.set i (R',x.2)}/\FSt H H5 p a a')/\(err≠0->H5=H4/\a'=a/\FL H4 p a f/\FSt H H4 p a a):=by
  rintro fv args R' err ⟨ay,aT,ax,aA,H3,r1,r2,r3,r4⟩;obtain⟨H4,s1,s2,s3,s4⟩:=iC (n:=4) (vs:=rv ay R'.st ax aA) (c2.out r3 zzy) rfl rfl (by simp[r2.v.d.row.one,r2.t.rl.one,r2.s.lr,iS]);have o4:Out [] H H4:=eR (bF.trans r3) s3 (ll (agN _));have F4:=h.au o4;by_cases he:err=0
  ·have OX:RV H4 ay aT ax aA R':=r2.v.out s3 λj hj=>by rw[No];have:=r4 j hj;omega
   have tc:∀j∈(RA.mk ay aT ax aA).fp,j∉own p a:=λj hj q=>by have:=r4 j hj;have:=h.lt j q;omega
   obtain⟨H5,t1,t2,t3,t4⟩:=F4.amy hx q2 (r':=⟨ay,aT,ax,aA⟩) OX tc;exact⟨ay,aT,ax,aA,H3,H4,_,H5,r1,s1,λ_=>⟨s2.av 4 0 zzy,t1,t2,(o4.mono λj hj=>by cases hj).trans (t3.mono λj hj=>kZ (k:=5) rfl hj),λj hj=>.inl hj,λj hj=>(t4 j hj).imp (λq=>q) λq=>by have:=r4 j q;omega⟩,λq=>absurd he q⟩
  ·exact⟨ay,aT,ax,aA,H3,H4,a,H4,r1,s1,λq=>absurd q he,λ_=>⟨rfl,rfl,F4,FSt.same o4 p a⟩⟩
 have done:∀(R':Rn) (err:Int),nX x.1 e f.ck=(R',err)->(∃(ay:AV) (aT:List AV) (ax aA:AV) (H3 H4:Hp) (a':FA) (H5:Hp),cK (zf 43) [.ptr p 0,.agg (aQ e)] H=some (zi err,H5)/\
   (err=0->av H4 (H.next+1) 0 4=some (rv ay R'.st ax aA)/\st 4 (.ptr b o) (.agg (rv ay R'.st ax aA)) H4=some H5/\FL H5 p a' {f with aw:=f.aw.set i (R',x.2)}/\FSt H H5 p a a')/\(err≠0->H5=H4/\a'=a/\FL H4 p a f/\FSt H H4 p a a)/\H3=H3)->
   ∃a' H',cK (zf 43) [.ptr p 0,.agg (aQ e)] H=some (zi (if (nX x.1 e f.ck).2=0 then ({f with aw:=f.aw.set i ((nX x.1 e f.ck).1,x.2)},0) else (f,(nX x.1 e f.ck).2):Fm×Int).2,H')/\FL H' p a' (if (nX x.1 e f.ck).2=0 then ({f with aw:=f.aw.set i ((nX x.1 e f.ck).1,x.2)},0) else (f,(nX x.1 e f.ck).2):Fm×Int).1/\FSt H H' p a a':=by
  rintro R' err ho ⟨ay,aT,ax,aA,H3,H4,a',H5,w1,w2,w3,_⟩;rw[ho];by_cases he:err=0;·obtain⟨_,_,z3,z4⟩:=w2 he;rw[zz2 he];subst he;exact⟨a',H5,w1,z3,z4⟩
  ·obtain⟨rfl,rfl,z3,z4⟩:=w3 he;rw[zz1 he];exact⟨a',H5,w1,z3,z4⟩
 by_cases b3:e.kd=3
 ·obtain⟨ay,aT,ax,aA,H3,H4,a',H5,w1,w2,w3,w4⟩:=fin _ _ _ _ (ays q7 Ca e.tk e.ty f.ck);refine done _ _ (by unfold nX;rw[zz2 b3]) ⟨ay,aT,ax,aA,H3,H4,a',H5,OO ?_,w3,w4,rfl⟩;have d3:(e.kd==3)=true:=by simp[b3]
  unfold Jl;by_cases he:(qn x.1 e.tk e.ty f.ck).2=0;·obtain⟨z1,z2,_⟩:=w3 he;simp(disch:=try exact zqz)only[aO,k3,E1,hw,q2,n1,bq,E0,E2,E3,k0,q5,w1,w2,d3,he,z1,z2,ar,aq,zz0,simprocAttr]
  ·obtain⟨rfl,_⟩:=w4 he;have dn:((qn x.1 e.tk e.ty f.ck).2==0)=false:=by simp[he]
   simp(disch:=try exact zqz)only[aO,k3,E1,hw,q2,n1,bq,E0,E2,E3,k0,q5,w1,w2,d3,dn,ar,aq,zz0,simprocAttr]
 have d3:(e.kd==3)=false:=by simp[b3]
 by_cases b4:e.kd=4
 ·obtain⟨ay,aT,ax,aA,H3,H4,a',H5,w1,w2,w3,w4⟩:=fin _ _ _ _ (auI q7 Ca e.tk e.ty e.dt);refine done _ _ (by unfold nX;rw[zz1 b3,zz2 b4]) ⟨ay,aT,ax,aA,H3,H4,a',H5,OO ?_,w3,w4,rfl⟩;have d4:(e.kd==4)=true:=by simp[b4]
  unfold Jl;by_cases he:(rS x.1 e.tk e.ty e.dt).2=0;·obtain⟨z1,z2,_⟩:=w3 he;simp(disch:=try exact zqz)only[aO,k3,E1,hw,q2,n1,bq,E0,E2,E3,E7,q5,w1,w2,d3,d4,he,z1,z2,ar,aq,zz0,simprocAttr]
  ·obtain⟨rfl,_⟩:=w4 he;have dn:((rS x.1 e.tk e.ty e.dt).2==0)=false:=by simp[he]
   simp(disch:=try exact zqz)only[aO,k3,E1,hw,q2,n1,bq,E0,E2,E3,E7,q5,w1,w2,d3,d4,dn,ar,aq,zz0,simprocAttr]
 have d4:(e.kd==4)=false:=by simp[b4]
 by_cases b5:e.kd=5
 ·obtain⟨ay,aT,ax,aA,H3,H4,a',H5,w1,w2,w3,w4⟩:=fin _ _ _ _ (aAS q7 Ca M3 e.tk e.ty f.ck);refine done _ _ (by unfold nX;rw[zz1 b3,zz1 b4,zz2 b5]) ⟨ay,aT,ax,aA,H3,H4,a',H5,OO ?_,w3,w4,rfl⟩;have d5:(e.kd==5)=true:=by simp[b5]
  unfold Jl;by_cases he:(Ae x.1 e.tk e.ty f.ck).2=0;·obtain⟨z1,z2,_⟩:=w3 he;simp(disch:=try exact zqz)only[aO,k3,E1,hw,q2,n1,bq,E0,E2,E3,k0,q5,w1,w2,d3,d4,d5,he,z1,z2,ar,aq,zz0,simprocAttr]
  ·obtain⟨rfl,_⟩:=w4 he;have dn:((Ae x.1 e.tk e.ty f.ck).2==0)=false:=by simp[he]
   simp(disch:=try exact zqz)only[aO,k3,E1,hw,q2,n1,bq,E0,E2,E3,k0,q5,w1,w2,d3,d4,d5,dn,ar,aq,zz0,simprocAttr]
 have d5:(e.kd==5)=false:=by simp[b5]
 by_cases b7:e.kd=7
 ·obtain⟨ay,aT,ax,aA,H3,H4,a',H5,w1,w2,w3,w4⟩:=fin _ _ _ _ (aDW q7 Ca ok3 e.nm);refine done _ _ (by unfold nX;rw[zz1 b3,zz1 b4,zz1 b5,zz2 b7]) ⟨ay,aT,ax,aA,H3,H4,a',H5,OO ?_,w3,w4,rfl⟩;have d7:(e.kd==7)=true:=by simp[b7]
  unfold Jl;by_cases he:(u9 x.1 e.nm).2=0;·obtain⟨z1,z2,_⟩:=w3 he;simp(disch:=try exact zqz)only[aO,k3,E1,hw,q2,n1,bq,E0,E5,q5,w1,w2,d3,d4,d5,d7,he,z1,z2,ar,aq,zz0,simprocAttr]
  ·obtain⟨rfl,_⟩:=w4 he;have dn:((u9 x.1 e.nm).2==0)=false:=by simp[he]
   simp(disch:=try exact zqz)only[aO,k3,E1,hw,q2,n1,bq,E0,E5,q5,w1,w2,d3,d4,d5,d7,dn,ar,aq,zz0,simprocAttr]
 have d7:(e.kd==7)=false:=by simp[b7]
 obtain⟨ay,aT,ax,aA,H3,H4,a',H5,w1,w2,w3,w4⟩:=fin _ _ _ _ (ax2 q7 Ca);refine done _ _ (by unfold nX;rw[zz1 b3,zz1 b4,zz1 b5,zz1 b7]) ⟨ay,aT,ax,aA,H3,H4,a',H5,OO ?_,w3,w4,rfl⟩;unfold Jl;by_cases he:(yU x.1).2=0;·obtain⟨z1,z2,_⟩:=w3 he;simp(disch:=try exact zqz)only[aO,k3,E1,hw,q2,n1,bq,E0,q5,w1,w2,d3,d4,d5,d7,he,z1,z2,ar,aq,zz0,simprocAttr]
 ·obtain⟨rfl,_⟩:=w4 he;have dn:((yU x.1).2==0)=false:=by simp[he]
  simp(disch:=try exact zqz)only[aO,k3,E1,hw,q2,n1,bq,E0,q5,w1,w2,d3,d4,d5,d7,dn,ar,aq,zz0,simprocAttr]
structure Fok (f:Fm):Prop where
 run:∀x∈f.aw,oD x.1/\yq x.1/\x.1.sg.length<=900
 nr:f.aw.length<=64
 nn:f.nms.length<=16
 nk:f.ks.length<128
noncomputable def qu (f:Fm)(e:Ev):Fm×Int:=
 if CE e=true then (if e.kd=1 then mH f e.nm e.dt else if e.kd=2 then Hc f e else if e.kd=6 then G0 f e.n else if e.kd=9 then (f,0) else if (f.aw.length:Int)<e.rn then (f,4) else FX f e) else (f,1)
theorem azh {e:Ev}(h:CE e=true)(h1:e.kd≠1)(h6:e.kd≠6)(h9:e.kd≠9):1<=e.rn/\e.rn<=64:=by
 unfold CE at h;rw[aaM,aaM] at h;obtain⟨g1,_,g2⟩:=h;have hm:(82:Nat)∈pS e.kd:=by
  unfold pS at g1⊢;rw[zz1 h1] at g1⊢;by_cases h2:e.kd=2;·rw[zz2 h2];simp
  rw[zz1 h2] at g1⊢;by_cases h3:e.kd=3\/e.kd=5;·rw[zz2 h3];simp
  rw[zz1 h3] at g1⊢;by_cases h4:e.kd=4;·rw[zz2 h4];simp
  rw[zz1 h4,zz1 zzz] at g1⊢;by_cases h7:e.kd=7;·rw[zz2 h7];simp
  rw[zz1 h7] at g1⊢;by_cases h8:e.kd=8;·rw[zz2 h8];simp
  rw[zz1 h8] at g1;simp at g1
 have:=acT.1 g2 82 hm;unfold wG nu at this;simp at this;exact this
theorem Kx {p:Nat}(h:FL H p a f)(hg:Gl H)(hk:Fok f)(e:Ev):
  ∃a' H',cK (zf 16) [.ptr p 0,.agg (aQ e)] H=some (zi (qu f e).2,H')/\FL H' p a' (qu f e).1/\FSt H H' p a a':=by
 have aO:bx 26 (.agg (aQ e)) H=some (H.next,al H (aQ e) 26 0):=iw (by rw[tD];omega);have o1:=aD H (aQ e) 26 0;have c1:=aP H (aQ e) 26 0;generalize al H (aQ e) 26 0=H1 at*
 have k8:av H1 H.next 0 8=some (aQ e):=c1.av 8 0 (by rw[tD];omega);obtain⟨H2,g1,g2⟩:=aEA e H1;have o2:=o1.trans g2;have c2:=c1.out g2 zzy;have F2:=h.au o2;have jP:=hg.au o2;have E0:cellAt H2 H.next 0=some (zi e.kd):=c2.cellAt rfl;have E1:cellAt H2 H.next 1=some (zi e.rn):=c2.cellAt rfl;have E4:cellAt H2 H.next 4=some (zi e.n):=c2.cellAt rfl;have E5:cellAt H2 H.next 5=some (.str e.nm):=c2.cellAt rfl;have E7:cellAt H2 H.next 7=some (.str e.dt):=c2.cellAt rfl;have Iq:av H2 H.next 0 8=some (aQ e):=c2.av 8 0 (by rw[tD];omega);unfold qu;cases uS:CE e with
 |false=>
  rw[uS] at g1;rw[zz1 zzy];refine⟨a,H2,Fw ?_,F2,FSt.same o2 p a⟩;unfold Dh;simp(disch:=try exact zqz)only[aO,k8,g1,ar,aq,zz0,simprocAttr]
 |true=>
  rw[uS] at g1;rw[zz2 rfl];by_cases b1:e.kd=1
  ·obtain⟨a',H3,d1,d2,d3⟩:=aez F2 jP hk.nn e.nm e.dt;rw[zz2 b1];refine⟨a',H3,Fw ?_,d2,FSt.end o2 d3⟩;have q1:(e.kd==1)=true:=by simp[b1]
   unfold Dh;simp(disch:=try exact zqz)only[aO,k8,g1,E0,E5,E7,q1,d1,ar,aq,zz0,simprocAttr]
  have q1:(e.kd==1)=false:=by simp[b1]
  rw[zz1 b1];by_cases b2:e.kd=2
  ·obtain⟨a',H3,d1,d2,d3⟩:=aD8 F2 jP hk.nk hk.nr e;rw[zz2 b2];refine⟨a',H3,Fw ?_,d2,FSt.end o2 d3⟩;have q2:(e.kd==2)=true:=by simp[b2]
   unfold Dh;simp(disch:=try exact zqz)only[aO,k8,g1,E0,Iq,q1,q2,d1,ar,aq,zz0,simprocAttr]
  have q2:(e.kd==2)=false:=by simp[b2]
  rw[zz1 b2];by_cases b6:e.kd=6
  ·obtain⟨a',H3,d1,d2,d3⟩:=aAZ F2 hk.nr (λx hx=>⟨(hk.run x hx).1,(hk.run x hx).2.1⟩) e.n;rw[zz2 b6];refine⟨a',H3,Fw ?_,d2,FSt.end o2 d3⟩;have q6:(e.kd==6)=true:=by simp[b6]
   unfold Dh;simp(disch:=try exact zqz)only[aO,k8,g1,E0,E4,q1,q2,q6,d1,ar,aq,zz0,simprocAttr]
  have q6:(e.kd==6)=false:=by simp[b6]
  rw[zz1 b6];by_cases b9:e.kd=9
  ·rw[zz2 b9];refine⟨a,H2,Fw ?_,F2,FSt.same o2 p a⟩;have q9:(e.kd==9)=true:=by simp[b9]
   unfold Dh;simp(disch:=try exact zqz)only[aO,k8,g1,E0,q1,q2,q6,q9,ar,aq,zz0,simprocAttr]
  have q9:(e.kd==9)=false:=by simp[b9]
  rw[zz1 b9];have k3:cellAt H2 p 3=some a.rx:=F2.c.cellAt rfl;have fT:=F2.JS;by_cases aR:(f.aw.length:Int)<e.rn;·have d:decide (((f.aw.length:Nat):Int)<e.rn)=true:=zz3 aR;rw[zz2 aR];refine⟨a,H2,Fw ?_,F2,FSt.same o2 p a⟩;unfold Dh;simp(disch:=try exact zqz)only[aO,k8,g1,E0,E1,q1,q2,q6,q9,k3,fT,d,ar,aq,zz0,simprocAttr]
  ·have d:decide (((f.aw.length:Nat):Int)<e.rn)=false:=zz4 aR;rw[zz1 aR];obtain⟨a',H3,d1,d2,d3⟩:=arW F2 hk.nr hk.run e (azh uS b1 b6 b9).1 zzz;refine⟨a',H3,Fw ?_,d2,FSt.end o2 d3⟩;unfold Dh;simp(disch:=try exact zqz)only[aO,k8,g1,E0,E1,q1,q2,q6,q9,k3,fT,d,Iq,d1,ar,aq,zz0,simprocAttr]
end
end
theorem apf:AN P an:=aiA λp hp=>.inl (acT.1 (show anL.all (λp=>p.2.plain)=true by kernel_rfl) p hp)
theorem FL.hi {H H':Hp}{p N:Nat}{a:FA}{f:Fm}{S:List Nat}(h:FL H p a f)(k:Out S H H')(h1:∀j∈own p a,j<N)(h2:∀j∈bD.dL a,j<N)(hS:∀j∈S,N<=j):FL H' p a f:=
 h.out k (λj hj q=>by have:=h1 j hj;have:=hS j q;omega) λj hj q=>by have:=h2 j hj;have:=hS j q;omega
end
theorem agh {α:Type}(Q:Nat->α->Prop):∀n,(∀j,j<n->∃a,Q j a)->∃l:List α,l.length=n/\∀(j:Nat) (a:α),l[j]?=some a->Q j a
 |0,_=>⟨[],rfl,λj a h=>by simp at h⟩|n+1,h=>by
  obtain⟨l,hl,hq⟩:=agh Q n λj hj=>h j zzz;obtain⟨a,ha⟩:=h n zzz;refine⟨l++[a],by simp[hl],λj b hb=>?_⟩;by_cases hj:j<l.length;·rw[abd hj] at hb;exact hq j b hb
  ·rw[abk zzz] at hb;have:j-l.length=0:=by have:=(aag.1 hb).1;simp at this;omega
   rw[this] at hb;cases hb;rw[show j=n by omega];exact ha
section
variable {H:Hp}{d:D}{l:List AV}{x:AV}
theorem Pc {k:IntKind}(h:Is H (.int k) l d):∃z,l=[.int k z]/\k.min<=z/\z<=k.max:=by
 cases h with
 |int k z h=>exact⟨z,rfl,h⟩
def RZ (s:Str):Prop:=(∀c∈s,c<256)/\s.length<=Go.reachBytes
theorem U7 (h:Is H .str l d):∃s,l=[.str s]/\RZ s:=by
 cases h with
 |str s h hl=>exact⟨s,rfl,h,hl⟩
theorem alC {es:Nat}:∀{cs:List AV} {L:List (List AV)},cs.length=L.length*es->(∀(i:Nat) (c:List AV),L[i]?=some c->(cs.drop (i*es)).take es=c/\c.length=es)->cs=L.flatten
 |cs,[],h,_=>by simp at h;simp[h]
 |cs,a::L,h,hq=>by
  obtain⟨h1,h2⟩:=hq 0 a rfl;rw[ag0,aaY] at h1;simp only[aaP,afs,aj4] at h;have ih:=alC (es:=es) (cs:=cs.drop es) (L:=L) (by rw[aeF];omega) λi c hc=>by obtain⟨g1,g2⟩:=hq (i+1) c hc;refine⟨?_,g2⟩;rw[List.drop_drop,show es+i*es=(i+1)*es by rw[afs,aj4];omega];exact g1
  rw[agL,<-ih,<-h1,ajx]
theorem aGA {α:Type}{es:Nat}{ty:Ty}(C:α->List AV)(hC:∀a,(C a).length=es)(Q:α->Prop)(h1:∀(l:List AV) (d:D),l.length=es->Is H ty l d->∃a,l=C a/\Q a)(ef:0<es)(h:Is H (.slice es ty) [x] d):
  ∃l:List α,RL H es x (l.map C)/\∀a∈l,Q a:=by
 cases h with
 |@slice _ _ _ cs ds hr hl hd=>
  obtain⟨l,g1,g2⟩:=agh (λj (a:α)=>(cs.drop (j*es)).take es=C a/\Q a) ds.length (λj hj=>by have hs:=hd j _ (aaC hj);have hle:(j+1)*es<=ds.length*es:=ad4 _ hj;rw[afs,aj4] at hle;exact h1 _ _ (by rw[ad8,aeF];omega) hs);refine⟨l,⟨?_,λc hc=>?_⟩,λa ha=>?_⟩
  ·have:cs=(l.map C).flatten:=alC (by rw[abv,g1];exact hl) λi c hc=>by rw[ab9,aaq] at hc;obtain⟨a,ha,rfl⟩:=hc;exact⟨(g2 i a ha).1,hC a⟩
   rw[<-this];exact hr
  ·obtain⟨a,_,rfl⟩:=abT.1 hc;exact hC a
  ·obtain⟨j,hj⟩:=aca ha;exact (g2 j a hj).2
theorem acU {α:Type}(c:α->AV):∀l:List α,(l.map λa=>[c a]).flatten=l.map c
 |[]=>rfl|a::l=>by rw[aby,agL,acU c l];rfl
abbrev Ln:Ty:=.struct 8 [(0,1,.int .i64),(1,1,.int .i64),(2,1,.int .i64),(3,1,.int .i64),(4,1,.int .i64),(5,1,.str),(6,1,.str),(7,1,.str)]
theorem eight (h:l.length=8){a b c d e f g i:AV}(h0:(l.drop 0).take 1=[a])(h1:(l.drop 1).take 1=[b])(h2:(l.drop 2).take 1=[c])(h3:(l.drop 3).take 1=[d])(h4:(l.drop 4).take 1=[e])(h5:(l.drop 5).take 1=[f])(h6:(l.drop 6).take 1=[g])(h7:(l.drop 7).take 1=[i]):l=[a,b,c,d,e,f,g,i]:=by
 match l,h with
 |[x0,x1,x2,x3,x4,x5,x6,x7],_=>
  simp at h0 h1 h2 h3 h4 h5 h6 h7;simp[h0,h1,h2,h3,h4,h5,h6,h7]
structure Gc (e:Ev):Prop where
 nm:RZ e.nm
 ky:RZ e.ky
 dt:RZ e.dt
 n:-9223372036854775808<=e.n/\e.n<=9223372036854775807
theorem avx (hl:l.length=8)(h:Is H Ln l d):∃e:Ev,l=aQ e/\Gc e:=by
 cases h with
 |@struct _ _ _ ds _ hn hd=>
  have at':∀j,j<8->∃d,ds[j]?=some d:=λj hj=>⟨_,aaC (by rw[hn];exact hj)⟩;obtain⟨d0,e0⟩:=at' 0 zzz;obtain⟨d1,e1⟩:=at' 1 zzz;obtain⟨d2,e2⟩:=at' 2 zzz;obtain⟨d3,e3⟩:=at' 3 zzz;obtain⟨d4,e4⟩:=at' 4 zzz;obtain⟨d5,e5⟩:=at' 5 zzz;obtain⟨d6,e6⟩:=at' 6 zzz;obtain⟨d7,e7⟩:=at' 7 zzz;obtain⟨z0,f0,_⟩:=Pc (hd 0 _ _ rfl e0);obtain⟨z1,f1,_⟩:=Pc (hd 1 _ _ rfl e1);obtain⟨z2,f2,_⟩:=Pc (hd 2 _ _ rfl e2);obtain⟨z3,f3,_⟩:=Pc (hd 3 _ _ rfl e3);obtain⟨z4,f4,g4,g5⟩:=Pc (hd 4 _ _ rfl e4);obtain⟨s5,f5,k5⟩:=U7 (hd 5 _ _ rfl e5);obtain⟨s6,f6,k6⟩:=U7 (hd 6 _ _ rfl e6);obtain⟨s7,f7,k7⟩:=U7 (hd 7 _ _ rfl e7);exact⟨⟨z0,z1,z2,z3,z4,s5,s6,s7⟩,eight hl f0 f1 f2 f3 f4 f5 f6 f7,k5,k6,k7,g4,g5⟩
def np (l:List Ev):List (List AV):=l.map aQ
theorem Xq (h:Is H (.slice 8 Ln) [x] d):∃l:List Ev,RL H 8 x (np l)/\∀e∈l,Gc e:=
 aGA aQ (λ_=>rfl) Gc (λl d hl hi=>avx hl hi) zzx h
end
theorem ats (a b c a' b' c':Int)(s s':Str)(H:Hp):eO P 50 132 (.agg [zi a,zi b,zi c,.str s]) (.agg [zi a',zi b',zi c',.str s']) H=uf (λz:Bool=>some z) [a==a',b==b',c==c',s==s']:=zzw
theorem awT:Program.eqGuardType P P.depth 132=false:=zzw
end
theorem rt_eq (t u:RT):((t.ph==u.ph)&&((t.tr==u.tr)&&((t.fH==u.fH)&&(t.iP==u.iP))))=decide (t=u):=by obtain⟨a,b,c,d⟩:=t;obtain⟨a',b',c',d'⟩:=u;rw[ank];simp
theorem aCG (t u:RT)(H:Hp):gA P .neq 132 false (.agg (dT t)) (.agg (dT u))=true/\gi P .neq 132 (.agg (dT t)) (.agg (dT u)) H=some (.bool (!decide (t=u))):=by
 constructor;·show (!(Program.eqGuardType P P.depth 132))=true;rw[awT];rfl
 ·show (eO P 50 132 (.agg (dT t)) (.agg (dT u)) H).map (λb=>AV.bool !b)=_;have h:eO P 50 132 (.agg (dT t)) (.agg (dT u)) H=_:=ats t.ph t.tr t.fH u.ph u.tr u.fH t.iP u.iP H;rw[h,Lp,<-rt_eq];simp
theorem drop_at {α:Type}{m:List α}{i:Nat}{b:α}(h:m[i]?=some b):m.drop i=b::m.drop (i+1):=by obtain⟨w1,w2⟩:=aag.1 h;rw[aiB w1,w2]
theorem ant {x y:AV}{l m:List RT}{H:Hp}(hn:l.length<=16777216)(fV:l.length=m.length)(hx:RL H 4 x (eL l))(hy:RL H 4 y (eL m))(eN:K.Fn 0):∀(r:List RT) (i:Nat),i<=l.length->l.drop i=r->
  Va JN GO cK eN x y (zi (l.length:Nat)) (zi (i:Nat)) H=if r=m.drop i then eN H else some (.bool false,H)
 |[],i,hi,h=>by obtain rfl:=drop_nil hi h;have:m.drop l.length=[]:=aiG zzz;rw[aiC];simp only[Uh,df,this,if_true,zz0,simprocAttr]
 |t::r,i,hi,h=>by
  obtain⟨h1,h2,h3⟩:=dU h;have es:=dC h1 zzz;obtain⟨u,hu⟩:∃b,m[i]?=some b:=⟨_,aaC zzz⟩;obtain⟨b,o,q1,q2,q3,q4,q5⟩:=hx.at zzx (sP h2);obtain⟨b',o',p1,p2,p3,p4,p5⟩:=hy.at zzx (sP hu);obtain⟨g1,g2⟩:=aCG t u H;have ih:=ant hn fV hx hy eN r (i+1) h1 h3;rw[aiC,drop_at hu];generalize m.drop (i+1)=s at ih;by_cases hb:t=u
  ·rw[zz3 hb] at g2;have e:(if t::r=u::s then eN H else some (.bool false,H))=if r=s then eN H else some (AV.bool false,H):=by simp[hb]
   rw[e];simp(disch:=try exact zqz)only[Uh,aN h1,q1,q4,p1,p4,g1,oM,g2,es,ih,ar,aq,zz0,simprocAttr]
  ·rw[zz4 hb] at g2;have e:(if t::r=u::s then eN H else some (.bool false,H))=some (AV.bool false,H):=by simp[hb]
   rw[e];simp(disch:=try exact zqz)only[Uh,aN h1,q1,q4,p1,p4,g1,oM,g2,ar,aq,zz0,simprocAttr]
section
variable {H:Hp}{dx dy x y:AV}{xs ys:List AV}
theorem aqY {l m:List RT}(hn:l.length<=16777216)(hx:RL H 4 x (eL l))(hy:RL H 4 y (eL m)):cK (zf 73) [x,y] H=some (.bool (decide (l=m)),H):=by
 have lx:=hx.len zzx;have ly:=hy.len zzx;rw[AJ] at lx ly;refine aFH ?_;unfold alh;by_cases fV:l.length=m.length
 ·have i1:=λeN=>ant hn fV hx hy eN l 0 (aa7 _) aaY;rw[show (((0:Nat):Int))=0 from rfl] at i1;have aF:(((l.length:Nat):Int) != ((m.length:Nat):Int))=false:=by simp[fV]
  simp(disch:=try exact zqz)only[lx,ly,aF,i1,aaY,ar,aq,zz0,simprocAttr];by_cases hb:l=m<;>simp[hb]
 ·have aF:(((l.length:Nat):Int) != ((m.length:Nat):Int))=true:=by simp;omega
  have hb:l≠m:=λe=>fV (by rw[e]);simp only[lx,ly,aF,hb,zz0,simprocAttr]
theorem ayQ {t u:Tk}(cZ:t.after.length<=16777216)(hx:Rw H 1 x (ints t.after))(hy:Rw H 1 y (ints u.after)):
  ∃H',cK (zf 71) [.agg (aH t x),.agg (aH u y)] H=some (.bool (decide (t=u)),H')/\Out [] H H':=by
 have b1:=xc t x H;have o1:=aD H (aH t x) 99 0;have c1:=aP H (aH t x) 99 0;have n1:(al H (aH t x) 99 0).next=H.next+1:=rfl;generalize al H (aH t x) 99 0=H1 at*
 have b2:=xc u y H1;have o2:=aD H1 (aH u y) 99 0;have c2:=aP H1 (aH u y) 99 0;rw[n1] at b2 c2;have ns:=c1.out o2 zzy;have bF:=o1.trans o2;generalize al H1 (aH u y) 99 0=H2 at*
 obtain⟨e0,e1,e2,e3,e4,e5⟩:=uQ t x;obtain⟨g0,g1,g2,g3,g4,g5⟩:=uQ u y;have k0:=ns.cellAt e0;have k1:=ns.cellAt e1;have k2:=ns.cellAt e2;have k3:=ns.cellAt e3;have k4:=ns.cellAt e4;have k5:=ns.cellAt e5;have m0:=c2.cellAt g0;have m1:=c2.cellAt g1;have m2:=c2.cellAt g2;have m3:=c2.cellAt g3;have m4:=c2.cellAt g4;have m5:=c2.cellAt g5;have he:=aDA (hx.au bF) (hy.au bF) zzz;refine⟨H2,aAM ?_,bF⟩;unfold aoB;have no:∀(P:Tk->Prop),P t->¬P u->decide (t=u)=false:=λP h1 h2=>zz4 λe=>h2 (e▸h1);by_cases d1:t.after=u.after
 ·rw[zz3 d1] at he;by_cases d2:t.name=u.name
  ·have f2:(t.name==u.name)=true:=by simp[d2]
   by_cases d3:t.cj=u.cj
   ·have f3:(t.cj==u.cj)=true:=by simp[d3]
    by_cases d4:t.wait=u.wait
    ·have f4:(t.wait==u.wait)=true:=by simp[d4]
     by_cases d5:t.base=u.base
     ·have f5:(t.base==u.base)=true:=by simp[d5]
      have f6:(t.on==u.on)=decide (t=u):=by obtain⟨a,b,c,d,e,f⟩:=t;obtain⟨a',b',c',d',e',f'⟩:=u;simp only at d1 d2 d3 d4 d5;subst d1 d2 d3 d4 d5;rw[ank];simp
      simp(disch:=try exact zqz)only[b1,b2,k0,k1,k2,k3,k4,k5,m0,m1,m2,m3,m4,m5,he,f2,f3,f4,f5,f6,ar,aq,zz0,simprocAttr]
     ·have f5:(t.base==u.base)=false:=by simp[d5]
      rw[no (λz=>z.base=t.base) rfl λe=>d5 e.symm];simp(disch:=try exact zqz)only[b1,b2,k0,k1,k2,k3,k4,k5,m0,m1,m2,m3,m4,m5,he,f2,f3,f4,f5,ar,aq,zz0,simprocAttr]
    ·have f4:(t.wait==u.wait)=false:=by simp[d4]
     rw[no (λz=>z.wait=t.wait) rfl λe=>d4 e.symm];simp(disch:=try exact zqz)only[b1,b2,k0,k1,k2,k3,k4,k5,m0,m1,m2,m3,m4,m5,he,f2,f3,f4,ar,aq,zz0,simprocAttr]
   ·have f3:(t.cj==u.cj)=false:=by simp[d3]
    rw[no (λz=>z.cj=t.cj) rfl λe=>d3 e.symm];simp(disch:=try exact zqz)only[b1,b2,k0,k1,k2,k3,k4,k5,m0,m1,m2,m3,m4,m5,he,f2,f3,ar,aq,zz0,simprocAttr]
  ·have f2:(t.name==u.name)=false:=by simp[d2]
   rw[no (λz=>z.name=t.name) rfl λe=>d2 e.symm];simp(disch:=try exact zqz)only[b1,b2,k0,k1,k2,k3,k4,k5,m0,m1,m2,m3,m4,m5,he,f2,ar,aq,zz0,simprocAttr]
 ·rw[zz4 d1] at he;rw[no (λz=>z.after=t.after) rfl λe=>d1 e.symm];simp(disch:=try exact zqz)only[b1,b2,k0,k1,k2,k3,k4,k5,m0,m1,m2,m3,m4,m5,he,ar,aq,zz0,simprocAttr]
theorem amF {ts us:List Tk}{dx dy:AV}{xs ys:List AV}(hn:ts.length<=16777216)(fV:ts.length=us.length)(cZ:∀t∈ts,t.after.length<=16777216):∀(r:List Tk) (i:Nat) (H:Hp),i<=ts.length->ts.drop i=r->RD H dx xs ts->RD H dy ys us->
  ∃H',(∀bA:K.Fn 0,abA JN GO cK bA dy (zf 71) dx (zi (ts.length:Nat)) (zi (i:Nat)) H=if r=us.drop i then bA H' else some (.bool false,H'))/\Out [] H H'
 |[],i,H,hi,h,hX,hY=>by obtain rfl:=drop_nil hi h;have:us.drop ts.length=[]:=aiG zzz;refine⟨H,λbA=>?_,Out.refl _ _⟩;rw[UW];simp only[QU,df,this,if_true,zz0,simprocAttr]
 |t::r,i,H,hi,h,hX,hY=>by
  obtain⟨h1,h2,h3⟩:=dU h;have es:=dC h1 zzz;obtain⟨u,hu⟩:∃b,us[i]?=some b:=⟨_,aaC zzz⟩;obtain⟨x,b,o,q0,q1,q2,q3,q4,q5,q6⟩:=hX.at h2;have s1:=Bb t x q1 H;have o1:=aD H (aH t x) 99 0;have c1:=aP H (aH t x) 99 0;have n1:(al H (aH t x) 99 0).next=H.next+1:=rfl;generalize bw:al H (aH t x) 99 0=H1 at*
  obtain⟨y,b',o',p0,p1,p2,p3,p4,p5,p6⟩:=(hY.au o1).at hu;have s2:=Bb u y p1 H1;have o2:=aD H1 (aH u y) 99 0;have c2:=aP H1 (aH u y) 99 0;rw[n1] at s2 c2;have bF:=o1.trans o2;have ns:=c1.out o2 zzy;generalize bq:al H1 (aH u y) 99 0=H2 at*
  have k1:av H2 H.next 0 6=some (aH t x):=ns.av 6 0 (by rw[y9];omega);have k2:av H2 (H.next+1) 0 6=some (aH u y):=c2.av 6 0 (by rw[y9];omega);obtain⟨H3,f1,f2⟩:=ayQ (cZ t (aac h2)) (q2.au bF) (p2.au o2);have o3:=bF.trans f2;rw[drop_at hu];by_cases hb:t=u
  ·obtain⟨H',i1,i2⟩:=amF hn fV cZ r (i+1) H3 h1 h3 (hX.au o3) (hY.au o3);generalize us.drop (i+1)=s at i1;rw[zz3 hb] at f1;refine⟨H',λbA=>?_,o3.trans i2⟩;have e:(if t::r=u::s then bA H' else some (.bool false,H'))=if r=s then bA H' else some (AV.bool false,H'):=by simp[hb]
   rw[e,UW];simp(disch:=try exact zqz)only[QU,aN h1,q3,q5,s1,p3,p5,n1,s2,k1,k2,f1,es,i1,ar,aq,zz0,simprocAttr]
  ·rw[zz4 hb] at f1;refine⟨H3,λbA=>?_,o3⟩;have e:(if t::r=u::us.drop (i+1) then bA H3 else some (.bool false,H3))=some (AV.bool false,H3):=by simp[hb]
   rw[e,UW];simp(disch:=try exact zqz)only[QU,aN h1,q3,q5,s1,p3,p5,n1,s2,k1,k2,f1,ar,aq,zz0,simprocAttr]
theorem apQ {ts us:List Tk}(hn:ts.length<=16777216)(cZ:∀t∈ts,t.after.length<=16777216)(hX:RD H dx xs ts)(hY:RD H dy ys us):
  ∃H',cK (zf 75) [dx,dy,.func (.func 71) [] []] H=some (.bool (decide (ts=us)),H')/\Out [] H H':=by
 have lx:=hX.aE;have ly:=hY.aE;by_cases fV:ts.length=us.length
 ·obtain⟨H',i1,i2⟩:=amF hn fV cZ ts 0 H (aa7 _) aaY hX hY;rw[show (((0:Nat):Int))=0 from rfl] at i1;have aF:(((ts.length:Nat):Int) != ((us.length:Nat):Int))=false:=by simp[fV]
  refine⟨H',alE ?_,i2⟩;unfold ZW;simp(disch:=try exact zqz)only[lx,ly,aF,i1,aaY,ar,aq,zz0,simprocAttr];by_cases hb:ts=us<;>simp[hb]
 ·have aF:(((ts.length:Nat):Int) != ((us.length:Nat):Int))=true:=by simp;omega
  have hb:ts≠us:=λe=>fV (by rw[e]);refine⟨H,alE ?_,Out.refl _ _⟩;unfold ZW;simp only[lx,ly,aF,hb,decide_false,zz0,simprocAttr]
def BM (R S:Rn):Bool:=(R.st==S.st)&&(decide (R.rs=S.rs)&&(decide (R.sg=S.sg)&&decide (R.ts=S.ts)))
theorem alD {tx sx ty sy:AV}{R S:Rn}(hr:R.rs.length<=16777216)(hg:R.sg.length<=16777216)(hn:R.ts.length<=16777216)(ha:∀t∈R.ts,t.after.length<=16777216)(hX:RV H dx xs tx sx R)(hY:RV H dy ys ty sy S):
  ∃H',cK (zf 36) [.agg (rv dx R.st tx sx),.agg (rv dy S.st ty sy)] H=some (.bool (BM R S),H')/\Out [] H H':=by
 have b1:bx 75 (.agg (rv dx R.st tx sx)) H=some (H.next,al H (rv dx R.st tx sx) 75 0):=iw zzy;have o1:=aD H (rv dx R.st tx sx) 75 0;have c1:=aP H (rv dx R.st tx sx) 75 0;have n1:(al H (rv dx R.st tx sx) 75 0).next=H.next+1:=rfl;generalize al H (rv dx R.st tx sx) 75 0=H1 at*
 have b2:bx 75 (.agg (rv dy S.st ty sy)) H1=some (H.next+1,al H1 (rv dy S.st ty sy) 75 0):=by rw[<-n1];exact iw zzy
 have o2:=aD H1 (rv dy S.st ty sy) 75 0;have c2:=aP H1 (rv dy S.st ty sy) 75 0;rw[n1] at c2;have ns:=c1.out o2 zzy;have bF:=o1.trans o2;generalize bq:al H1 (rv dy S.st ty sy) 75 0=H2 at*
 have k0:cellAt H2 H.next 0=some dx:=ns.cellAt rfl;have k1:cellAt H2 H.next 1=some (zi R.st):=ns.cellAt rfl;have k2:cellAt H2 H.next 2=some tx:=ns.cellAt rfl;have k3:cellAt H2 H.next 3=some sx:=ns.cellAt rfl;have m0:cellAt H2 (H.next+1) 0=some dy:=c2.cellAt rfl;have m1:cellAt H2 (H.next+1) 1=some (zi S.st):=c2.cellAt rfl;have m2:cellAt H2 (H.next+1) 2=some ty:=c2.cellAt rfl;have m3:cellAt H2 (H.next+1) 3=some sy:=c2.cellAt rfl;have e1:=aqY hr (hX.t.au bF) (hY.t.au bF);have e2:=avi (hX.s.au bF) (hY.s.au bF) hg;obtain⟨H3,e3,o3⟩:=apQ hn ha (hX.d.au bF) (hY.d.au bF);unfold BM;cases d0:(R.st==S.st) with
 |false=>
  refine⟨H2,RU ?_,bF⟩;unfold Og;simp(disch:=try exact zqz)only[b1,n1,bq,k0,k1,k2,k3,m0,m1,m2,m3,d0,acw,ar,aq,zz0,simprocAttr]
 |true=>
  cases d1:decide (R.rs=S.rs) with
  |false=>
   rw[d1] at e1;refine⟨H2,RU ?_,bF⟩;unfold Og;simp(disch:=try exact zqz)only[b1,n1,bq,k0,k1,k2,k3,m0,m1,m2,m3,d0,e1,acw,acy,ar,aq,zz0,simprocAttr]
  |true=>
   rw[d1] at e1;cases d2:decide (R.sg=S.sg) with
   |false=>
    rw[d2] at e2;refine⟨H2,RU ?_,bF⟩;unfold Og;simp(disch:=try exact zqz)only[b1,n1,bq,k0,k1,k2,k3,m0,m1,m2,m3,d0,e1,e2,acw,acy,ar,aq,zz0,simprocAttr]
   |true=>
    rw[d2] at e2;refine⟨H3,RU ?_,bF.trans o3⟩;unfold Og;simp(disch:=try exact zqz)only[b1,n1,bq,k0,k1,k2,k3,m0,m1,m2,m3,d0,e1,e2,e3,acy,ar,aq,zz0,simprocAttr]
end
def sJ {α:Type}(p:α->α->Bool):List α->List α->Bool
 |[],_=>true|_::_,[]=>true|a::l,b::m=>p a b&&sJ p l m
theorem ago {α:Type}{p:α->α->Bool}:∀{l:List α},(∀a∈l,p a a=true)->sJ p l l=true
 |[],_=>rfl|a::l,h=>by show (p a a&&sJ p l l)=true;rw[h a (.head _),ago λb hb=>h b (.tail _ hb)];rfl
theorem agC {fv x y:AV}{l m:List Str}{p:Str->Str->Bool}{H0:Hp}(hn:l.length<=16777216)(fV:l.length=m.length)(hx:Rw H0 1 x (strs l))(hy:Rw H0 1 y (strs m))
  (hp:∀H s t,Out [] H0 H->∃H',cK fv [.str s,.str t] H=some (.bool (p s t),H')/\Out [] H H'):∀(r:List Str) (i:Nat) (H:Hp),i<=l.length->l.drop i=r->Out [] H0 H->
  ∃H',(∀bA:K.Fn 0,YK JN GO cK bA y fv x (zi (l.length:Nat)) (zi (i:Nat)) H=if sJ p r (m.drop i)=true then bA H' else some (.bool false,H'))/\Out [] H0 H'
 |[],i,H,hi,h,hO=>by obtain rfl:=drop_nil hi h;refine⟨H,λbA=>?_,hO⟩;rw[Wc];simp only[PQ,df,sJ,if_true,zz0,simprocAttr]
 |s::r,i,H,hi,h,hO=>by
  obtain⟨h1,h2,h3⟩:=dU h;have es:=dC h1 zzz;obtain⟨t,ht⟩:∃b,m[i]?=some b:=⟨_,aaC zzz⟩;obtain⟨q,q1,q2⟩:=(hx.au hO).fW (mS h2) .i64;obtain⟨u,u1,u2⟩:=(hy.au hO).fW (mS ht) .i64;obtain⟨H1,f1,f2⟩:=hp H s t hO;have zJ:=hO.trans f2;rw[drop_at ht];cases hb:p s t with
  |true=>
   obtain⟨H',i1,i2⟩:=agC hn fV hx hy hp r (i+1) H1 h1 h3 zJ;generalize m.drop (i+1)=z at i1;rw[hb] at f1;refine⟨H',λbA=>?_,i2⟩;have e:sJ p (s::r) (t::z)=sJ p r z:=by show (p s t&&_)=_;rw[hb];rfl
   rw[e,Wc];simp(disch:=try exact zqz)only[PQ,aN h1,q1,q2,u1,u2,f1,es,i1,ar,aq,zz0,simprocAttr]
  |false=>
   rw[hb] at f1;refine⟨H1,λbA=>?_,zJ⟩;have e:sJ p (s::r) (t::m.drop (i+1))=false:=by show (p s t&&_)=_;rw[hb];rfl
   rw[e,Wc];simp(disch:=try exact zqz)only[PQ,aN h1,q1,q2,u1,u2,f1,zz1,aa8,not_false_eq_true,if_false,ar,aq,zz0,simprocAttr]
def Bf {α:Type}(p:α->α->Bool)(l m:List α):Bool:=decide (l.length=m.length)&&sJ p l m
theorem amv {α:Type}{p:α->α->Bool}{l:List α}(h:∀a∈l,p a a=true):Bf p l l=true:=by unfold Bf;rw[ago h,zz3 rfl];rfl
section
variable {H:Hp}{a:FA}{f g:Fm}{i:Nat}{l:List Str}{r:RA}{x y:AV}
theorem an2 (h:Rw H 1 x (strs l)):aE x=some (zi (l.length:Nat)):=by have:=h.gu;rwa[gZ] at this
theorem apJ {fv:AV}{m:List Str}{p:Str->Str->Bool}(hn:l.length<=16777216)(hx:Rw H 1 x (strs l))(hy:Rw H 1 y (strs m))
  (hp:∀H1 s t,Out [] H H1->∃H',cK fv [.str s,.str t] H1=some (.bool (p s t),H')/\Out [] H1 H'):
  ∃H',cK (zf 37) [x,y,fv] H=some (.bool (Bf p l m),H')/\Out [] H H':=by
 have lx:=an2 hx;have ly:=an2 hy;unfold Bf;by_cases fV:l.length=m.length
 ·obtain⟨H',i1,i2⟩:=agC hn fV hx hy hp l 0 H (aa7 _) aaY (Out.refl _ _);rw[show (((0:Nat):Int))=0 from rfl] at i1;have aF:(((l.length:Nat):Int) != ((m.length:Nat):Int))=false:=by simp[fV]
  refine⟨H',aoF ?_,i2⟩;unfold Vi;rw[zz3 fV,acy];simp(disch:=try exact zqz)only[lx,ly,aF,i1,aaY,ar,aq,zz0,simprocAttr];cases hb:sJ p l m<;>simp
 ·have aF:(((l.length:Nat):Int) != ((m.length:Nat):Int))=true:=by simp;omega
  refine⟨H,aoF ?_,Out.refl _ _⟩;unfold Vi;simp only[lx,ly,aF,fV,decide_false,acw,zz0,simprocAttr]
structure PE (R:Rn):Prop where
 a:R.rs.length<=16777216
 b:R.sg.length<=16777216
 c:R.ts.length<=16777216
 d:∀t∈R.ts,t.after.length<=16777216
def uY (x y:Rn×Str):Bool:=(x.2==y.2)&&BM x.1 y.1
theorem ar4 {r':RA}{x x':Rn×Str}(hz:PE x.1)(hX:RV H r.dx r.xs r.tx r.sx x.1)(hY:RV H r'.dx r'.xs r'.tx r'.sx x'.1):
  ∃H',cK (zf 35) [.agg (bJ r x),.agg (bJ r' x')] H=some (.bool (uY x x'),H')/\Out [] H H':=by
 have b1:bx 77 (.agg (bJ r x)) H=some (H.next,al H (bJ r x) 77 0):=iw (by simp[bJ]);have o1:=aD H (bJ r x) 77 0;have c1:=aP H (bJ r x) 77 0;have n1:(al H (bJ r x) 77 0).next=H.next+1:=rfl;generalize al H (bJ r x) 77 0=H1 at*
 have b2:bx 77 (.agg (bJ r' x')) H1=some (H.next+1,al H1 (bJ r' x') 77 0):=by rw[<-n1];exact iw (by simp[bJ])
 have o2:=aD H1 (bJ r' x') 77 0;have c2:=aP H1 (bJ r' x') 77 0;rw[n1] at c2;have ns:=c1.out o2 zzy;have bF:=o1.trans o2;generalize bq:al H1 (bJ r' x') 77 0=H2 at*
 have k4:cellAt H2 H.next 4=some (.str x.2):=ns.cellAt rfl;have m4:cellAt H2 (H.next+1) 4=some (.str x'.2):=c2.cellAt rfl;have k0:av H2 H.next 0 4=some (rv r.dx x.1.st r.tx r.sx):=ns.av 4 0 (by simp[bJ]);have m0:av H2 (H.next+1) 0 4=some (rv r'.dx x'.1.st r'.tx r'.sx):=c2.av 4 0 (by simp[bJ]);obtain⟨H3,e3,o3⟩:=alD hz.a hz.b hz.c hz.d (hX.au bF) (hY.au bF);unfold uY;cases d0:(x.2==x'.2) with
 |false=>
  refine⟨H2,aih ?_,bF⟩;unfold U4;simp(disch:=try exact zqz)only[b1,n1,b2,k4,m4,k0,m0,d0,acw,ar,aq,zz0,simprocAttr]
 |true=>
  refine⟨H3,aih ?_,bF.trans o3⟩;unfold U4;simp(disch:=try exact zqz)only[b1,n1,b2,k4,m4,k0,m0,d0,e3,acy,ar,aq,zz0,simprocAttr]
theorem ajr (r:RA)(x:Rn×Str):(bJ r x).length=5:=rfl
theorem ahB {x:Rn×Str}(hv:(bJ r x).all aZ=true)(H:Hp):st 5 (.ptr H.next 0) (.agg (bJ r x)) (al H [.ah,(zi 0),.ah,.ah,(.str [])] 77 0)=some (al H (bJ r x) 77 0):=gJ hv rfl rfl zzx rfl
theorem FL.one {p:Nat}(h:FL H p a f){x:Rn×Str}(hr:a.ras[i]?=some r)(hx:f.aw[i]?=some x):(bJ r x).all aZ=true:=h.r.one _ (aac (T8 hr hx))
theorem apo {p q:Nat}{a b:FA}{f g:Fm}{H0:Hp}(hn:f.aw.length<=16777216)(fV:f.aw.length=g.aw.length)(hF:FL H0 p a f)(hG:FL H0 q b g)(hz:∀x∈f.aw,PE x.1):∀(r:List (Rn×Str)) (i:Nat) (H:Hp),i<=f.aw.length->f.aw.drop i=r->Out [] H0 H->
  ∃H',(∀bA:K.Fn 0,acF JN GO cK bA b.rx (zf 35) a.rx (zi (f.aw.length:Nat)) (zi (i:Nat)) H=if sJ uY r (g.aw.drop i)=true then bA H' else some (.bool false,H'))/\Out [] H0 H'
 |[],i,H,hi,h,hO=>by obtain rfl:=drop_nil hi h;refine⟨H,λbA=>?_,hO⟩;rw[Zh];simp only[SZ,df,sJ,if_true,zz0,simprocAttr]
 |x::r,i,H,hi,h,hO=>by
  obtain⟨h1,h2,h3⟩:=dU h;have es:=dC h1 zzz;obtain⟨y,hy⟩:∃b,g.aw[i]?=some b:=⟨_,aaC zzz⟩;obtain⟨ra,m,o,q1,q2,q3,q4,q5,q6,q7⟩:=(hF.au hO).at h2;have s1:=ahB ((hF.au hO).one q1 h2) H;have o1:=aD H (bJ ra x) 77 0;have c1:=aP H (bJ ra x) 77 0;have n1:(al H (bJ ra x) 77 0).next=H.next+1:=rfl;generalize bw:al H (bJ ra x) 77 0=H1 at*
  obtain⟨rb,m',o',p1,p2,p3,p4,p5,p6,p7⟩:=(hG.au (hO.trans o1)).at hy;have s2:=ahB ((hG.au (hO.trans o1)).one p1 hy) H1;have o2:=aD H1 (bJ rb y) 77 0;have c2:=aP H1 (bJ rb y) 77 0;rw[n1] at s2 c2;have bF:=o1.trans o2;have ns:=c1.out o2 zzy;generalize bq:al H1 (bJ rb y) 77 0=H2 at*
  have k1:av H2 H.next 0 5=some (bJ ra x):=ns.av 5 0 (by rw[ajr];omega);have k2:av H2 (H.next+1) 0 5=some (bJ rb y):=c2.av 5 0 (by rw[ajr];omega);obtain⟨H3,f1,f2⟩:=ar4 (hz x (aac h2)) (q7.au bF) (p7.au o2);have o3:=bF.trans f2;rw[drop_at hy];cases hb:uY x y with
  |true=>
   obtain⟨H',i1,i2⟩:=apo hn fV hF hG hz r (i+1) H3 h1 h3 (hO.trans o3);generalize g.aw.drop (i+1)=z at i1;rw[hb] at f1;refine⟨H',λbA=>?_,i2⟩;have e:sJ uY (x::r) (y::z)=sJ uY r z:=by show (uY x y&&_)=_;rw[hb];rfl
   rw[e,Zh];simp(disch:=try exact zqz)only[SZ,aN h1,q2,q6,s1,p2,p6,n1,s2,k1,k2,f1,es,i1,ar,aq,zz0,simprocAttr]
  |false=>
   rw[hb] at f1;refine⟨H3,λbA=>?_,hO.trans o3⟩;have e:sJ uY (x::r) (y::g.aw.drop (i+1))=false:=by show (uY x y&&_)=_;rw[hb];rfl
   rw[e,Zh];simp(disch:=try exact zqz)only[SZ,aN h1,q2,q6,s1,p2,p6,n1,s2,k1,k2,f1,aa8,if_false,ar,aq,zz0,simprocAttr]
theorem au3 {p q:Nat}{b:FA}(hn:f.aw.length<=16777216)(hF:FL H p a f)(hG:FL H q b g)(hz:∀x∈f.aw,PE x.1):
  ∃H',cK (zf 38) [a.rx,b.rx,.func (.func 35) [] []] H=some (.bool (Bf uY f.aw g.aw),H')/\Out [] H H':=by
 have lx:=hF.r.rl.len zzx;have ly:=hG.r.rl.len zzx;rw[aeV,hF.len,ajT] at lx;rw[aeV,hG.len,ajT] at ly;unfold Bf;by_cases fV:f.aw.length=g.aw.length
 ·obtain⟨H',i1,i2⟩:=apo hn fV hF hG hz f.aw 0 H (aa7 _) aaY (Out.refl _ _);rw[show (((0:Nat):Int))=0 from rfl] at i1;have aF:(((f.aw.length:Nat):Int) != ((g.aw.length:Nat):Int))=false:=by simp[fV]
  refine⟨H',alP ?_,i2⟩;unfold abb;rw[zz3 fV,acy];simp(disch:=try exact zqz)only[lx,ly,aF,i1,aaY,ar,aq,zz0,simprocAttr];cases hb:sJ uY f.aw g.aw<;>simp
 ·have aF:(((f.aw.length:Nat):Int) != ((g.aw.length:Nat):Int))=true:=by simp;omega
  refine⟨H,alP ?_,Out.refl _ _⟩;unfold abb;simp only[lx,ly,aF,fV,decide_false,acw,zz0,simprocAttr]
theorem aqp (a b a' b':Str)(c c':Int)(H:Hp):eO P 50 82 (.agg [.str a,.str b,zi c]) (.agg [.str a',.str b',zi c']) H=uf (λz:Option Bool=>z) [uf (λz:Bool=>some z) [a==a',b==b'],some (c==c')]:=zzw
theorem az5:Program.eqGuardType P P.depth 82=false:=zzw
theorem azS (x y:Ke)(H:Hp):gA P .neq 82 false (.agg (dB x)) (.agg (dB y))=true/\gi P .neq 82 (.agg (dB x)) (.agg (dB y)) H=some (.bool (!decide (x=y))):=by
 constructor;·show (!(Program.eqGuardType P P.depth 82))=true;rw[az5];rfl
 ·show (eO P 50 82 (.agg (dB x)) (.agg (dB y)) H).map (λb=>AV.bool !b)=_;have h:eO P 50 82 (.agg (dB x)) (.agg (dB y)) H=_:=aqp x.1.1 x.1.2 y.1.1 y.1.2 x.2 y.2 H;rw[h];obtain⟨⟨a,b⟩,c⟩:=x;obtain⟨⟨a',b'⟩,c'⟩:=y;have e:decide ((((a,b),c):Ke)=((a',b'),c'))=((a==a')&&((b==b')&&(c==c'))):=by rw[ank];simp[and_assoc]
  rw[e];generalize (a==a')=x;generalize (b==b')=y;generalize (c==c')=z;cases x<;>cases y<;>cases z<;>rfl
theorem akk {l:List Ke}{x:Ke}(h:l[i]?=some x):(l.map dB)[i]?=some (dB x):=by simp[h]
theorem aok {x y:AV}{l m:List Ke}{H:Hp}(hn:l.length<=16777216)(fV:l.length=m.length)(hx:RL H 3 x (l.map dB))(hy:RL H 3 y (m.map dB))(eN:K.Fn 0):∀(r:List Ke) (i:Nat),i<=l.length->l.drop i=r->
  XT JN GO cK eN x y (zi (l.length:Nat)) (zi (i:Nat)) H=if r=m.drop i then eN H else some (.bool false,H)
 |[],i,hi,h=>by obtain rfl:=drop_nil hi h;have:m.drop l.length=[]:=aiG zzz;rw[anJ];simp only[Te,df,this,if_true,zz0,simprocAttr]
 |t::r,i,hi,h=>by
  obtain⟨h1,h2,h3⟩:=dU h;have es:=dC h1 zzz;obtain⟨u,hu⟩:∃b,m[i]?=some b:=⟨_,aaC zzz⟩;obtain⟨b,o,q1,q2,q3,q4,q5⟩:=hx.at zzx (akk h2);obtain⟨b',o',p1,p2,p3,p4,p5⟩:=hy.at zzx (akk hu);obtain⟨g1,g2⟩:=azS t u H;have ih:=aok hn fV hx hy eN r (i+1) h1 h3;rw[anJ,drop_at hu];generalize m.drop (i+1)=s at ih;by_cases hb:t=u
  ·rw[zz3 hb] at g2;have e:(if t::r=u::s then eN H else some (.bool false,H))=if r=s then eN H else some (AV.bool false,H):=by simp[hb]
   rw[e];simp(disch:=try exact zqz)only[Te,aN h1,q1,q4,p1,p4,g1,oM,g2,es,ih,ar,aq,zz0,simprocAttr]
  ·rw[zz4 hb] at g2;have e:(if t::r=u::s then eN H else some (.bool false,H))=some (AV.bool false,H):=by simp[hb]
   rw[e];simp(disch:=try exact zqz)only[Te,aN h1,q1,q4,p1,p4,g1,oM,g2,ar,aq,zz0,simprocAttr]
theorem awO {l m:List Ke}(hn:l.length<=16777216)(hx:RL H 3 x (l.map dB))(hy:RL H 3 y (m.map dB)):cK (zf 39) [x,y] H=some (.bool (decide (l=m)),H):=by
 have lx:=hx.len zzx;have ly:=hy.len zzx;rw[abv] at lx ly;refine atO ?_;unfold alk;by_cases fV:l.length=m.length
 ·have i1:=λeN=>aok hn fV hx hy eN l 0 (aa7 _) aaY;rw[show (((0:Nat):Int))=0 from rfl] at i1;have aF:(((l.length:Nat):Int) != ((m.length:Nat):Int))=false:=by simp[fV]
  simp(disch:=try exact zqz)only[lx,ly,aF,i1,aaY,ar,aq,zz0,simprocAttr];by_cases hb:l=m<;>simp[hb]
 ·have aF:(((l.length:Nat):Int) != ((m.length:Nat):Int))=true:=by simp;omega
  have hb:l≠m:=λe=>fV (by rw[e]);simp only[lx,ly,aF,hb,decide_false,zz0,simprocAttr]
def IX (f g:Fm)(s t:Str):Bool:=(s==t)&&((eE f.aM s).getD []==(eE g.aM t).getD [])
def Tv (f g:Fm):Bool:=(f.ck==g.ck)&&(Bf (IX f g) f.nms g.nms&&(Bf uY f.aw g.aw&&decide (f.ks=g.ks)))
theorem apU {p q j:Nat}{b:FA}(hi:cellAt H i 0=some (.ptr p 0))(hj:cellAt H j 0=some (.ptr q 0))(hF:FL H p a f)(hG:FL H q b g)(s t:Str):
  cK (.func (.func 34) [] [.ptr i 0,.ptr j 0]) [.str s,.str t] H=some (.bool (IX f g s t),H):=by
 have k2:cellAt H p 2=some (.map a.tm):=hF.c.cellAt rfl;have m2:cellAt H q 2=some (.map b.tm):=hG.c.cellAt rfl;have l1:=KG hF.t hF.vI s false;have l2:=KG hG.t hG.vI t false;refine apN ?_;unfold afC IX;cases d:(s==t) with
 |false=>simp(disch:=try exact zqz)only[d,acw,ar,aq,zz0,simprocAttr]|true=>simp(disch:=try exact zqz)only[d,hi,hj,k2,m2,l1,l2,cond_false,acy,ar,aq,zz0,simprocAttr]
structure VH (f:Fm):Prop where
 n:f.nms.length<=1000
 r:f.aw.length<=1000
 k:f.ks.length<=1000
 z:∀x∈f.aw,PE x.1
theorem PI {p q:Nat}{b:FA}(hF:FL H p a f)(hG:FL H q b g)(hz:VH f)(Eu:VH g):
  ∃H',cK (zf 15) [.ptr p 0,.ptr q 0] H=some (.bool (Tv f g),H')/\Out [] H H':=by
 have b1:bx 27 (.ptr p 0) H=some (H.next,al H [.ptr p 0] 27 0):=MB rfl;have o1:=aD H [.ptr p 0] 27 0;have c1:=aP H [.ptr p 0] 27 0;have n1:(al H [.ptr p 0] 27 0).next=H.next+1:=rfl;generalize al H [.ptr p 0] 27 0=H1 at*
 have b2:bx 27 (.ptr q 0) H1=some (H.next+1,al H1 [.ptr q 0] 27 0):=by rw[<-n1];exact MB rfl
 have o2:=aD H1 [.ptr q 0] 27 0;have c2:=aP H1 [.ptr q 0] 27 0;rw[n1] at c2;have ns:=c1.out o2 zzy;have bF:=o1.trans o2;generalize bq:al H1 [.ptr q 0] 27 0=H2 at*
 have F3:=hF.au bF;have OY:=hG.au bF;have x0:cellAt H2 H.next 0=some (.ptr p 0):=ns.cellAt rfl;have y0:cellAt H2 (H.next+1) 0=some (.ptr q 0):=c2.cellAt rfl;have k0:cellAt H2 p 0=some (zi f.ck):=F3.c.cellAt rfl;have m0:cellAt H2 q 0=some (zi g.ck):=OY.c.cellAt rfl;have k1:cellAt H2 p 1=some a.nx:=F3.c.cellAt rfl;have m1:cellAt H2 q 1=some b.nx:=OY.c.cellAt rfl;obtain⟨H3,e3,o3⟩:=apJ (fv:=.func (.func 34) [] [.ptr H.next 0,.ptr (H.next+1) 0]) (p:=IX f g) (by have:=hz.n;omega) F3.n.rw OY.n.rw λHq s t ho=>⟨Hq,apU ((ns.out ho zzy).cellAt rfl) ((c2.out ho zzy).cellAt rfl) (F3.au ho) (OY.au ho) s t,Out.refl _ _⟩;have hF3:=F3.au o3;have BU:=OY.au o3;have x3:cellAt H3 H.next 0=some (.ptr p 0):=(ns.out o3 zzy).cellAt rfl;have y3:cellAt H3 (H.next+1) 0=some (.ptr q 0):=(c2.out o3 zzy).cellAt rfl;have k3:cellAt H3 p 3=some a.rx:=hF3.c.cellAt rfl;have m3:cellAt H3 q 3=some b.rx:=BU.c.cellAt rfl;obtain⟨H4,e4,o4⟩:=au3 (by have:=hz.r;omega) hF3 BU hz.z;have DT:=o3.trans o4;have Tl:=hF3.au o4;have hG4:=BU.au o4;have x4:cellAt H4 H.next 0=some (.ptr p 0):=(ns.out DT zzy).cellAt rfl;have y4:cellAt H4 (H.next+1) 0=some (.ptr q 0):=(c2.out DT zzy).cellAt rfl;have k4:cellAt H4 p 4=some (.ptr a.kp 0):=Tl.c.cellAt rfl;have m4:cellAt H4 q 4=some (.ptr b.kp 0):=hG4.c.cellAt rfl;have sp:∀i,same (.ptr i 0) (.ptr i 0)=true:=λi=>by simp[same,qP,ait]
 obtain⟨ox,H5,e5,l5,o5,r5⟩:=YR hz.k Tl.k;have hG5:=hG4.au o5;have y5:cellAt H5 (H.next+1) 0=some (.ptr q 0):=(c2.out (DT.trans o5) zzy).cellAt rfl;have m5:cellAt H5 q 4=some (.ptr b.kp 0):=hG5.c.cellAt rfl;obtain⟨oy,H6,e6,l6,o6,r6⟩:=YR Eu.k hG5.k;have e7:=awO (by have:=hz.k;omega) (l5.rl.au o6) l6.rl;have oA:=bF.trans o3;have oB:=oA.trans o4;unfold Tv;cases d0:(f.ck==g.ck) with
 |false=>
  refine⟨H2,R0 ?_,bF⟩;unfold MN;simp(disch:=try exact zqz)only[b1,n1,bq,x0,y0,k0,m0,d0,acw,ar,aq,zz0,simprocAttr]
 |true=>
  cases d1:Bf (IX f g) f.nms g.nms with
  |false=>
   rw[d1] at e3;refine⟨H3,R0 ?_,oA⟩;unfold MN;simp(disch:=try exact zqz)only[b1,n1,bq,x0,y0,k0,m0,k1,m1,d0,e3,acw,acy,ar,aq,zz0,simprocAttr]
  |true=>
   rw[d1] at e3;cases d2:Bf uY f.aw g.aw with
   |false=>
    rw[d2] at e4;refine⟨H4,R0 ?_,oB⟩;unfold MN;simp(disch:=try exact zqz)only[b1,n1,bq,x0,y0,k0,m0,k1,m1,d0,e3,x3,y3,k3,m3,e4,acw,acy,ar,aq,zz0,simprocAttr]
   |true=>
    rw[d2] at e4;refine⟨H6,R0 ?_,(oB.trans o5).trans o6⟩;unfold MN;simp(disch:=try exact zqz)only[b1,n1,bq,x0,y0,k0,m0,k1,m1,d0,e3,x3,y3,k3,m3,e4,x4,y4,k4,m4,eG (sp q),eG (sp b.kp),e5,y5,m5,e6,e7,acy,ar,aq,zz0,simprocAttr]
end
end
theorem aGN {ts:List Tk}(hn:ts.length<=16)(ha:yG ts):∀t∈ts,t.after.length<=16:=λt ht=>by obtain⟨i,hi⟩:=aca ht;obtain⟨x1,x2⟩:=Dn ha hi;have:=Px (n:=ts.length) (λa h=>⟨(x1 a h).1,(x1 a h).2.1⟩) x2;omega
end
def u3 (r:RT):Bool:=r.ph==3
def uz (rs:List RT)(k:Nat):Bool:=((rs[k]?).map u3).getD false
theorem Zi (rs:List RT)(a:Int):(BP rs a != 3) = !(uz rs a.toNat):=by unfold BP uz;cases rs[a.toNat]? <;> rfl
section
variable {rs rs':List RT}
theorem aFB (h:∀k,uz rs k=uz rs' k)(t:Tk):cn rs t=cn rs' t:=by unfold cn;refine VJ λa _=>?_;rw[Zi,Zi,h]
theorem ak9 (h:∀k,uz rs k=true->uz rs' k=true){t:Tk}(hb:cn rs t=false):cn rs' t=false:=by
 unfold cn at hb⊢;rw[akE] at hb⊢;intro a ha;have:=hb a ha;rw[Zi] at this⊢;have h1:uz rs a.toNat=true:=by simpa using this
 rw[h _ h1];simp
theorem adU {R:Rn}{i:Nat}{t:Tk}{r:RT}(ht:R.ts[i]?=some t)(hr:R.rs[i]?=some r):(js R).rs[i]?=some (lI R.rs R.sg t r):=by unfold js;simp only;rw[ac2,ht,hr]
theorem Xk {R:Rn}(h:R.rs.length=R.ts.length):(js R).rs.length=R.rs.length:=by unfold js;simp only;rw[aeV];omega
theorem akt {R:Rn}(h:R.rs.length=R.ts.length):(js R).rs.map u3=R.rs.map u3:=by
 apply akn;intro k;rw[ab9,ab9];by_cases hk:k<R.rs.length;·have e1:R.rs[k]?=some R.rs[k]:=aaC hk;have e2:R.ts[k]?=some (R.ts[k]' zzz):=aaC _;rw[adU e2 e1,e1];simp only[adX];congr 1;exact Yj _ _ _ _
 ·rw[agQ (by rw[Xk h];omega),agQ zzz]
theorem ayU (h:rs.map u3=rs'.map u3)(k:Nat):uz rs k=uz rs' k:=by unfold uz;rw[<-ab9,<-ab9,h]
theorem aEb (h:rs.map u3=rs'.map u3):rs.countP u3=rs'.countP u3:=by
 have e:∀l:List RT,l.countP u3=(l.map u3).countP id:=λl=>by rw[List.countP_map];rfl
 rw[e,e,h]
theorem aIl {l:List RT}:(l.all λr=>r.ph==3)=decide (l.countP u3=l.length):=by rw[ank,acT,zz5,List.countP_eq_length];exact Iff.rfl
theorem aDn {R:Rn}:(js R).st=if R.rs.countP u3=R.rs.length then 1 else R.st:=by
 unfold js;simp only;rw[aIl];by_cases h:R.rs.countP u3=R.rs.length;·rw[zz3 h,zz2 rfl,zz2 h]
 ·rw[zz4 h,zz1 zzy,zz1 h]
end
structure p8 (R:Rn):Prop where
 ok:oD R
 n1:1<=R.rs.length
 n2:R.rs.length<=16
 td:∀t∈R.ts,0<=t.cj/\t.cj<=8/\1<=t.base/\t.base<=1000
 tr:∀(i:Nat) (t:Tk) (r:RT),R.ts[i]?=some t->R.rs[i]?=some r->0<=r.tr/\r.tr<=t.cj+1/\(r.ph=0\/r.ph=1\/r.ph=5->r.tr<=t.cj)/\(r.ph≠0->cn R.rs t=false)
def tZ (R:Rn):Prop:=R.st=1 ↔ ∀r∈R.rs,r.ph=3
structure Step (R R':Rn):Prop where
 ts:R'.ts=R.ts
 len:R'.rs.length=R.rs.length
 mono:∀(i:Nat) (r r':RT),R.rs[i]?=some r->R'.rs[i]?=some r'->r.tr<=r'.tr/\(r.ph=3->r'=r)
 sg:R'.sg.length<=R.sg.length+1
theorem Step.refl (R:Rn):Step R R:=⟨rfl,rfl,λi r r' h h'=>by rw[h] at h';cases h';exact⟨Int.le_refl _,λ_=>rfl⟩,zzz⟩
theorem p8.bd {R:Rn}(h:p8 R):yq R:=⟨λt ht=>by have:=h.td t ht;omega,λr hr=>by obtain⟨i,hi⟩:=aca hr;have aV:=(aag.1 hi).1;have ht:R.ts[i]?=some (R.ts[i]'(by rw[<-h.ok.len];exact aV)):=aaC _;have a:=h.tr i _ r ht hi;have b:=h.td _ (aac ht);omega⟩
section
variable {i:Nat}{r r1:RT}
theorem aAR {rs:List RT}(hr:rs[i]?=some r)(h3:r.ph≠3):∀k,uz rs k=true->uz (rs.set i r1) k=true:=by
 intro k hk;by_cases e:i=k;·subst e;unfold uz at hk;rw[hr] at hk;have:(r.ph==3)=true:=hk;exact absurd (by simpa using this) h3
 ·unfold uz at hk⊢;rw[ajA e];exact hk
theorem M1 {R:Rn}{t:Tk}{s1:Int}(h:p8 R)(ht:R.ts[i]?=some t)(hr:R.rs[i]?=some r)(h3:r.ph≠3)(h0:r.ph≠0)(b1:r.tr<=r1.tr)(b2:r1.tr<=t.cj+1)(b3:r1.ph=0\/r1.ph=1\/r1.ph=5->r1.tr<=t.cj):
  p8 {R with rs:=R.rs.set i r1,st:=s1}/\Step R {R with rs:=R.rs.set i r1,st:=s1}:=by
 have hu:=aAR (r1:=r1) hr h3;have aV:=(aag.1 hr).1;have hk:=h.ok.set i r1;refine⟨⟨⟨⟨hk.sm.n,hk.sm.a,hk.sm.r,hk.sm.s⟩,hk.len,hk.lu⟩,by show 1<=(R.rs.set i r1).length;rw[acV];exact h.n1,by show (R.rs.set i r1).length<=16;rw[acV];exact h.n2,h.td,λj u q kI hq=>?_⟩,rfl,acV,λj q q' hq hq' =>?_,by show R.sg.length<=_;omega⟩
 ·have xO:(R.rs.set i r1)[j]?=some q:=hq;have xd:R.ts[j]?=some u:=kI;by_cases e:i=j;·subst e;rw[aeH aV] at xO;have e1:r1=q:=acd xO;have e2:t=u:=acd (ht.symm.trans xd);subst e1;subst e2;have a:=h.tr i t r ht hr;exact⟨zzz,b2,b3,λ_=>ak9 hu (a.2.2.2 h0)⟩
  ·rw[ajA e] at xO;have a:=h.tr j u q xd xO;exact⟨a.1,a.2.1,a.2.2.1,λz=>ak9 hu (a.2.2.2 z)⟩
 ·have xO:(R.rs.set i r1)[j]?=some q':=hq';by_cases e:i=j;·subst e;rw[aeH aV] at xO;have e1:r1=q':=acd xO;have e2:r=q:=acd (hr.symm.trans hq);subst e1;subst e2;exact⟨b1,λz=>absurd z h3⟩
  ·rw[ajA e] at xO;have e1:q=q':=acd (hq.symm.trans xO);subst e1;exact⟨Int.le_refl _,λ_=>rfl⟩
theorem V5 {R:Rn}(h:p8 R):p8 (js R)/\Step R (js R):=by
 have hl:=h.ok.len;have hlen:=Xk hl;have hb:∀t,cn (js R).rs t=cn R.rs t:=λt=>aFB (ayU (akt hl)) t;have gE:∀(i:Nat) (r:RT),(js R).rs[i]?=some r->∃t r0,R.ts[i]?=some t/\R.rs[i]?=some r0/\r=lI R.rs R.sg t r0:=by intro i r hr;have aV:=(aag.1 hr).1;rw[hlen] at aV;have e1:R.rs[i]?=some R.rs[i]:=aaC _;have e2:R.ts[i]?=some (R.ts[i]'(by rw[<-hl];exact aV)):=aaC _;rw[adU e2 e1] at hr;cases hr;exact⟨_,_,e2,e1,rfl⟩
 have e1:(js R).ts=R.ts:=rfl;have e2:(js R).sg=R.sg:=rfl;refine⟨⟨⟨⟨h.ok.sm.n,h.ok.sm.a,by rw[hlen];exact h.ok.sm.r,h.ok.sm.s⟩,by rw[hlen];exact hl,h.ok.lu⟩,by rw[hlen];exact h.n1,by rw[hlen];exact h.n2,h.td,λi t r ht hr=>?_⟩,rfl,hlen,λi r r' hr dH=>?_,by rw[e2];omega⟩
 ·obtain⟨t',r0,k1,k2,rfl⟩:=gE i r hr;have ht:R.ts[i]?=some t:=ht;rw[k1] at ht;cases ht;have a:=h.tr i t r0 k1 k2;rw[hb];unfold lI;split;·rename_i hy;unfold El at hy;simp only[aaM,alL,zz6] at hy;exact⟨a.1,a.2.1,λ_=>a.2.2.1 (.inl hy.1),λ_=>hy.2.1⟩
  ·exact a
 ·obtain⟨t',r0,k1,k2,rfl⟩:=gE i r' dH;rw[hr] at k2;cases k2;unfold lI;split;·rename_i hy;unfold El at hy;rw[aaM,zz6] at hy;exact⟨Int.le_refl _,λz=>by rw[hy.1] at z;cases z⟩
  ·exact⟨Int.le_refl _,λ_=>rfl⟩
theorem Step.trans {A B C:Rn}(h:Step A B)(k:Step B C)(hs:B.sg=A.sg\/C.sg=B.sg):Step A C:=by
 refine⟨k.ts.trans h.ts,k.len.trans h.len,λi r r' hr dH=>?_,?_⟩;·have aV:=(aag.1 hr).1;have e:B.rs[i]?=some (B.rs[i]'(by rw[h.len];exact aV)):=aaC _;obtain⟨a1,a2⟩:=h.mono i r _ hr e;obtain⟨b1,b2⟩:=k.mono i _ r' e dH;exact⟨zzz,λz=>by rw[b2 (by rw[a2 z];exact z),a2 z]⟩
 ·have a:=h.sg;have b:=k.sg;rcases hs with e|e;·rw[e] at b;exact b
  ·rw[e];exact a
theorem aFu {R:Rn}(h:R.rs.countP u3=R.rs.length->R.st=1)(h':R.rs.countP u3≠R.rs.length->R.st≠1):tZ R:=by
 unfold tZ;constructor
 ·intro e r hr;refine Classical.byContradiction λq=>?_;by_cases hc:R.rs.countP u3=R.rs.length;·rw[List.countP_eq_length] at hc;have:=hc r hr;unfold u3 at this;exact q (by simpa using this)
  ·exact h' hc e
 ·intro e;refine h ?_;rw[List.countP_eq_length];intro r hr;unfold u3;rw[e r hr];rfl
theorem S6 {R:Rn}(hr:R.rs[i]?=some r)(h3:r.ph≠3)(hs:R.st≠1):tZ R:=by unfold tZ;exact⟨λe=>absurd e hs,λe=>absurd (e r (aac hr)) h3⟩
theorem ac3 {R:Rn}(hl:R.rs.length=R.ts.length)(h0:R.st≠1):tZ (js R):=by
 have hc:=aEb (akt hl);have hlen:=Xk hl;have aC:=aDn (R:=R);refine aFu (λe=>?_) (λe=>?_);·rw[hc,hlen] at e;rw[aC,zz2 e]
 ·rw[hc,hlen] at e;rw[aC,zz1 e];exact h0
def Zu (R R':Rn)(e:Int):Prop:=e=0->p8 R'/\tZ R'/\Step R R'
theorem azP {R:Rn}(h:p8 R)(hs:tZ R)(task now:Int)(t:RT)(ht:R.rs[task.toNat]?=some t):Zu R (qn R task (jS (t.tr+1)) now).1 (qn R task (jS (t.tr+1)) now).2:=by
 intro he;unfold qn at he⊢;by_cases h0:rF R task=0
 ·obtain⟨i,u,rfl,hu,aC⟩:=Mf h0;rw[abI] at ht;have e0:u=t:=acd (hu.symm.trans ht);subst e0;have aV:=(aag.1 hu).1;have hd:R.ts[i]?=some (R.ts[i]'(by rw[<-h.ok.len];exact aV)):=aaC _;rw[zz2 h0,abI,hu,hd] at he⊢;simp only at he⊢;by_cases h1:u.ph=1;·rw[zz2 h1,zz2 trivial];have a:=h.tr i _ u hd hu;have b:=h.td _ (aac hd);have c:=a.2.2.1 (.inr (.inl h1));have ew:jS (u.tr+1)=u.tr+1:=wrap_i64 zzz zzz;obtain⟨k1,k2⟩:=M1 (s1:=R.st) (r1:=⟨2,jS (u.tr+1),jS (now+(R.ts[i]'(by rw[<-h.ok.len];exact aV)).wait),u.iP⟩) h hd hu (by rw[h1];decide) (by rw[h1];decide) (by show u.tr<=jS (u.tr+1);rw[ew];omega) (by show jS (u.tr+1)<=_;rw[ew];omega) (by intro z;rcases z with z|z|z<;>cases z);refine⟨k1,?_,k2⟩;exact S6 (i:=i) (aeH aV) (by show (2:Int)≠3;decide) (by show R.st≠1;rw[aC];decide)
  ·rw[zz1 h1] at he;cases he
 ·rw[zz1 h0] at he;exact absurd he h0
theorem azJ {R:Rn}(h:p8 R)(hs:tZ R)(task bC:Int)(d:Str):Zu R (rS R task bC d).1 (rS R task bC d).2:=by
 intro he;unfold rS at he⊢;by_cases h0:pP R task bC=0;·obtain⟨i,u,rfl,hu,aC,pH,Lq⟩:=Uk h0;have aV:=(aag.1 hu).1;have hd:R.ts[i]?=some (R.ts[i]'(by rw[<-h.ok.len];exact aV)):=aaC _;rw[zz2 h0,abI];have a:=h.tr i _ u hd hu;obtain⟨k1,k2⟩:=M1 (s1:=R.st) (r1:=⟨3,bC,0,d⟩) h hd hu (by rw[pH];decide) (by rw[pH];decide) (by show u.tr<=bC;omega) (by show bC<=_;omega) (by intro z;rcases z with z|z|z<;>cases z);obtain⟨m1,m2⟩:=V5 k1;exact⟨m1,ac3 k1.ok.len (by show R.st≠1;rw[aC];decide),k2.trans m2 (.inr rfl)⟩
 ·rw[zz1 h0] at he;exact absurd he h0
theorem alv {R:Rn}(h:p8 R){t:RT}{d:Tk}(hr:R.rs[i]?=some t)(hd:R.ts[i]?=some d)(aC:R.st=0)(pH:t.ph=2)(now:Int):p8 (nw R i t d now)/\tZ (nw R i t d now)/\Step R (nw R i t d now)/\(nw R i t d now).sg=R.sg:=by
 have aV:=(aag.1 hr).1;have a:=h.tr i d t hd hr;unfold nw;split;·rename_i hle;obtain⟨k1,k2⟩:=M1 (s1:=R.st) (r1:={t with ph:=5,fH:=jS (now+dM d.base t.tr)}) h hd hr (by rw[pH];decide) (by rw[pH];decide) (Int.le_refl _) a.2.1 (λ_=>hle);exact⟨k1,S6 (i:=i) (aeH aV) (by show (5:Int)≠3;decide) (by show R.st≠1;rw[aC];decide),k2,rfl⟩
 ·obtain⟨k1,k2⟩:=M1 (s1:=2) (r1:={t with ph:=4,fH:=0}) h hd hr (by rw[pH];decide) (by rw[pH];decide) (Int.le_refl _) a.2.1 (by intro z;rcases z with z|z|z<;>cases z);exact⟨k1,S6 (i:=i) (aeH aV) (by show (4:Int)≠3;decide) (by show (2:Int)≠1;decide),k2,rfl⟩
theorem aFL {R:Rn}(h:p8 R)(hs:tZ R)(i:Nat)(now:Int):p8 (lX now R i)/\tZ (lX now R i)/\Step R (lX now R i)/\(lX now R i).sg=R.sg:=by
 unfold lX;split
 ·rename_i t d ht hd;split;·exact⟨h,hs,Step.refl R,rfl⟩
  ·rename_i hn;rw[not_or] at hn;have aC:R.st=0:=ajy.1 hn.1;split;·rename_i pH;exact alv h ht hd aC pH now
   ·split;·rename_i pH;have aV:=(aag.1 ht).1;have a:=h.tr i d t hd ht;obtain⟨k1,k2⟩:=M1 (s1:=R.st) (r1:={t with ph:=1,fH:=0}) h hd ht (by rw[pH];decide) (by rw[pH];decide) (Int.le_refl _) a.2.1 (λ_=>a.2.2.1 (.inr (.inr pH)));exact⟨k1,S6 (i:=i) (aeH aV) (by show (1:Int)≠3;decide) (by show R.st≠1;rw[aC];decide),k2,rfl⟩
    ·exact⟨h,hs,Step.refl R,rfl⟩
 ·exact⟨h,hs,Step.refl R,rfl⟩
theorem awk {R:Rn}(h:p8 R)(hs:tZ R)(name:Str)(rK:R.sg.length<=900):Zu R (u9 R name).1 (u9 R name).2:=by
 intro he;unfold u9 at he⊢;by_cases h0:R.st≠0;·rw[zz2 h0] at he;cases he
 rw[zz1 h0] at he⊢;have aC:R.st=0:=ajy.1 h0;split at he;·cases he
 ·rename_i h5;rw[zz1 h5];split at he;·rename_i h6;rw[zz2 h6];have k1:p8 {R with sg:=R.sg++[name]}:=⟨⟨⟨h.ok.sm.n,h.ok.sm.a,h.ok.sm.r,by show (R.sg++[name]).length<=1000;rw[aal];simp;omega⟩,h.ok.len,h.ok.lu⟩,h.n1,h.n2,h.td,h.tr⟩;have k2:Step R {R with sg:=R.sg++[name]}:=⟨rfl,rfl,(Step.refl R).mono,by show (R.sg++[name]).length<=_;rw[aal];simp⟩;obtain⟨m1,m2⟩:=V5 k1;exact⟨m1,ac3 k1.ok.len (by show R.st≠1;rw[aC];decide),k2.trans m2 (.inr rfl)⟩
  ·cases he
end
theorem av9 {ts:List Tk}(hg:jD ts=0)(h1:1<=ts.length)(h2:ts.length<=16)(ha:yG ts)(hq:∀t∈ts,Bx t=false/\uA t=false):p8 (bh ts).1/\tZ (bh ts).1/\(bh ts).1.sg.length=0/\(bh ts).1.ts=ts/\(bh ts).2=0:=by
 unfold bh;rw[zz2 hg];have cZ:=aGN h2 ha;have h0:p8 ⟨ts,0,List.replicate ts.length qe,[]⟩:=by
  refine⟨⟨⟨by show ts.length<=1000;omega,λt ht=>by have:=cZ t ht;omega,by show (List.replicate ts.length qe).length<=1000;rw[afg];omega,aa7 _⟩,by show (List.replicate ts.length qe).length=ts.length;rw[afg],λt ht a haa=>?_⟩,by show 1<=(List.replicate ts.length qe).length;rw[afg];exact h1,by show (List.replicate ts.length qe).length<=16;rw[afg];exact h2,λt ht=>?_,λi t r ht hr=>?_⟩;·obtain⟨i,hi⟩:=aca ht;have:=(Dn ha hi).1 a haa;exact⟨this.1,by show a<(ts.length:Int);omega⟩
  ·have:=(hq t ht).2;unfold uA at this;simp only[ahz,akX,aaM,zz5] at this;omega
  ·have:=aac hr;have e:r=qe:=(List.mem_replicate.1 this).2;subst e;have ho:=(hq t (aac ht)).2;unfold uA at ho;simp only[ahz,akX,aaM,zz5] at ho;exact⟨by show (0:Int)<=0;omega,by show (0:Int)<=t.cj+1;omega,λ_=>by show (0:Int)<=t.cj;omega,λz=>absurd rfl z⟩
 exact⟨(V5 h0).1,ac3 h0.ok.len (by show (0:Int)≠1;decide),rfl,rfl,rfl⟩
structure TI (r:RT):Prop where
 ph:0<=r.ph/\r.ph<=5
 dt:r.iP.length<=64
 tl:0<=r.fH/\r.fH<=1099511691776
 tz:r.ph≠2->r.ph≠5->r.fH=0
structure RI (R:Rn):Prop where
 i0:p8 R
 s1:tZ R
 st:0<=R.st/\R.st<=3
 ti:∀r∈R.rs,TI r
 sn:R.sg.Nodup
 sk:∀s∈R.sg,s≠[]/\∃t∈R.ts,t.on=s
 wt:∀t∈R.ts,1<=t.wait/\t.wait<=1000
theorem aoy:∀(l m:List Str),l.Nodup->(∀x∈l,x∈m)->l.length<=m.length
 |[],m,_,_=>aa7 _|x::l,m,hn,h=>by rw[akD] at hn;have hx:=h x (.head _);have ih:=aoy l (m.erase x) hn.2 λy hy=>(List.mem_erase_of_ne λq=>hn.1 (by rw[<-q];exact hy)).2 (h y (.tail _ hy));have:=List.length_erase_of_mem hx;have:=List.length_pos_of_mem hx;rw[aaP];omega
theorem RI.sg {R:Rn}(h:RI R):R.sg.length<=16:=by
 have:=aoy R.sg (R.ts.map (·.on)) h.sn λs hs=>by obtain⟨_,t,ht,rfl⟩:=h.sk s hs;exact List.mem_map_of_mem ht
 rw[abv,<-h.i0.ok.len] at this;have:=h.i0.n2;omega
theorem RI.to {R R':Rn}(h:RI R)(a:p8 R')(b:tZ R')(lW:R'.ts=R.ts)(rK:R'.sg=R.sg)(aC:0<=R'.st/\R'.st<=3)(hti:∀r∈R'.rs,TI r):RI R':=
 ⟨a,b,aC,hti,by rw[rK];exact h.sn,by rw[rK,lW];exact h.sk,by rw[lW];exact h.wt⟩
section
variable {e:Ev}{f:Fm}{i:Nat}{l:List (Str×Str)}{now:Int}
theorem Oa {rs:List RT}{u:RT}(h:∀r∈rs,TI r)(hu:TI u):∀r∈rs.set i u,TI r:=λr hr=>(mem_set hr).elim (h r) λq=>q▸hu
theorem VO {R:Rn}(h:∀r∈R.rs,TI r):∀r∈(js R).rs,TI r:=by
 intro r hr;obtain⟨i,hi⟩:=aca hr;have hz:(List.zipWith (lI R.rs R.sg) R.ts R.rs)[i]?=some r:=hi;rw[ac2] at hz;cases ht:R.ts[i]? with
 |none=>rw[ht] at hz;cases hz
 |some t=>
  cases hq:R.rs[i]? with
  |none=>rw[ht,hq] at hz;cases hz
  |some q=>
   rw[ht,hq] at hz;have Qt:=h q (aac hq);have Eu:lI R.rs R.sg t q=r:=acd hz;subst Eu;unfold lI;split;·rename_i yt;unfold El at yt;rw[aaM,zz6] at yt;exact⟨⟨by show (0:Int)<=1;omega,by show (1:Int)<=5;omega⟩,Qt.dt,Qt.tl,λ_ _=>Qt.tz (by rw[yt.1];decide) (by rw[yt.1];decide)⟩
   ·exact Qt
theorem Y5 {R:Rn}(h:0<=R.st/\R.st<=3):0<=(js R).st/\(js R).st<=3:=by unfold js;simp only;split<;>omega
theorem aso {R:Rn}(h:RI R)(task bC now:Int)(h0:0<=now)(h1:now<=1099511627776)(he:(qn R task bC now).2=0):RI (qn R task bC now).1/\(qn R task bC now).1.ts=R.ts:=by
 have hm:rF R task=0:=by
  unfold qn at he;by_cases q:rF R task=0;·exact q
  ·rw[zz1 q] at he;exact absurd he q
 obtain⟨i,t,rfl,ht,aC⟩:=Mf hm;have aV:=(aag.1 ht).1;have hd:R.ts[i]?=some (R.ts[i]'(by rw[<-h.i0.ok.len];exact aV)):=aaC _;have Lq:bC=jS (t.tr+1):=by
  unfold qn at he;rw[zz2 hm,abI,ht,hd] at he;simp only at he;by_cases q:t.ph=1
  ·rw[zz2 q] at he;by_cases q2:bC=jS (t.tr+1);·exact q2
   ·rw[zz1 q2] at he;cases he
  ·rw[zz1 q] at he;cases he
 subst Lq;obtain⟨a,b,_⟩:=azP h.i0 h.s1 (i:Int) now t (by rw[abI];exact ht) he;have hw:=h.wt _ (aac hd);have key:qn R (i:Int) (jS (t.tr+1)) now=({R with rs:=R.rs.set i ⟨2,jS (t.tr+1),jS (now+(R.ts[i]'(by rw[<-h.i0.ok.len];exact aV)).wait),t.iP⟩},0):=by
  unfold qn at he⊢;rw[zz2 hm,abI,ht,hd] at he⊢;simp only at he⊢;by_cases q:t.ph=1;·rw[zz2 q,zz2 trivial]
  ·rw[zz1 q] at he;cases he
 have lW:(qn R (i:Int) (jS (t.tr+1)) now).1.ts=R.ts:=by rw[key]
 refine⟨h.to a b lW (by rw[key]) (by rw[key];exact h.st) ?_,lW⟩;rw[key];refine Oa h.ti ⟨⟨by show (0:Int)<=2;omega,by show (2:Int)<=5;omega⟩,(h.ti t (aac ht)).dt,?_,λq=>absurd rfl q⟩;show 0<=jS _/\jS _<=_;rw[show jS (now+(R.ts[i]'(by rw[<-h.i0.ok.len];exact aV)).wait)=now+(R.ts[i]'(by rw[<-h.i0.ok.len];exact aV)).wait from wrap_i64 zzz zzz];omega
theorem asS {R:Rn}(h:RI R)(task bC:Int)(d:Str)(hd:d.length<=64)(he:(rS R task bC d).2=0):RI (rS R task bC d).1/\(rS R task bC d).1.ts=R.ts:=by
 obtain⟨a,b,_⟩:=azJ h.i0 h.s1 task bC d he;have hm:pP R task bC=0:=by
  unfold rS at he;by_cases q:pP R task bC=0;·exact q
  ·rw[zz1 q] at he;exact absurd he q
 have key:rS R task bC d=(js {R with rs:=R.rs.set task.toNat ⟨3,bC,0,d⟩},0):=by unfold rS;rw[zz2 hm]
 rw[key] at a b⊢;refine⟨h.to a b rfl rfl (Y5 h.st) (VO (Oa h.ti ⟨⟨by show (0:Int)<=3;omega,by show (3:Int)<=5;omega⟩,hd,⟨by show (0:Int)<=0;omega,by show (0:Int)<=_;omega⟩,λ_ _=>rfl⟩)),rfl⟩
theorem aGS (b t:Int):0<=dM b t/\dM b t<=64000:=by unfold dM;have h1:=azW b.toNat t.toNat;omega
theorem ajp {R:Rn}(h:RI R){t:RT}{d:Tk}(ht:R.rs[i]?=some t)(hd:R.ts[i]?=some d)(aC:R.st=0)(pH:t.ph=2)(h0:0<=now)(h1:now<=1099511627776):RI (nw R i t d now)/\(nw R i t d now).ts=R.ts:=by
 obtain⟨a,b,_⟩:=alv h.i0 ht hd aC pH now;have hT:=h.ti t (aac ht);have hb:=aGS d.base t.tr;unfold nw at a b⊢;by_cases hle:t.tr<=d.cj;·rw[zz2 hle] at a b⊢;refine⟨h.to a b rfl rfl h.st (Oa h.ti ⟨⟨by show (0:Int)<=5;omega,by show (5:Int)<=5;omega⟩,hT.dt,?_,λ_ q=>absurd rfl q⟩),rfl⟩;show 0<=jS _/\jS _<=_;rw[show jS (now+dM d.base t.tr)=now+dM d.base t.tr from wrap_i64 zzz zzz];omega
 ·rw[zz1 hle] at a b⊢;exact⟨h.to a b rfl rfl ⟨by show (0:Int)<=2;omega,by show (2:Int)<=3;omega⟩ (Oa h.ti ⟨⟨by show (0:Int)<=4;omega,by show (4:Int)<=5;omega⟩,hT.dt,⟨by show (0:Int)<=0;omega,by show (0:Int)<=_;omega⟩,λ_ _=>rfl⟩),rfl⟩
theorem ayK {R:Rn}(h:RI R)(task bC now:Int)(h0:0<=now)(h1:now<=1099511627776)(he:(Ae R task bC now).2=0):RI (Ae R task bC now).1/\(Ae R task bC now).1.ts=R.ts:=by
 unfold Ae at he⊢;by_cases q:pP R task bC=0;·obtain⟨i,u,rfl,hu,aC,pH,Lq⟩:=Uk q;have aV:=(aag.1 hu).1;have hd:R.ts[i]?=some (R.ts[i]'(by rw[<-h.i0.ok.len];exact aV)):=aaC _;rw[zz2 q,abI,hu,hd];exact ajp h hu hd aC pH h0 h1
 ·rw[zz1 q] at he;exact absurd he q
theorem aBc {R:Rn}(h:RI R)(i:Nat)(h0:0<=now)(h1:now<=1099511627776):RI (lX now R i)/\(lX now R i).ts=R.ts:=by
 obtain⟨a,b,_⟩:=aFL h.i0 h.s1 i now;unfold lX at a b⊢;split
 ·rename_i t d ht hd;rw[ht,hd] at a b;simp only at a b;by_cases hn:R.st≠0\/now<t.fH;·rw[zz2 hn];exact⟨h,rfl⟩
  ·rw[zz1 hn] at a b⊢;rw[not_or] at hn;by_cases hp:t.ph=2;·rw[zz2 hp];exact ajp h ht hd (ajy.1 hn.1) hp h0 h1
   ·rw[zz1 hp] at a b⊢;by_cases h5:t.ph=5;·rw[zz2 h5] at a b⊢;exact⟨h.to a b rfl rfl h.st (Oa h.ti ⟨⟨by show (0:Int)<=1;omega,by show (1:Int)<=5;omega⟩,(h.ti t (aac ht)).dt,⟨by show (0:Int)<=0;omega,by show (0:Int)<=_;omega⟩,λ_ _=>rfl⟩),rfl⟩
    ·rw[zz1 h5];exact⟨h,rfl⟩
 ·exact⟨h,rfl⟩
theorem afE {now:Int}(h0:0<=now)(h1:now<=1099511627776):∀(m i:Nat) (R:Rn),RI R->RI (zv now m i R)/\(zv now m i R).ts=R.ts
 |0,i,R,h=>⟨h,rfl⟩|m+1,i,R,h=>by obtain⟨a,b⟩:=aBc h i h0 h1;obtain⟨c,d⟩:=afE h0 h1 m (i+1) _ a;exact⟨c,d.trans b⟩
theorem aG0 {R:Rn}(h:RI R)(name:Str)(he:(u9 R name).2=0):RI (u9 R name).1/\(u9 R name).1.ts=R.ts:=by
 obtain⟨a,b,_⟩:=awk h.i0 h.s1 name (by have:=h.sg;omega) he;unfold u9 at he a b⊢;by_cases h0:R.st≠0;·rw[zz2 h0] at he;cases he
 rw[zz1 h0] at he a b⊢;by_cases h5:R.sg.any (λs=>name==s)=true;·rw[zz2 h5] at he;cases he
 rw[zz1 h5] at he a b⊢;by_cases h6:K2 R.ts name=true
 ·rw[zz2 h6] at a b⊢;have sS:name∉R.sg:=λq=>h5 (List.any_eq_true.2 ⟨name,q,zzy⟩);unfold K2 at h6;rw[List.any_eq_true] at h6;obtain⟨t,ht,hq⟩:=h6;simp at hq;refine⟨⟨a,b,Y5 h.st,VO h.ti,?_,?_,h.wt⟩,rfl⟩;·show (R.sg++[name]).Nodup;rw[aeg];refine⟨h.sn,zzy,λx hx y hy q=>?_⟩;simp at hy;subst hy;subst q;exact sS hx
  ·intro s hs;have zN:s∈R.sg++[name]:=hs;rcases aa2.1 zN with q|q;·exact h.sk s q
   ·rw[No] at q;subst q;exact⟨hq.2,t,ht,hq.1⟩
 ·rw[zz1 h6] at he;cases he
theorem aHk {R:Rn}(h:RI R)(he:(yU R).2=0):RI (yU R).1/\(yU R).1.ts=R.ts:=by
 unfold yU at he⊢;by_cases h0:R.st≠0;·rw[zz2 h0] at he;cases he
 rw[zz1 h0];have aC:R.st=0:=ajy.1 h0;refine⟨h.to ⟨⟨⟨h.i0.ok.sm.n,h.i0.ok.sm.a,h.i0.ok.sm.r,h.i0.ok.sm.s⟩,h.i0.ok.len,h.i0.ok.lu⟩,h.i0.n1,h.i0.n2,h.i0.td,h.i0.tr⟩ ⟨λq=>?_,λq=>?_⟩ rfl rfl ⟨by show (0:Int)<=3;omega,by show (3:Int)<=3;omega⟩ h.ti,rfl⟩;·have:(3:Int)=1:=q;omega
 ·have:=h.s1.2 q;omega
theorem amG {text:Str}(h:(aG text).2=0):RI (bh (aG text).1).1/\(bh (aG text).1).1.ts=(aG text).1/\(bh (aG text).1).2=0:=by
 obtain⟨g1,g2,g3,g4,g5,g6⟩:=IL h;obtain⟨a,b,c,d,e⟩:=av9 g1 g2 g3 g4 g6;have h0:TI qe:=⟨⟨by show (0:Int)<=0;omega,by show (0:Int)<=5;omega⟩,aa7 _,⟨by show (0:Int)<=0;omega,by show (0:Int)<=_;omega⟩,λ_ _=>rfl⟩;refine⟨?_,d,e⟩;have rK:(bh (aG text).1).1.sg=[]:=List.length_eq_zero_iff.1 c;refine⟨a,b,?_,?_,by rw[rK];exact amN,λs hs=>by (rw[rK] at hs;cases hs),?_⟩;·unfold bh;rw[zz2 g1];exact Y5 ⟨by show (0:Int)<=0;omega,by show (0:Int)<=3;omega⟩
 ·unfold bh;rw[zz2 g1];refine VO λr hr=>?_;rw[(List.mem_replicate.1 hr).2];exact h0
 ·rw[d];intro t ht;have:=(g6 t ht).2;unfold uA at this;simp only[ahz,akX,aaM,zz5] at this;omega
structure FI (f:Fm):Prop where
 run:∀x∈f.aw,RI x.1/\∃t,eE f.aM x.2=some t/\(aG t).1=x.1.ts
 nr:f.aw.length<=64
 nn:f.nms.length<=16
 nt:f.aM.map (·.1)=f.nms
 tx:∀x∈f.aM,tY x.1=true/\(aG x.2).2=0/\lE (aG x.2).1=x.2
 nd:f.nms.Nodup
 nk:f.ks.length<=f.aw.length
 kk:∀x∈f.ks,1<=x.2/\x.2<=f.aw.length/\(∃y,f.aw[(x.2-1).toNat]?=some y/\y.2=x.1.1)/\x.1.2≠[]/\x.1.2.length<=16
 kd:(f.ks.map (·.1)).Nodup
 ck:0<=f.ck/\f.ck<=1099511627776
theorem FI.ok (h:FI f):Fok f:=⟨λx hx=>⟨(h.run x hx).1.i0.ok,(h.run x hx).1.i0.bd,by have:=(h.run x hx).1.sg;omega⟩,h.nr,h.nn,by have:=h.nk;have:=h.nr;omega⟩
theorem fi0:FI pL:=⟨λx hx=>(by cases hx),aa7 _,aa7 _,rfl,λx hx=>(by cases hx),amN,aa7 _,λx hx=>(by cases hx),amN,by show (0:Int)<=0;omega,by show (0:Int)<=_;omega⟩
theorem SH (h:CE e=true){c:Nat}(hc:c∈pS e.kd):wG e c=true:=by unfold CE at h;rw[aaM,aaM] at h;exact acT.1 h.2.2 c hc
theorem aDb {s t u:Str}(h:eE l s=some t)(x:Str×Str):eE (l++[x]) s=some t:=by unfold eE at h⊢;rw[aaq] at h;obtain⟨y,h1,h2⟩:=h;rw[List.find?_append,h1,Option.some_or,adX,h2]
theorem Fs {s t:Str}(h:eE l s=some t):(s,t)∈l:=by obtain⟨a,b,rfl,_⟩:=V4 h;simp
theorem aAb (h:FI f){s t:Str}(hs:tY s=true):FI (mH f s t).1:=by
 unfold mH;cases hg:eE f.aM s with
 |some u=>rw[zz2 (show (some u).isSome=true from rfl)];exact h|none=>
  rw[zz1 zzy];by_cases hp:(aG t).2≠0;·rw[zz2 hp];exact h
  rw[zz1 hp];have hp:=ajy.1 hp;by_cases bL:f.nms.length=16;·rw[zz2 bL];exact h
  rw[zz1 bL];obtain⟨_,_,_,_,_,_,ku⟩:=QA hp;have sS:=HV hg;refine⟨λx hx=>?_,h.nr,by show (f.nms++[s]).length<=16;rw[aal];have:=h.nn;simp;omega,by show (f.aM++[(s,lE (aG t).1)]).map (·.1)=f.nms++[s];rw[acY,h.nt];rfl,λx hx=>?_,?_,h.nk,h.kk,h.kd,h.ck⟩;·obtain⟨a,u,b,c⟩:=h.run x hx;exact⟨a,u,aDb (u:=u) b _,c⟩
  ·rcases aa2.1 hx with q|q;·exact h.tx x q
   ·rw[No] at q;subst q;exact⟨hs,by show (aG (lE (aG t).1)).2=0;rw[ku],by show lE (aG (lE (aG t).1)).1=_;rw[ku]⟩
  ·show (f.nms++[s]).Nodup;rw[aeg];refine⟨h.nd,zzy,λx hx y hy q=>?_⟩;simp at hy;subst hy;subst q;rw[<-h.nt] at hx;obtain⟨z,hz,rfl⟩:=abT.1 hx;exact sS z hz rfl
theorem ayp (h:FI f)(hk:e.ky.length<=16):FI (Hc f e).1:=by
 unfold Hc;split;·exact h
 ·rename_i t hg;split;·exact h
  rename_i PF;split;·exact h
  rename_i kH;split;·exact h
  rename_i iR;have iR:=ajy.1 iR;have hm:=Fs hg;obtain⟨_,hp,_⟩:=h.tx _ hm;obtain⟨a,b,c⟩:=amG hp;rw[zz1 (by simp[c])];have Hf:∀{i:Nat} {y:Rn×Str},f.aw[i]?=some y->(f.aw++[((bh (aG t).1).1,e.nm)])[i]?=some y:=λ{i y} q=>by rw[abd (aag.1 q).1];exact q
  have ahh:∀x∈f.ks,1<=x.2/\x.2<=((f.aw++[((bh (aG t).1).1,e.nm)]).length:Int)/\(∃y,(f.aw++[((bh (aG t).1).1,e.nm)])[(x.2-1).toNat]?=some y/\y.2=x.1.1)/\x.1.2≠[]/\x.1.2.length<=16:=by intro x hx;obtain⟨q1,q2,⟨y,q3,q4⟩,q5⟩:=h.kk x hx;refine⟨q1,by rw[aal];simp;omega,⟨y,Hf q3,q4⟩,q5⟩
  have IF:(f.aw++[((bh (aG t).1).1,e.nm)]).length<=64:=by rw[aal];have:=h.nr;simp;omega
  refine⟨λx hx=>?_,IF,h.nn,h.nt,h.tx,h.nd,?_,?_,?_,h.ck⟩
  ·rcases aa2.1 hx with q|q;·exact h.run x q
   ·rw[No] at q;subst q;exact⟨a,t,hg,b.symm⟩
  ·show (if e.ky=[] then f.ks else f.ks++[((e.nm,e.ky),e.rn)]).length<=(f.aw++[((bh (aG t).1).1,e.nm)]).length;have:=h.nk;split<;>simp<;>omega
  ·show ∀x∈(if e.ky=[] then f.ks else f.ks++[((e.nm,e.ky),e.rn)]),_;split;·exact ahh
   ·rename_i aF;intro x hx;rcases aa2.1 hx with q|q;·exact ahh x q
    ·rw[No] at q;subst q;refine⟨by show 1<=e.rn;omega,by show e.rn<=_;rw[aal];simp;omega,⟨((bh (aG t).1).1,e.nm),?_,rfl⟩,aF,hk⟩;show (f.aw++[((bh (aG t).1).1,e.nm)])[(e.rn-1).toNat]?=_;rw[show (e.rn-1).toNat=f.aw.length by omega,abk (aaO _),ajQ];rfl
  ·show ((if e.ky=[] then f.ks else f.ks++[((e.nm,e.ky),e.rn)]).map (·.1)).Nodup;split;·exact h.kd
   ·rename_i aF;rw[acY,aeg];refine⟨h.kd,zzy,λx hx y hy q=>?_⟩;simp at hy;subst hy;subst q;obtain⟨z,hz,AY⟩:=abT.1 hx;cases Kl:mY f.ks (e.nm,e.ky) with
    |none=>exact MT Kl z hz AY|some id=>exact PF ⟨aF,by rw[Kl];rfl⟩
theorem aqe (h:FI f)(h0:0<=now)(h1:now<=1099511627776):FI (G0 f now).1:=by
 unfold G0;split;·exact h
 refine⟨λx hx=>?_,by show (f.aw.map (vo now)).length<=64;rw[abv];exact h.nr,h.nn,h.nt,h.tx,h.nd,by show _<=(f.aw.map (vo now)).length;rw[abv];exact h.nk,λx hx=>?_,h.kd,h0,h1⟩;·obtain⟨y,hy,rfl⟩:=abT.1 hx;obtain⟨a,t,b,c⟩:=h.run y hy;obtain⟨d,e⟩:=afE h0 h1 y.1.rs.length 0 y.1 a;exact⟨d,t,b,c.trans e.symm⟩
 ·obtain⟨q1,q2,⟨y,q3,q4⟩,q5⟩:=h.kk x hx;refine⟨q1,by show x.2<=((f.aw.map (vo now)).length:Int);rw[abv];exact q2,⟨vo now y,?_,q4⟩,q5⟩;show (f.aw.map (vo now))[(x.2-1).toNat]?=_;rw[ab9,q3];rfl
theorem aFA {R:Rn}(h:RI R){ck:Int}(h0:0<=ck)(h1:ck<=1099511627776)(hd:e.kd=4->e.dt.length<=64)(he:(nX R e ck).2=0):RI (nX R e ck).1/\(nX R e ck).1.ts=R.ts:=by
 unfold nX at he⊢;split;·rename_i q;rw[zz2 q] at he;exact aso h _ _ _ h0 h1 he
 ·rename_i q3;rw[zz1 q3] at he;split;·rename_i q;rw[zz2 q] at he;exact asS h _ _ _ (hd q) he
  ·rename_i q4;rw[zz1 q4] at he;split;·rename_i q;rw[zz2 q] at he;exact ayK h _ _ _ h0 h1 he
   ·rename_i q5;rw[zz1 q5] at he;split;·rename_i q;rw[zz2 q] at he;exact aG0 h _ he
    ·rename_i q7;rw[zz1 q7] at he;exact aHk h he
theorem ayL (h:FI f)(hd:e.kd=4->e.dt.length<=64):FI (FX f e).1:=by
 unfold FX;split;·exact h
 ·rename_i x hx;split
  ·rename_i he;have hm:=aac hx;have aV:=(aag.1 hx).1;obtain⟨a,t,b,c⟩:=h.run x hm;obtain⟨d,g⟩:=aFA a h.ck.1 h.ck.2 hd he;refine⟨λy hy=>?_,by show (f.aw.set _ _).length<=64;rw[acV];exact h.nr,h.nn,h.nt,h.tx,h.nd,by show _<=(f.aw.set _ _).length;rw[acV];exact h.nk,λy hy=>?_,h.kd,h.ck⟩
   ·rcases adt hy with q|rfl;·exact h.run y q
    ·exact⟨d,t,b,c.trans g.symm⟩
   ·obtain⟨q1,q2,⟨z,q3,q4⟩,q5⟩:=h.kk y hy;refine⟨q1,by show y.2<=((f.aw.set _ _).length:Int);rw[acV];exact q2,?_,q5⟩;show ∃w,(f.aw.set (e.rn-1).toNat ((nX x.1 e f.ck).1,x.2))[(y.2-1).toNat]?=some w/\w.2=y.1.1;rw[ahy];by_cases hq:(e.rn-1).toNat=(y.2-1).toNat;·rw[zz2 hq,zz2 aV];refine⟨_,rfl,?_⟩;rw[<-hq] at q3;have:=acd (hx.symm.trans q3);rw[this];exact q4
    ·rw[zz1 hq];exact⟨z,q3,q4⟩
  ·exact h
theorem HL (h:FI f)(e:Ev):FI (qu f e).1:=by
 unfold qu;by_cases hg:CE e=true
 ·rw[zz2 hg];split;·rename_i hk;have:=SH hg (c:=77) (by rw[hk];simp[pS]);unfold wG at this;simp at this;exact aAb h this
  split;·rename_i xA hk;have:=SH hg (c:=75) (by rw[hk];simp[pS]);unfold wG at this;simp at this;exact ayp h this
  split;·rename_i xA iu hk;have:=SH hg (c:=78) (by rw[hk];simp[pS]);unfold wG nu at this;rw[zz1 zzx,zz1 zzx,zz1 zzx,zz2 rfl,zz1 zzz] at this;simp at this;exact aqe h zzz this.2
  split;·exact h
  split;·exact h
  ·refine ayL h λhk=>?_;have:=SH hg (c:=68) (by rw[hk];simp[pS]);unfold wG at this;rw[zz1 zzx,zz1 zzx,zz1 zzx,zz1 zzx,zz1 zzx,zz1 zzx,zz1 zzz] at this;simpa using this
 ·rw[zz1 hg];exact h
end
end
theorem FI.sz {f:Fm}(h:FI f):VH f:=
 ⟨by have:=h.nn;omega,by have:=h.nr;omega,by have:=h.nk;have:=h.nr;omega,λx hx=>by obtain⟨hr,_⟩:=h.run x hx;have hs:=hr.i0.ok.sm;exact⟨by have:=hs.r;omega,by have:=hs.s;omega,by have:=hs.n;omega,λt ht=>by have:=hs.a t ht;omega⟩⟩
theorem adu (R:Rn):BM R R=true:=by unfold BM;simp
theorem Q0 (f:Fm):Tv f f=true:=by unfold Tv;rw[amv λs _=>by simp[IX],amv λx _=>by simp[uY,adu]];simp
noncomputable def allM:Fm->List Ev->Fm
 |f,[]=>f|f,e::r=>allM (qu f e).1 r
theorem X8:∀{l:List Ev} {f:Fm},FI f->FI (allM f l)
 |[],f,h=>h|e::r,f,h=>X8 (l:=r) (HL h e)
theorem aGb (e:Ev)(H:Hp):st 8 (.ptr H.next 0) (.agg (aQ e)) (al H zE 26 0)=some (al H (aQ e) 26 0):=gJ rfl rfl rfl zzx rfl
section
variable {H:Hp}{l:List Ev}{x:AV}
theorem DE {i:Nat}{e:Ev}(h:l[i]?=some e):(np l)[i]?=some (aQ e):=by unfold np;rw[ab9,h];rfl
theorem yf (h:RL H 8 x (np l)):aE x=some (zi (l.length:Nat)):=by have:=h.len zzx;unfold np at this;rwa[abv] at this
theorem agR {p:Nat}{x:AV}{l:List Ev}(hl:l.length<=1000):∀(r:List Ev) (i:Nat) (H:Hp) (a:FA) (f:Fm),i<=l.length->l.drop i=r->RL H 8 x (np l)->(∀j∈ak x,j∉own p a)->FL H p a f->FI f->Gl H->
  ∃a' H',(∀j4:K.Fn 1,acI JN GO cK j4 (.ptr p 0) x (zi (l.length:Nat)) (zi (i:Nat)) H=j4 (.ptr p 0) H')/\FL H' p a' (allM f r)/\FSt H H' p a a'
 |[],i,H,a,f,hi,h,hx,hd,hF,hI,hg=>by obtain rfl:=drop_nil hi h;refine⟨a,H,λj4=>?_,hF,FSt.same (Out.refl _ _) p a⟩;rw[alK];simp only[abE,df,zz0,simprocAttr]
 |e::r,i,H,a,f,hi,h,hx,hd,hF,hI,hg=>by
  obtain⟨h1,h2,h3⟩:=dU h;have es:=dC h1 zzz;obtain⟨b,o,q1,q2,q3,q4,q5⟩:=hx.at zzx (DE h2);have hz:=aGb e H;have o1:=aD H (aQ e) 26 0;have c1:=aP H (aQ e) 26 0;generalize bw:al H (aQ e) 26 0=H1 at*
  have ek:av H1 H.next 0 8=some (aQ e):=c1.av 8 0 (by rw[tD];omega);obtain⟨a',H2,u1,u2,u3⟩:=Kx (hF.au o1) (hg.au o1) hI.ok e;have dA:=hx.1.lt;obtain⟨a2,H',i1,i2,i3⟩:=agR hl r (i+1) H2 a' (qu f e).1 h1 h3 ((hx.au o1).out u3.o λj hj z=>hd j hj z) (λj hj z=>(u3.w j z).elim (hd j hj) λz=>by have:=dA j hj;have:=o1.1;omega) u2 (HL hI e) ((hg.au o1).out u3.o hF.lo);refine⟨a2,H',λj4=>?_,i2,((FSt.same o1 p a).trans u3).trans i3⟩;rw[alK];simp(disch:=try exact zqz)only[abE,aN h1,q1,q4,hz,bw,ek,u1,es,i1,ar,aq,zz0,simprocAttr]
theorem aGw (hl:l.length<=1000)(hg:Gl H)(kD:11<=H.next)(hx:RL H 8 x (np l)):
  ∃p a H',cK (zf 13) [x] H=some (.ptr p 0,H')/\FL H' p a (allM pL l)/\Out [] H H'/\(∀j∈own p a,H.next<=j)/\∀j∈bD.dL a,H.next<=j:=by
 obtain⟨p,a,H1,n1,n2,n3,n4,n5⟩:=alj kD;have dA:=hx.1.lt;have dO:=yf hx;obtain⟨a',H',i1,i2,i3⟩:=agR hl l 0 H1 a pL (aa7 _) aaY (hx.au n3) (λj hj z=>by have:=dA j hj;have:=n4 j z;omega) n2 fi0 (hg.au n3);rw[show (((0:Nat):Int))=0 from rfl] at i1;have l1:=n3.1;refine⟨p,a',H',aEB ?_,i2,n3.then i3.o λj hj=>.inr (n4 j hj),λj hj=>(i3.w j hj).elim (n4 j) λz=>zzz,λj hj=>(i3.i j hj).elim (λz=>by unfold bD.dL at z;rw[n5] at z;cases z) λz=>zzz⟩;unfold af0;simp(disch:=try exact zqz)only[n1,dO,i1,ar,aq,zz0,simprocAttr]
end
end
theorem tQ (n a b:Int)(H:Hp):cK (zf 93) [zi n,zi a,zi b] H=some (.bool (nu n a b),H):=by
 refine awp ?_;unfold afq nu;by_cases h1:a<=n;·simp(disch:=try exact zqz)only[h1,acy,ar,aq,zz0,simprocAttr]
 ·simp(disch:=try exact zqz)only[h1,acw,ar,aq,zz0,simprocAttr]
def Ar (t:Tk)(r:RT):Bool:=
 nu r.ph 0 5&&(nu r.tr 0 (t.cj+1)&&(!decide (64<r.iP.length)&&(!decide (r.fH<0)&&(!decide (1099511691776<r.fH)&&(((r.ph==2)||(r.ph==5))||(r.fH==0))))))
def uk (ts:List Tk)(l:List Str):Str->Nat->Bool:=λs i=>!((l.take i).any (λa=>s==a))&&(!(s==[])&&ts.any (λt=>t.on==s))
noncomputable def wo (R:Rn)(ts:List Tk):Bool:=
 decide ((bh ts).2=0)&&(nu R.st 0 3&&(decide (R.rs.length=ts.length)&&(BM {R with ts:=(bh ts).1.ts} R &&
  ((List.zipWith Ar ts R.rs).all id&&(List.zipWith (uk ts R.sg) R.sg (List.range R.sg.length)).all id))))
section
variable {H:Hp}{dx x:AV}{i:Nat}{ts:List Tk}{xs:List AV}
theorem aGB {t:Tk}(ht:ts[i]?=some t)(hx:xs[i]?=some x):(List.zipWith aH ts xs)[i]?=some (aH t x):=by rw[ac2,ht,hx]
theorem RD.cj (h:RD H dx xs ts){t:Tk}(ht:ts[i]?=some t):∃b o,(∀k,ia 6 dx (.int k i)=some (.ptr b o))/\cellAt H b (o+2)=some (zi t.cj):=by have hi:=(aag.1 ht).1;have hx:xs[i]?=some (xs[i]'(by rw[h.len];exact hi)):=aaC _;obtain⟨b,o,q1,q2,q3,q4,q5⟩:=h.row.at zzx (aGB ht hx);exact⟨b,o,q1,q5 2 _ rfl⟩
theorem afy {ts:List Tk}{rs:List RT}{p d:Nat}{dx tx:AV}{xs:List AV}(hlen:rs.length=ts.length)(hn:rs.length<=1000)(hq:∀t∈ts,0<=t.cj/\t.cj<=8):∀(r:List RT) (i:Nat) (H:Hp),i<=rs.length->rs.drop i=r->RL H 4 tx (eL rs)->RD H dx xs ts->Cs H d [dx] 72 0->
  ∃H',(∀ux:K.Fn 2,SQ JN GO cK ux (.ptr p 0) (.ptr d 0) tx (zi (rs.length:Nat)) (zi (i:Nat)) H=if (List.zipWith Ar (ts.drop i) r).all id=true then ux (.ptr p 0) (.ptr d 0) H' else some (.bool false,H'))/\Out [] H H'
 |[],i,H,hi,h,hT,hD,hd=>by obtain rfl:=drop_nil hi h;refine⟨H,λux=>?_,Out.refl _ _⟩;rw[XM,List.zipWith_nil_right];simp only[yc,df,List.all_nil,if_true,zz0,simprocAttr]
 |u::r,i,H,hi,h,hT,hD,hd=>by
  obtain⟨h1,h2,h3⟩:=dU h;have es:=dC h1 zzz;obtain⟨t,ht⟩:∃t,ts[i]?=some t:=⟨_,aaC zzz⟩;obtain⟨r1,r2⟩:=hq t (aac ht);have er:IntKind.wrap .i64 (t.cj+1)=t.cj+1:=wrap_i64 zzz zzz;obtain⟨b,o,q1,q2,q3,q4,q5⟩:=hT.at zzx (sP h2);have hz:st 4 (.ptr H.next 0) (.agg (dT u)) (al H [zi 0,zi 0,zi 0,.str []] 132 0)=some (al H (dT u) 132 0):=gJ rfl rfl rfl zzx rfl;have o1:=aD H (dT u) 132 0;have c1:=aP H (dT u) 132 0;generalize bw:al H (dT u) 132 0=H1 at*
  have k0:cellAt H1 H.next 0=some (zi u.ph):=c1.cellAt rfl;have k1:cellAt H1 H.next 1=some (zi u.tr):=c1.cellAt rfl;have k2:cellAt H1 H.next 2=some (zi u.fH):=c1.cellAt rfl;have k3:cellAt H1 H.next 3=some (.str u.iP):=c1.cellAt rfl;have fX:=hd.out o1 zzy;have Dk:=hT.au o1;have Da:=hD.au o1;have kd:cellAt H1 d 0=some dx:=fX.cellAt rfl;obtain⟨b2,o2,p1,p2⟩:=Da.cj ht;obtain⟨H',i1,i2⟩:=afy (p:=p) hlen hn hq r (i+1) H1 h1 h3 Dk Da fX;rw[drop_at ht,List.zipWith_cons_cons,alZ];have hid:∀b:Bool,id b=b:=λ_=>rfl;rw[hid];cases hM:Ar t u with
  |true=>
   unfold Ar at hM;simp only[aaM,alL] at hM;obtain⟨m1,m2,m3,m4,m5,m6⟩:=hM;have MM:decide ((64:Int)<((u.iP.length:Nat):Int))=false:=by rw[decide_eq_false_iff_not] at m3⊢;omega
   refine⟨H',λux=>?_,o1.trans i2⟩;rw[XM,acy,<-i1 ux];cases a2:(u.ph==2) with
   |true=>simp(disch:=try exact zqz)only[yc,aN h1,q1,q4,hz,bw,k0,k1,k2,k3,kd,p1,p2,er,a2,tQ,m1,m2,MM,m4,m5,es,ar,aq,zz0,simprocAttr]|false=>
    cases a5:(u.ph==5) with
    |true=>simp(disch:=try exact zqz)only[yc,aN h1,q1,q4,hz,bw,k0,k1,k2,k3,kd,p1,p2,er,a2,a5,tQ,m1,m2,MM,m4,m5,es,ar,aq,zz0,simprocAttr]|false=>
     rw[a2,a5,Bool.or_false,anA,zz6] at m6;have m6':(u.fH != 0)=false:=by simp[m6]
     simp(disch:=try exact zqz)only[yc,aN h1,q1,q4,hz,bw,k0,k1,k2,k3,kd,p1,p2,er,a2,a5,tQ,m1,m2,MM,m4,m5,m6',es,ar,aq,zz0,simprocAttr]
  |false=>
   refine⟨H1,λux=>?_,o1⟩;rw[XM,acw,zz1 zzx];unfold Ar at hM;have key:∀c2 c5:Bool,(u.ph==2)=c2->(u.ph==5)=c5->yc JN GO cK ux (SQ JN GO cK ux) (.ptr p 0) (.ptr d 0) tx (zi (rs.length:Nat)) (zi (i:Nat)) H=some (.bool false,H1):=by
    intro c2 c5 a2 a5;cases m1:nu u.ph 0 5 with
    |false=>cases c2<;>cases c5<;>simp(disch:=try exact zqz)only[yc,aN h1,q1,q4,hz,bw,k0,k1,k2,k3,kd,p1,p2,er,a2,a5,tQ,m1,es,ar,aq,zz0,simprocAttr]|true=>
    cases m2:nu u.tr 0 (t.cj+1) with
    |false=>cases c2<;>cases c5<;>simp(disch:=try exact zqz)only[yc,aN h1,q1,q4,hz,bw,k0,k1,k2,k3,kd,p1,p2,er,a2,a5,tQ,m1,m2,es,ar,aq,zz0,simprocAttr]|true=>
    cases m3:decide ((64:Int)<((u.iP.length:Nat):Int)) with
    |true=>cases c2<;>cases c5<;>simp(disch:=try exact zqz)only[yc,aN h1,q1,q4,hz,bw,k0,k1,k2,k3,kd,p1,p2,er,a2,a5,tQ,m1,m2,m3,es,ar,aq,zz0,simprocAttr]|false=>
    have MM:decide (64<u.iP.length)=false:=by rw[decide_eq_false_iff_not] at m3⊢;omega
    cases m4:decide (u.fH<0) with
    |true=>cases c2<;>cases c5<;>simp(disch:=try exact zqz)only[yc,aN h1,q1,q4,hz,bw,k0,k1,k2,k3,kd,p1,p2,er,a2,a5,tQ,m1,m2,m3,m4,es,ar,aq,zz0,simprocAttr]|false=>
    cases m5:decide (1099511691776<u.fH) with
    |true=>cases c2<;>cases c5<;>simp(disch:=try exact zqz)only[yc,aN h1,q1,q4,hz,bw,k0,k1,k2,k3,kd,p1,p2,er,a2,a5,tQ,m1,m2,m3,m4,m5,es,ar,aq,zz0,simprocAttr]|false=>
     rw[m1,m2,MM,m4,m5,a2,a5] at hM;cases c2 with
     |true=>cases hM
     |false=>
      cases c5 with
      |true=>cases hM
      |false=>
       have m6:(u.fH != 0)=true:=by rw[bne,alL];simpa using hM
       simp(disch:=try exact zqz)only[yc,aN h1,q1,q4,hz,bw,k0,k1,k2,k3,kd,p1,p2,er,a2,a5,tQ,m1,m2,m3,m4,m5,m6,es,ar,aq,zz0,simprocAttr]
   exact key _ _ rfl rfl
theorem aCn {t:Tk}{s:Str}{p:Nat}(hp:cellAt H p 0=some (.str s))(gR:p<H.next):
  ∃H',cK (.func (.func 96) [] [.ptr p 0]) [.agg (aH t x)] H=some (.bool (t.on==s),H')/\Out [] H H':=by
 have o1:=aD H (aH t x) 99 0;have c1:=aP H (aH t x) 99 0;have b1:=xc t x H;generalize al H (aH t x) 99 0=H1 at*
 obtain⟨e0,e1,e2,e3,e4,e5⟩:=uQ t x;have k5:=c1.cellAt e5;have kp:cellAt H1 p 0=some (.str s):=by rw[o1.cellAt gR zzy];exact hp
 refine⟨H1,aHV ?_,o1⟩;unfold afk;simp(disch:=try exact zqz)only[b1,k5,kp,ar,aq,zz0,simprocAttr]
def onL (s:Str)(c:List AV):Bool:=match c[5]? with|some (AV.str a)=>a==s|_=>false
theorem adj (s:Str):∀(ts:List Tk) (xs:List AV),xs.length=ts.length->(List.zipWith aH ts xs).any (onL s)=ts.any (λt=>t.on==s)
 |[],_,_=>rfl|t::ts,[],h=>by simp at h
 |t::ts,x::xs,h=>by rw[List.zipWith_cons_cons,List.any_cons,List.any_cons,adj s ts xs (by simpa using h)];rfl
theorem ane {ts:List Tk}{sg:List Str}{p d:Nat}{dx sx:AV}{xs:List AV}{F:List AV}(hF:F[3]?=some sx)(hn:sg.length<=1000)(htn:ts.length<=1000):∀(r:List Str) (i:Nat) (H:Hp),i<=sg.length->sg.drop i=r->Rw H 1 sx (strs sg)->RD H dx xs ts->Cs H d [dx] 72 0->Cs H p F 75 0->
  ∃H',(∀xp:K.Fn 0,V1 JN GO cK xp (.ptr p 0) (.ptr d 0) sx (zi (sg.length:Nat)) (zi (i:Nat)) H=if (List.zipWith (uk ts sg) r ((List.range sg.length).drop i)).all id=true then xp H' else some (.bool false,H'))/\Out [] H H'
 |[],i,H,hi,h,hS,hD,hd,hp=>by obtain rfl:=drop_nil hi h;refine⟨H,λxp=>?_,Out.refl _ _⟩;rw[Mh,List.zipWith_nil_left];simp only[HW,df,List.all_nil,if_true,zz0,simprocAttr]
 |s::r,i,H,hi,h,hS,hD,hd,hp=>by
  obtain⟨h1,h2,h3⟩:=dU h;have es:=dC h1 zzz;obtain⟨q,q1,q2⟩:=hS.fW (mS h2) .i64;have hz:st 1 (.ptr H.next 0) (.str s) (al H [.str []] 9 0)=some (al H [.str s] 9 0):=R1 (l:=[.str []]) rfl rfl zzx zzx;have o1:=aD H [.str s] 9 0;have c1:=aP H [.str s] 9 0;have n1:(al H [.str s] 9 0).next=H.next+1:=rfl;generalize bw:al H [.str s] 9 0=H1 at*
  have ks:cellAt H1 H.next 0=some (.str s):=c1.cellAt rfl;have fX:=hd.out o1 zzy;have W0:=hp.out o1 zzy;have Jr:=hS.au o1;have Da:=hD.au o1;have kd:cellAt H1 d 0=some dx:=fX.cellAt rfl;have kp:cellAt H1 p 3=some sx:=W0.cellAt hF;obtain⟨wW,s1,s2,s3⟩:=yD (n:=sg.length) Jr (by rw[gZ,adM]) zzx (a:=0) (b:=i) (lo:=none) (hi:=some (zi (i:Nat))) (aa7 _) hi (Bd.no 0) (Bd.yes _ _ _);have oq:((strs sg).drop (0*1)).take ((i-0)*1)=strs (sg.take i):=by simp[strs,List.map_take]
  rw[oq] at s2;have n0:=Xo s2 (by rw[ad8];omega) s;have hr:(List.range sg.length)[i]?=some i:=by rw[List.getElem?_range];simp[h1]
  rw[drop_at hr,List.zipWith_cons_cons,alZ];have hid:∀b:Bool,id b=b:=λ_=>rfl;rw[hid];cases c3:((sg.take i).any (λa=>s==a)) with
  |true=>
   have hM:uk ts sg s i=false:=by unfold uk;rw[c3];rfl
   refine⟨H1,λxp=>?_,o1⟩;rw[Mh,hM,acw,zz1 zzx];simp(disch:=try exact zqz)only[HW,aN h1,q1,q2,hz,bw,ks,kp,s1,n0,c3,ar,aq,zz0,simprocAttr]
  |false=>
   cases c4:(s==[]) with
   |true=>
    have hM:uk ts sg s i=false:=by unfold uk;rw[c3,c4];rfl
    refine⟨H1,λxp=>?_,o1⟩;rw[Mh,hM,acw,zz1 zzx];simp(disch:=try exact zqz)only[HW,aN h1,q1,q2,hz,bw,ks,kp,s1,n0,c3,c4,ar,aq,zz0,simprocAttr]
   |false=>
    obtain⟨H2,t1,t2⟩:=apG (fv:=.func (.func 96) [] [.ptr H.next 0]) (p:=onL s) Da.row (by rw[aeV,Da.len,ajT];omega) (λH' k c hc=>by
     obtain⟨j,hj⟩:=aca hc;rw[ac2] at hj;cases ht:ts[j]? with
     |none=>rw[ht] at hj;cases hj
     |some t=>
      cases hx:xs[j]? with
      |none=>rw[ht,hx] at hj;cases hj
      |some x=>
       rw[ht,hx] at hj;obtain rfl:=acd hj;have gR:H.next<H1.next:=zzz;exact aCn (by rw[k.cellAt gR zzy];exact ks) (adi gR k.1))
    rw[adj s ts xs Da.len] at t1;have bF:=o1.trans t2;cases c5:ts.any (λt=>t.on==s) with
    |false=>
     have hM:uk ts sg s i=false:=by unfold uk;rw[c3,c4,c5];rfl
     rw[c5] at t1;refine⟨H2,λxp=>?_,bF⟩;rw[Mh,hM,acw,zz1 zzx];simp(disch:=try exact zqz)only[HW,aN h1,q1,q2,hz,bw,ks,kp,kd,s1,n0,c3,c4,t1,ar,aq,zz0,simprocAttr]
    |true=>
     have hM:uk ts sg s i=true:=by unfold uk;rw[c3,c4,c5];rfl
     rw[c5] at t1;obtain⟨H',i1,i2⟩:=ane (p:=p) (d:=d) hF hn htn r (i+1) H2 h1 h3 (Jr.au t2) (Da.au t2) (fX.out t2 zzy) (W0.out t2 zzy);refine⟨H',λxp=>?_,bF.trans i2⟩;rw[Mh,hM,acy,<-i1 xp];simp(disch:=try exact zqz)only[HW,aN h1,q1,q2,hz,bw,ks,kp,kd,s1,n0,c3,c4,t1,es,ar,aq,zz0,simprocAttr]
theorem UL (h:(bh ts).2=0):(bh ts).1.ts=ts:=by
 unfold bh at h⊢;by_cases hg:jD ts=0;·rw[zz2 hg];rfl
 ·rw[zz1 hg] at h;exact absurd h hg
theorem ap5 {tx sx ex:AV}{ys:List AV}{R:Rn}(hR:RV H dx xs tx sx R)(hD:RD H ex ys ts)(hn:ts.length<=1000)(cZ:∀t∈ts,t.after.length<=1000)(hq:∀t∈ts,0<=t.cj/\t.cj<=8)(hr:R.rs.length<=1000)(hg:R.sg.length<=1000):
  ∃H',cK (zf 57) [.agg (rv dx R.st tx sx),dv ex] H=some (.bool (wo R ts),H')/\Out [] H H':=by
 have b1:bx 75 (.agg (rv dx R.st tx sx)) H=some (H.next,al H (rv dx R.st tx sx) 75 0):=iw zzy;have o1:=aD H (rv dx R.st tx sx) 75 0;have c1:=aP H (rv dx R.st tx sx) 75 0;have n1:(al H (rv dx R.st tx sx) 75 0).next=H.next+1:=rfl;generalize al H (rv dx R.st tx sx) 75 0=H1 at*
 have b2:bx 72 (dv ex) H1=some (H.next+1,al H1 [ex] 72 0):=by rw[<-n1];exact iw zzy
 have o2:=aD H1 [ex] 72 0;have c2:=aP H1 [ex] 72 0;have n2:(al H1 [ex] 72 0).next=H.next+2:=by rw[bT,n1]
 rw[n1] at c2;generalize bq:al H1 [ex] 72 0=H2 at*
 have bF:=o1.trans o2;have kl:av H2 (H.next+1) 0 1=some [ex]:=c2.av 1 0 zzy;obtain⟨fx,fs,gx,gs,H3,r1,r2,r3,r4⟩:=UG (hD.au bF) hn cZ;have hz:st 4 (.ptr H3.next 0) (.agg (rv fx (bh ts).1.st gx gs)) (al H3 zR 75 0)=some (al H3 (rv fx (bh ts).1.st gx gs) 75 0):=gJ (by simp[r2.v.d.row.one,r2.t.rl.one,r2.s.lr,iS]) rfl rfl zzx rfl;have o4:=aD H3 (rv fx (bh ts).1.st gx gs) 75 0;have c4:=aP H3 (rv fx (bh ts).1.st gx gs) 75 0;have n3:=r3.1;have DT:=(bF.trans r3).trans o4;generalize hA4:al H3 (rv fx (bh ts).1.st gx gs) 75 0=H4 at*
 have cp:=((c1.out o2 zzy).out r3 zzy).out o4 zzy;have cd:=(c2.out r3 zzy).out o4 zzy;have k1:cellAt H4 H.next 1=some (zi R.st):=cp.cellAt rfl;have k2:cellAt H4 H.next 2=some tx:=cp.cellAt rfl;have k3:cellAt H4 H.next 3=some sx:=cp.cellAt rfl;have kd:cellAt H4 (H.next+1) 0=some ex:=cd.cellAt rfl;have lt:=hR.t.len zzx;rw[AJ] at lt;have le:=hD.aE;unfold wo;by_cases he:(bh ts).2=0
 rotate_left
 ·have d0:((bh ts).2 != 0)=true:=by simp[he]
  rw[zz4 he];refine⟨H4,Ku ?_,DT⟩;unfold Gb;simp(disch:=try exact zqz)only[b1,n1,b2,bq,kl,r1,hz,hA4,d0,acw,ar,aq,zz0,simprocAttr]
 have d0:((bh ts).2 != 0)=false:=by simp[he]
 rw[zz3 he,acy];cases m1:nu R.st 0 3 with
 |false=>
  refine⟨H4,Ku ?_,DT⟩;unfold Gb;simp(disch:=try exact zqz)only[b1,n1,b2,bq,kl,r1,hz,hA4,d0,k1,tQ,m1,acw,ar,aq,zz0,simprocAttr]
 |true=>
 by_cases hl:R.rs.length=ts.length
 rotate_left
 ·have d1:(((R.rs.length:Nat):Int) != ((ts.length:Nat):Int))=true:=by simp;omega
  rw[zz4 hl];refine⟨H4,Ku ?_,DT⟩;unfold Gb;simp(disch:=try exact zqz)only[b1,n1,b2,bq,kl,r1,hz,hA4,d0,k1,k2,kd,lt,le,tQ,m1,d1,acw,acy,ar,aq,zz0,simprocAttr]
 have d1:(((R.rs.length:Nat):Int) != ((ts.length:Nat):Int))=false:=by simp[hl]
 rw[zz3 hl,acy,acy];have hN:∀j,j∈[H3.next]->H.next<=j:=ll zzz;have ym:H.next∉[H3.next]:=by rw[No];omega
 have hdn:H.next+1∉[H3.next]:=by rw[No];omega
 obtain⟨H5,u1,u2,u3,u4⟩:=ff c4 zzx (o:=1) zzy (v:=zi R.st) rfl;obtain⟨H6,v1,v2,v3,v4⟩:=ff u2 zzx (o:=2) zzy (v:=tx) hR.t.one;obtain⟨H7,w1,w2,w3,w4⟩:=ff v2 zzx (o:=3) zzy (v:=sx) hR.s.one;have fY:(((rv fx (bh ts).1.st gx gs).set 1 (zi R.st)).set 2 tx).set 3 sx=rv fx R.st tx sx:=rfl;rw[fY] at w2;have Za:=cp.out u3 ym;have cp6:=Za.out v3 ym;have cp7:=cp6.out w3 ym;have cd7:=((cd.out u3 hdn).out v3 hdn).out w3 hdn;have xm:cellAt H5 H.next 2=some tx:=Za.cellAt rfl;have tR:cellAt H5 H.next 3=some sx:=Za.cellAt rfl;have vZ:cellAt H6 H.next 3=some sx:=cp6.cellAt rfl;have f7:av H7 H3.next 0 4=some (rv fx R.st tx sx):=w2.av 4 0 zzy;have p7:av H7 H.next 0 4=some (rv dx R.st tx sx):=cp7.av 4 0 zzy;have o7:Out [] H H7:=eR (eR (eR DT u3 hN) v3 hN) w3 hN;have Md:=hR.au o7;have hD7:=hD.au o7;have hX:RV H7 fx fs tx sx {R with ts:=(bh ts).1.ts}:=by
  refine⟨?_,Md.t,Md.s⟩;have fr:∀j∈nf fx fs,j∉[H3.next]:=λj hj=>by rw[No];have:=r2.v.d.lt j hj;omega
  exact (((r2.v.d.au o4).out u3 fr).out v3 fr).out w3 fr
 have lW:=UL he;obtain⟨H8,s1,s2⟩:=alD (R:={R with ts:=(bh ts).1.ts}) (S:=R) (by show R.rs.length<=_;omega) (by show R.sg.length<=_;omega) (by show (bh ts).1.ts.length<=_;rw[lW];omega) (by show ∀t∈(bh ts).1.ts,_;rw[lW];exactλt ht=>by have:=cZ t ht;omega) hX Md;have EB:cK (zf 36) [.agg (rv fx R.st tx sx),.agg (rv dx R.st tx sx)] H7=some (.bool (BM {R with ts:=(bh ts).1.ts} R),H8):=s1;have o8:=o7.trans s2;cases m2:BM {R with ts:=(bh ts).1.ts} R with
 |false=>
  rw[m2] at EB;refine⟨H8,Ku ?_,o8⟩;unfold Gb;simp(disch:=try exact zqz)only[b1,n1,b2,bq,kl,r1,hz,hA4,d0,k1,k2,k3,kd,lt,le,tQ,m1,d1,u1,v1,w1,xm,tR,vZ,eG (lN hR.t.1),eG (lN hR.s),f7,p7,EB,acw,acy,ar,aq,zz0,simprocAttr]
 |true=>
 rw[m2] at EB;have cp8:=cp7.out s2 zzy;have cd8:=cd7.out s2 zzy;have Iq:cellAt H8 H.next 2=some tx:=cp8.cellAt rfl;obtain⟨H9,i1,i2⟩:=afy (p:=H.next) (d:=H.next+1) hl hr hq R.rs 0 H8 (aa7 _) aaY (Md.t.au s2) (hD7.au s2) cd8;rw[show (((0:Nat):Int))=0 from rfl,aaY] at i1;have o9:=o8.trans i2;have cp9:=cp8.out i2 zzy;have Ru:cellAt H9 H.next 3=some sx:=cp9.cellAt rfl;cases m3:(List.zipWith Ar ts R.rs).all id with
 |false=>
  simp only[m3,aa8,if_false] at i1;refine⟨H9,Ku ?_,o9⟩;unfold Gb;simp(disch:=try exact zqz)only[b1,n1,b2,bq,kl,r1,hz,hA4,d0,k1,k2,k3,kd,lt,le,tQ,m1,d1,u1,v1,w1,xm,tR,vZ,eG (lN hR.t.1),eG (lN hR.s),f7,p7,EB,Iq,i1,acw,acy,ar,aq,zz0,simprocAttr]
 |true=>
 simp only[m3,if_true] at i1;have ls:=hR.s.gu;rw[gZ] at ls;obtain⟨kW,j1,j2⟩:=ane (p:=H.next) (d:=H.next+1) (F:=rv dx R.st tx sx) rfl hg hn R.sg 0 H9 (aa7 _) aaY ((Md.s.au s2).au i2) ((hD7.au s2).au i2) (cd8.out i2 zzy) cp9;rw[show (((0:Nat):Int))=0 from rfl,aaY] at j1;refine⟨kW,Ku ?_,o9.trans j2⟩;unfold Gb;cases m4:(List.zipWith (uk ts R.sg) R.sg (List.range R.sg.length)).all id with
 |false=>
  simp only[m4,aa8,if_false] at j1;simp(disch:=try exact zqz)only[b1,n1,b2,bq,kl,r1,hz,hA4,d0,k1,k2,k3,kd,lt,le,ls,tQ,m1,d1,u1,v1,w1,xm,tR,vZ,eG (lN hR.t.1),eG (lN hR.s),f7,p7,EB,Iq,i1,Ru,j1,Bool.and_false,acy,ar,aq,zz0,simprocAttr]
 |true=>
  simp only[m4,if_true] at j1;simp(disch:=try exact zqz)only[b1,n1,b2,bq,kl,r1,hz,hA4,d0,k1,k2,k3,kd,lt,le,ls,tQ,m1,d1,u1,v1,w1,xm,tR,vZ,eG (lN hR.t.1),eG (lN hR.s),f7,p7,EB,Iq,i1,Ru,j1,acy,ar,aq,zz0,simprocAttr]
end
structure SS where
 ck:Int
 nms:List Str
 aM:List Str
 rs:List Rn
 fF:List Str
 ks:List Ke
structure SA where
 nx:AV
 tx:AV
 rx:AV
 ox:AV
 kx:AV
 ras:List RA
def fe (a:SA)(S:SS):List AV:=[zi S.ck,a.nx,a.tx,a.rx,a.ox,a.kx]
def iA (r:RA)(R:Rn):List AV:=rv r.dx R.st r.tx r.sx
structure SV (N:Nat)(H:Hp)(a:SA)(S:SS):Prop where
 n:Rw H 1 a.nx (strs S.nms)
 t:Rw H 1 a.tx (strs S.aM)
 r:RL H 4 a.rx (List.zipWith iA a.ras S.rs)
 v:∀(i:Nat) (r:RA) (R:Rn),a.ras[i]?=some r->S.rs[i]?=some R->RV H r.dx r.xs r.tx r.sx R
 len:a.ras.length=S.rs.length
 o:Rw H 1 a.ox (strs S.fF)
 k:RL H 3 a.kx (S.ks.map dB)
 b:∀j,(j∈ak a.nx\/j∈ak a.tx\/j∈ak a.rx\/j∈ak a.ox\/j∈ak a.kx\/j∈a.ras.flatMap RA.fp)->j<N
section
variable {H H':Hp}{N:Nat}{S:SS}{a:SA}
theorem SV.out {T:List Nat}(h:SV N H a S)(k:Out T H H')(hs:∀j∈T,N<=j):SV N H' a S:=by
 have q:∀j,j<N->j∉T:=λj hj hm=>by have:=hs j hm;omega
 exact⟨h.n.out k λj hj=>q j (h.b j (.inl hj)),h.t.out k λj hj=>q j (h.b j (.inr (.inl hj))),h.r.out k λj hj=>q j (h.b j (.inr (.inr (.inl hj)))),
  λi r R hr hR=>(h.v i r R hr hR).out k λj hj=>q j (h.b j (.inr (.inr (.inr (.inr (.inr (afn.2 ⟨r,aac hr,hj⟩))))))),h.len,h.o.out k λj hj=>q j (h.b j (.inr (.inr (.inr (.inl hj))))),h.k.out k λj hj=>q j (h.b j (.inr (.inr (.inr (.inr (.inl hj)))))),h.b⟩
theorem SV.au (h:SV N H a S)(k:Out [] H H'):SV N H' a S:=h.out k λ_ q=>by cases q
theorem azO {text:Str}{dx:AV}{xs:List AV}(hg:Gl H)(h:RD H dx xs (aG text).1):∃H',cK (zf 55) [dv dx] H=some (.str (lE (aG text).1),H')/\Out [] H H':=by
 by_cases hp:(aG text).2=0;·have ku:=QA hp;exact anN hg ku.2.1 ku.2.2.1 ku.2.2.2.1 ku.1 h
 ·have h0:=PC hp;rw[h0] at h⊢;have hg0:jD []≠0:=by unfold jD;simp
  have hs:lE []=[]:=by unfold lE;rw[zz1 hg0]
  have aO:bx 72 (dv dx) H=some (H.next,al H [dx] 72 0):=iw zzy;have o1:=aD H [dx] 72 0;have c1:=aP H [dx] 72 0;generalize hA:al H [dx] 72 0=H1 at*
  have k1:av H1 H.next 0 1=some [dx]:=c1.av 1 0 zzy;obtain⟨H2,g1,g2⟩:=TA (ts:=[]) (aa7 _) (λt ht=>by cases ht) (h.au o1);have d:(jD [] != 0)=true:=by simp[hg0]
  refine⟨H2,afK ?_,o1.trans g2⟩;unfold acp;simp(disch:=try exact zqz)only[aO,hA,k1,g1,d,hs,ar,aq,zz0,simprocAttr]
noncomputable def jz:Fm->List (Str×Str)->Option Fm
 |f,[]=>some f|f,x::r=>if tY x.1=true/\lE (aG x.2).1=x.2/\(mH f x.1 x.2).2=0 then jz (mH f x.1 x.2).1 r else none
theorem atu {f:Fm}{s t:Str}(hn:f.nms.length<=16):(mH f s t).1.nms.length<=16:=by
 unfold mH;split;·exact hn
 ·split;·exact hn
  ·split;·exact hn
   ·rename_i h;show (f.nms++[s]).length<=16;rw[aal];simp;omega
theorem DM {α β:Type}{l:List α}{m:List β}{i:Nat}{x:α×β}(h:(l.zip m)[i]?=some x):l[i]?=some x.1/\m[i]?=some x.2:=by rw[List.getElem?_zip_eq_some] at h;exact h
theorem RG (s:Str):same (.str s) (.str s)=true:=by simp[same,qP]
theorem ajG {sp p:Nat}{sa:SA}{S:SS}(hl:S.nms.length=S.aM.length)(hn:S.nms.length<=1000):∀(r:List (Str×Str)) (i:Nat) (H:Hp) (a:FA) (f:Fm),i<=S.nms.length->(S.nms.zip S.aM).drop i=r->SV sp H sa S->Cs H sp (fe sa S) 50 0->FL H p a f->Gl H->(∀j∈own p a,sp<j)->f.nms.length<=16->
  ∃a' H',(∀oW:K.Fn 2,NK JN GO cK oW (.ptr sp 0) (.ptr p 0) sa.nx (zi (S.nms.length:Nat)) (zi (i:Nat)) H=match jz f r with|none=>some (.tuple [.da,zi 2],H')|some _=>oW (.ptr sp 0) (.ptr p 0) H')/\Out (own p a) H H'/\∀f',jz f r=some f'->FL H' p a' f'/\FSt H H' p a a'/\f'.nms.length<=16
 |[],i,H,a,f,hi,h,hS,hc,hF,hg,ho,mf=>by
  have sE:(S.nms.zip S.aM).length=S.nms.length:=by rw[ajl];omega
  obtain rfl:=(drop_nil zzz h).trans sE;refine⟨a,H,λoW=>?_,Out.refl _ _,λf' h' =>?_⟩;·rw[aiM];simp only[Ft,df,jz,zz0,simprocAttr]
  ·cases h';exact⟨hF,FSt.same (Out.refl _ _) p a,mf⟩
 |x::r,i,H,a,f,hi,h,hS,hc,hF,hg,ho,mf=>by
  have sE:(S.nms.zip S.aM).length=S.nms.length:=by rw[ajl];omega
  obtain⟨h1,h2,h3⟩:=dU h;rw[sE] at h1;obtain⟨hs,ht⟩:=DM h2;have es:=dC h1 zzz;obtain⟨q,q1,q2⟩:=hS.n.fW (mS hs) .i64;have kt:cellAt H sp 2=some sa.tx:=hc.cellAt rfl;obtain⟨w,w1,w2⟩:=hS.t.fW (mS ht) .i64;obtain⟨dx,xs,H2,p1,p2,p3,p4⟩:=P0 (text:=x.2) hg;have fX:=p2.row.one;have o3:=aD H2 [dx] 72 0;have c3:=aP H2 [dx] 72 0;have aC:st 1 (.ptr H2.next 0) (dv dx) (al H2 [.ah] 72 0)=some (al H2 [dx] 72 0):=gJ (by simp[fX]) rfl rfl zzx rfl;generalize iB:al H2 [dx] 72 0=H3 at*
  have gh:=p3.trans o3;have k3:av H3 H2.next 0 1=some [dx]:=c3.av 1 0 zzy;obtain⟨H4,s1,s2⟩:=azO (hg.au gh) (p2.au o3);have gw:=gh.trans s2;have U8:=hS.au gh;have hS4:=hS.au gw;have hc3:=hc.out gh zzy;have Mt:=hc.out gw zzy;have JJ:cellAt H3 sp 2=some sa.tx:=hc3.cellAt rfl;have Cn:cellAt H4 sp 2=some sa.tx:=Mt.cellAt rfl;obtain⟨w',u1,u2⟩:=U8.t.fW (mS ht) .i64;have e1:w'=w:=by rw[u1] at w1;exact acd w1
  subst e1;obtain⟨X2,v1,v2⟩:=hS4.t.fW (mS ht) .i64;have e2:X2=w':=by rw[v1] at u1;exact acd u1
  subst e2;obtain⟨a',H5,d1,d2,d3⟩:=aez (hF.au gw) (hg.au gw) mf x.1 x.2;have AM:=Oo x.1 H3;have ZG:=lN hS.t;have base:∀(oW:K.Fn 2),NK JN GO cK oW (.ptr sp 0) (.ptr p 0) sa.nx (zi (S.nms.length:Nat)) (zi (i:Nat)) H=Ft JN GO cK oW (NK JN GO cK oW) (.ptr sp 0) (.ptr p 0) sa.nx (zi (S.nms.length:Nat)) (zi (i:Nat)) H:=λoW=>aiM cK oW _ _ _ _ _ H;cases m1:tY x.1 with
  |false=>
   rw[m1] at AM;have hM:jz f (x::r)=none:=by unfold jz;rw[zz1 (by rw[m1];simp)]
   refine⟨a,H3,λoW=>?_,gh.mono λj hj=>(by cases hj),λf' h'=>by rw[hM] at h';cases h'⟩;rw[base,hM];simp(disch:=try exact zqz)only[Ft,aN h1,q1,q2,kt,w1,w2,p1,aC,iB,AM,ar,aq,zz0,simprocAttr]
  |true=>
  rw[m1] at AM;cases m2:(lE (aG x.2).1==x.2) with
  |false=>
   have hM:jz f (x::r)=none:=by unfold jz;rw[zz1 (λz=>by rw[z.2.1] at m2;simp at m2)]
   refine⟨a,H4,λoW=>?_,gw.mono λj hj=>(by cases hj),λf' h'=>by rw[hM] at h';cases h'⟩;rw[base,hM];simp(disch:=try exact zqz)only[Ft,aN h1,q1,q2,kt,w1,w2,p1,aC,iB,AM,k3,s1,JJ,Cn,u1,u2,v1,v2,m2,eG ZG,eG (RG _),ar,aq,zz0,simprocAttr]
  |true=>
  have m2':lE (aG x.2).1=x.2:=by simpa using m2
  by_cases m3:(mH f x.1 x.2).2=0
  ·have d0:((mH f x.1 x.2).2 != 0)=false:=by simp[m3]
   have hM:jz f (x::r)=jz (mH f x.1 x.2).1 r:=by
    conv=>lhs;unfold jz
    rw[zz2 ⟨m1,m2',m3⟩]
   have iW:∀j∈own p a',sp<j:=λj hj=>(d3.w j hj).elim (ho j) λz=>by have:=Mt.1;omega
   have hle:∀j∈own p a,sp<=j:=λj hj=>amU (ho j hj);have aF:sp∉own p a:=λz=>by have:=ho _ z;omega
   obtain⟨a2,H',i1,i0,i2⟩:=ajG hl hn r (i+1) H5 a' _ h1 h3 (hS4.out d3.o hle) (Mt.out d3.o aF) d2 ((hg.au gw).out d3.o (hF.au gw).lo) iW (atu mf);refine⟨a2,H',λoW=>?_,(FSt.end gw d3).o.then i0 (FSt.end gw d3).w,λf' h' =>?_⟩;·rw[base,hM,<-i1 oW];simp(disch:=try exact zqz)only[Ft,aN h1,q1,q2,kt,w1,w2,p1,aC,iB,AM,k3,s1,JJ,Cn,u1,u2,v1,v2,m2,d1,d0,eG ZG,eG (RG _),es,ar,aq,zz0,simprocAttr]
   ·rw[hM] at h';obtain⟨z1,z2,z3⟩:=i2 f' h';exact⟨z1,FSt.end gw (d3.trans z2),z3⟩
  ·have d0:((mH f x.1 x.2).2 != 0)=true:=by simp[m3]
   have hM:jz f (x::r)=none:=by unfold jz;rw[zz1 (λz=>m3 z.2.2)]
   refine⟨a,H5,λoW=>?_,(FSt.end gw d3).o,λf' h'=>by rw[hM] at h';cases h'⟩;rw[base,hM];simp(disch:=try exact zqz)only[Ft,aN h1,q1,q2,kt,w1,w2,p1,aC,iB,AM,k3,s1,JJ,Cn,u1,u2,v1,v2,m2,d1,d0,eG ZG,eG (RG _),ar,aq,zz0,simprocAttr]
end
theorem agP {H:Hp}{dx tx sx:AV}{xs:List AV}{R:Rn}(h:RV H dx xs tx sx R)(hs:Sm R):
  ∃ay aT ax aA H',cK (zf 58) [.agg (rv dx R.st tx sx)] H=some (.agg (rv ay R.st ax aA),H')/\RO H' ay aT ax aA R/\Out [] H H'/\∀j∈pw ay aT ax aA,H.next<=j:=by
 have aO:bx 75 (.agg (rv dx R.st tx sx)) H=some (H.next,al H (rv dx R.st tx sx) 75 0):=iw zzy;have o1:=aD H (rv dx R.st tx sx) 75 0;have c1:=aP H (rv dx R.st tx sx) 75 0;have n1:(al H (rv dx R.st tx sx) 75 0).next=H.next+1:=rfl;generalize al H (rv dx R.st tx sx) 75 0=H1 at*
 have o2:=aD H1 zR 75 0;have c2:=aP H1 zR 75 0;have n2:(al H1 zR 75 0).next=H.next+2:=by rw[bT,n1]
 rw[n1] at c2;generalize bq:al H1 zR 75 0=H2 at*
 have bF:=o1.trans o2;have k4:av H2 H.next 0 4=some (rv dx R.st tx sx):=(c1.out o2 zzy).av 4 0 zzy;obtain⟨ay,aT,ax,aA,H3,r1,r2,r3,r4⟩:=DW (h.au bF) hs;obtain⟨H4,s1,s2,s3,s4⟩:=iC (n:=4) (vs:=rv ay R.st ax aA) (c2.out r3 zzy) rfl rfl (by simp[r2.v.d.row.one,r2.t.rl.one,r2.s.lr,iS]);have k5:av H4 (H.next+1) 0 4=some (rv ay R.st ax aA):=s2.av 4 0 zzy;refine⟨ay,aT,ax,aA,H4,aCa ?_,r2.out s3 λj hj=>by rw[No];have:=r4 j hj;omega,eR (bF.trans r3) s3 (ll (agN _)),λj hj=>by have:=r4 j hj;omega⟩;unfold agV;simp(disch:=try exact zqz)only[aO,n1,bq,k4,r1,s1,k5,ar,aq,zz0,simprocAttr]
theorem aDv {rs:List RA}{l:List Rn}{i:Nat}{r:RA}{R:Rn}(hr:rs[i]?=some r)(hx:l[i]?=some R):(List.zipWith iA rs l)[i]?=some (iA r R):=by rw[ac2,hr,hx]
theorem axy (f:Fm)(s:Str):∀t∈tJ f s,0<=t.cj/\t.cj<=8:=by
 unfold tJ;cases eE f.aM s with
 |none=>intro t ht;cases ht
 |some x=>
  simp only;by_cases h:(aG x).2=0;·intro t ht;have:=((IL h).2.2.2.2.2 t ht).2;unfold uA at this;simp only[ahz,akX,aaM,zz5] at this;omega
  ·rw[PC h];intro t ht;cases ht
theorem U2 {R:Rn}{ts:List Tk}(h:wo R ts=true):R.ts=ts:=by unfold wo BM at h;simp only[aaM,zz5] at h;rw[<-h.2.2.2.1.2.2.2,UL h.1]
noncomputable def lQ:Fm->List (Rn×Str)->Option Fm
 |f,[]=>some f|f,x::r=>if (eE f.aM x.2).isSome=true/\wo x.1 (tJ f x.2)=true then lQ {f with aw:=f.aw++[x]} r else none
theorem ajR {sp p:Nat}{sa:SA}{S:SS}(hl:S.rs.length=S.fF.length)(hn:S.rs.length<=64)(hb:∀R∈S.rs,R.rs.length<=1000/\R.sg.length<=1000):∀(r:List (Rn×Str)) (i:Nat) (H:Hp) (a:FA) (f:Fm),i<=S.rs.length->(S.rs.zip S.fF).drop i=r->SV sp H sa S->Cs H sp (fe sa S) 50 0->FL H p a f->Gl H->(∀j∈own p a,sp<j)->f.aw.length<=i->
  ∃a' H',(∀qW:K.Fn 2,Le JN GO cK qW (.ptr sp 0) (.ptr p 0) sa.rx (zi (S.rs.length:Nat)) (zi (i:Nat)) H=match lQ f r with|none=>some (.tuple [.da,zi 2],H')|some _=>qW (.ptr sp 0) (.ptr p 0) H')/\Out (own p a) H H'/\∀f',lQ f r=some f'->FL H' p a' f'/\FSt H H' p a a'
 |[],i,H,a,f,hi,h,hS,hc,hF,hg,ho,mf=>by
  have sE:(S.rs.zip S.fF).length=S.rs.length:=by rw[ajl];omega
  obtain rfl:=(drop_nil zzz h).trans sE;refine⟨a,H,λqW=>?_,Out.refl _ _,λf' h' =>?_⟩;·rw[amO];simp only[JC,df,lQ,zz0,simprocAttr]
  ·cases h';exact⟨hF,FSt.same (Out.refl _ _) p a⟩
 |x::r,i,H,a,f,hi,h,hS,hc,hF,hg,ho,mf=>by
  have sE:(S.rs.zip S.fF).length=S.rs.length:=by rw[ajl];omega
  obtain⟨h1,h2,h3⟩:=dU h;rw[sE] at h1;obtain⟨hR,hO⟩:=DM h2;have es:=dC h1 zzz;obtain⟨ra,Cg⟩:∃ra,sa.ras[i]?=some ra:=⟨_,aaC (by rw[hS.len];exact h1)⟩;obtain⟨b,o,q1,q2,q3,q4,q5⟩:=hS.r.at zzx (aDv Cg hR);have hv:=hS.v i ra x.1 Cg hR;obtain⟨b1,b2⟩:=hb x.1 (aac hR);have hz:st 4 (.ptr H.next 0) (.agg (iA ra x.1)) (al H zR 75 0)=some (al H (iA ra x.1) 75 0):=gJ (by simp[iA,hv.d.row.one,hv.t.one,hv.s.one,iS]) rfl rfl zzx rfl;have o1:=aD H (iA ra x.1) 75 0;have c1:=aP H (iA ra x.1) 75 0;have n1:(al H (iA ra x.1) 75 0).next=H.next+1:=rfl;generalize bw:al H (iA ra x.1) 75 0=H1 at*
  have ko:cellAt H1 sp 4=some sa.ox:=(hc.out o1 zzy).cellAt rfl;obtain⟨w,w1,w2⟩:=(hS.au o1).o.fW (mS hO) .i64;obtain⟨dx,xs,H2,d1,d2,d3,d4⟩:=aiu (hF.au o1) (hg.au o1) x.2;have fX:=d2.row.one;have aC:st 1 (.ptr H2.next 0) (dv dx) (al H2 [.ah] 72 0)=some (al H2 [dx] 72 0):=gJ (by simp[fX]) rfl rfl zzx rfl;have o3:=aD H2 [dx] 72 0;have c3:=aP H2 [dx] 72 0;generalize iB:al H2 [dx] 72 0=H3 at*
  have gh:=(o1.trans d3).trans o3;have kd:av H3 H2.next 0 1=some [dx]:=c3.av 1 0 zzy;have kr:av H3 H.next 0 4=some (iA ra x.1):=((c1.out d3 zzy).out o3 zzy).av 4 0 (by simp[iA]);have base:∀(qW:K.Fn 2),Le JN GO cK qW (.ptr sp 0) (.ptr p 0) sa.rx (zi (S.rs.length:Nat)) (zi (i:Nat)) H=JC JN GO cK qW (Le JN GO cK qW) (.ptr sp 0) (.ptr p 0) sa.rx (zi (S.rs.length:Nat)) (zi (i:Nat)) H:=λqW=>amO cK qW _ _ _ _ _ H;cases m1:(eE f.aM x.2).isSome with
  |false=>
   rw[m1] at d1;have hM:lQ f (x::r)=none:=by unfold lQ;rw[zz1 (by rw[m1];simp)]
   refine⟨a,H3,λqW=>?_,gh.mono λj hj=>(by cases hj),λf' h'=>by rw[hM] at h';cases h'⟩;rw[base,hM];simp(disch:=try exact zqz)only[JC,aN h1,q1,q4,hz,bw,ko,w1,w2,d1,aC,iB,ar,aq,zz0,simprocAttr]
  |true=>
  rw[m1] at d1;obtain⟨z1,z2⟩:=adh f x.2;obtain⟨H4,y1,y2⟩:=ap5 (hv.au gh) (d2.au o3) zzz (λt ht=>by have:=z2 t ht;omega) (axy f x.2) b1 b2;have Js:cK (zf 57) [.agg (iA ra x.1),.agg [dx]] H3=some (.bool (wo x.1 (tJ f x.2)),H4):=y1;have gw:=gh.trans y2;cases m2:wo x.1 (tJ f x.2) with
  |false=>
   rw[m2] at Js;have hM:lQ f (x::r)=none:=by unfold lQ;rw[zz1 (by rw[m2];simp)]
   refine⟨a,H4,λqW=>?_,gw.mono λj hj=>(by cases hj),λf' h'=>by rw[hM] at h';cases h'⟩;rw[base,hM];simp(disch:=try exact zqz)only[JC,aN h1,q1,q4,hz,bw,ko,w1,w2,d1,aC,iB,kd,kr,Js,ar,aq,zz0,simprocAttr]
  |true=>
  rw[m2] at Js;have lW:=U2 m2;have ot:Sm x.1:=⟨by rw[lW];omega,by rw[lW];exactλt ht=>by have:=z2 t ht;omega,b1,zzz⟩;have Tl:=hF.au gw;obtain⟨ay,aT,ax,aA,H5,r1,r2,r3,r4⟩:=agP (hv.au gw) ot;have Bn:cK (zf 58) [.agg (iA ra x.1)] H4=some (.agg (rv ay x.1.st ax aA),H5):=r1;have Q4:=gw.trans r3;have hF5:=hF.au Q4;have Mt:=hc.out gw zzy;have hc5:=hc.out Q4 zzy;have kr4:av H4 H.next 0 4=some (iA ra x.1):=(((c1.out d3 zzy).out o3 zzy).out y2 zzy).av 4 0 (by simp[iA]);have wH:cellAt H4 p 3=some a.rx:=Tl.c.cellAt rfl;have tR:cellAt H5 p 3=some a.rx:=hF5.c.cellAt rfl;have ko4:cellAt H4 sp 4=some sa.ox:=Mt.cellAt rfl;have ko5:cellAt H5 sp 4=some sa.ox:=hc5.cellAt rfl;have Hf:∀{X:Hp},Out [] H1 X->ld w X=some (.str x.2):=λ{X} k=>by
   obtain⟨w',u1,u2⟩:=((hS.au o1).au k).o.fW (mS hO) .i64;have e:w'=w:=by rw[u1] at w1;exact acd w1
   rw[<-e];exact u2
  have hw4:=Hf ((d3.trans o3).trans y2);have hw5:=Hf (((d3.trans o3).trans y2).trans r3);have hn5:H.next<=H4.next:=gw.1;have tc:∀j∈(RA.mk ay aT ax aA).fp,j∉own p a:=λj hj q=>by have:=r4 j hj;have:=hF.lt j q;omega
  obtain⟨eH,H6,H7,a1,a2,a3,a4,a5,a6,a7⟩:=hF5.ZT (r':=⟨ay,aT,ax,aA⟩) (x:=x) r2.v tc zzz;have G4:cL 77 5 [.ah,(zi 0),.ah,.ah,(.str [])] false a.rx (.slice H5.next 0 1 1 true 5) (al H5 [ay,zi x.1.st,ax,aA,.str x.2] 77 0)=some (eH,H6):=a1 H5.next rfl;have f1:fl [.ah,(zi 0),.ah,.ah,(.str [])] [(0,4,.agg (rv ay x.1.st ax aA)),(4,1,.str x.2)]=some (bJ ⟨ay,aT,ax,aA⟩ x):=by rw[Ai (l:=rv ay x.1.st ax aA) (n:=4) rfl zzy,yW rfl zzy,pz];rfl
  have f2:fl [.ah,(zi 0),.ah,.ah,(.str [])] [(0,5,.agg (bJ ⟨ay,aT,ax,aA⟩ x))]=some (bJ ⟨ay,aT,ax,aA⟩ x):=by rw[Ai (l:=bJ ⟨ay,aT,ax,aA⟩ x) (n:=5) rfl zzy,pz];rfl
  have cF:az H5 (bJ ⟨ay,aT,ax,aA⟩ x) 77 0=some (H5.next,al H5 (bJ ⟨ay,aT,ax,aA⟩ x) 77 0):=eh (by simp[bJ]);have vZ:cellAt (al H5 [ay,zi x.1.st,ax,aA,.str x.2] 77 0) p 3=some a.rx:=by rw[(aD _ _ _ _).cellAt hF5.c.1 zzy];exact tR
  have hM:lQ f (x::r)=lQ {f with aw:=f.aw++[x]} r:=by
   conv=>lhs;unfold lQ
   rw[zz2 ⟨m1,m2⟩]
  have L0:Out (own p a) H H7:=(Q4.mono λj hj=>by cases hj).trans a4;have hn7:=L0.1;have aIX:=Q4.1;have mL:=hc.1;have hle:∀j∈own p a,sp<=j:=λj hj=>amU (ho j hj);have sA:FSt H H7 p a {a with rx:=eH,ras:=a.ras++[⟨ay,aT,ax,aA⟩]}:=⟨L0,λj hj=>(a5 j hj).imp id λq=>zzz,λj hj=>(a6 j hj).imp id λq=>by have:=r4 j q;omega⟩;obtain⟨a',H',i1,i0,i2⟩:=ajR hl hn hb r (i+1) H7 _ _ h1 h3 (hS.out L0 hle) (hc.out L0 λz=>by have:=ho _ z;omega) a3 (hg.out L0 hF.lo) (λj hj=>(a5 j hj).elim (ho j) λq=>zzz) (by show (f.aw++[x]).length<=_;rw[aal];simp;omega);refine⟨a',H',λqW=>?_,sA.o.then i0 sA.w,λf' h' =>?_⟩;·rw[base,hM,<-i1 qW];simp(disch:=try exact zqz)only[JC,aN h1,q1,q4,hz,bw,ko,w1,w2,d1,aC,iB,kd,kr,Js,kr4,Bn,wH,tR,ko4,ko5,hw4,hw5,f1,f2,cF,vZ,G4,a2,eG (lN hF.r.1.rw),eG (lN hS.o),eG (RG _),es,ar,aq,zz0,simprocAttr]
  ·rw[hM] at h';obtain⟨z1,z2⟩:=i2 f' h';exact⟨z1,sA.trans z2⟩
def qd (f:Fm)(x:Ke):Bool:=decide (1<=x.2)&&(decide (x.2<=(f.aw.length:Int))&&((f.aw[(x.2-1).toNat]?.map (·.2)==some x.1.1)&&(!(x.1.2==[])&&(decide (x.1.2.length<=16)&&(mY f.ks x.1).isNone))))
def nM:Fm->List Ke->Option Fm
 |f,[]=>some f|f,x::r=>bif qd f x then nM {f with ks:=f.ks++[x]} r else none
theorem ah5 {sp p:Nat}{sa:SA}{S:SS}(hn:S.ks.length<=128):∀(r:List Ke) (i:Nat) (H:Hp) (a:FA) (f:Fm),i<=S.ks.length->S.ks.drop i=r->SV sp H sa S->FL H p a f->f.aw.length<=64->(∀j∈own p a,sp<j)->sp<H.next->f.ks.length<=i->
  ∃a' H',(∀kT:K.Fn 1,HI JN GO cK kT (.ptr p 0) sa.kx (zi (S.ks.length:Nat)) (zi (i:Nat)) H=match nM f r with|none=>some (.tuple [.da,zi 2],H')|some _=>kT (.ptr p 0) H')/\Out (own p a) H H'/\∀f',nM f r=some f'->FL H' p a' f'/\FSt H H' p a a'
 |[],i,H,a,f,hi,h,hS,hF,iR,ho,mL,hk=>by
  obtain rfl:=drop_nil hi h;refine⟨a,H,λkT=>?_,Out.refl _ _,λf' h' =>?_⟩;·rw[aix];simp only[yy,df,nM,zz0,simprocAttr]
  ·cases h';exact⟨hF,FSt.same (Out.refl _ _) p a⟩
 |x::r,i,H,a,f,hi,h,hS,hF,iR,ho,mL,hk=>by
  obtain⟨h1,h2,h3⟩:=dU h;have es:=dC h1 zzz;obtain⟨b,o,q1,q2,q3,q4,q5⟩:=hS.k.at zzx (i:=i) (c:=dB x) (by rw[ab9,h2];rfl);have hz:st 3 (.ptr H.next 0) (.agg (dB x)) (al H [(.str []),(.str []),(zi 0)] 82 0)=some (al H (dB x) 82 0):=gJ rfl rfl rfl zzx rfl;have o1:=aD H (dB x) 82 0;have c1:=aP H (dB x) 82 0;have n1:(al H (dB x) 82 0).next=H.next+1:=rfl;generalize bw:al H (dB x) 82 0=H1 at*
  have e0:cellAt H1 H.next 0=some (.str x.1.1):=c1.cellAt rfl;have e1:cellAt H1 H.next 1=some (.str x.1.2):=c1.cellAt rfl;have e2:cellAt H1 H.next 2=some (zi x.2):=c1.cellAt rfl;have ek:av H1 H.next 0 2=some (bP x.1):=c1.av 2 0 (by simp[dB]);have EU:=hF.au o1;have k3:cellAt H1 p 3=some a.rx:=EU.c.cellAt rfl;have k4:cellAt H1 p 4=some (.ptr a.kp 0):=EU.c.cellAt rfl;have fT:=hF.JS;have base:∀(kT:K.Fn 1),HI JN GO cK kT (.ptr p 0) sa.kx (zi (S.ks.length:Nat)) (zi (i:Nat)) H=yy JN GO cK kT (HI JN GO cK kT) (.ptr p 0) sa.kx (zi (S.ks.length:Nat)) (zi (i:Nat)) H:=λkT=>aix cK kT _ _ _ _ H;have bad:qd f x=false->(∃H',Out (own p a) H H'/\∀(kT:K.Fn 1),yy JN GO cK kT (HI JN GO cK kT) (.ptr p 0) sa.kx (zi (S.ks.length:Nat)) (zi (i:Nat)) H=some (.tuple [.da,zi 2],H'))->∃a' H',(∀kT:K.Fn 1,HI JN GO cK kT (.ptr p 0) sa.kx (zi (S.ks.length:Nat)) (zi (i:Nat)) H=match nM f (x::r) with|none=>some (.tuple [.da,zi 2],H')|some _=>kT (.ptr p 0) H')/\Out (own p a) H H'/\∀f',nM f (x::r)=some f'->FL H' p a' f'/\FSt H H' p a a':=by
   rintro hb ⟨H',hH0,hH⟩;have hM:nM f (x::r)=none:=by show (bif qd f x then _ else none)=none;rw[hb];rfl
   exact⟨a,H',λkT=>by rw[base,hM,hH],hH0,λf' h'=>by rw[hM] at h';cases h'⟩
  by_cases g1:1<=x.2
  rotate_left
  ·have d1:decide (x.2<1)=true:=zz3 zzz;refine bad (by unfold qd;rw[zz4 g1];rfl) ⟨H1,o1.mono λj hj=>(by cases hj),λkT=>?_⟩;simp(disch:=try exact zqz)only[yy,aN h1,q1,q4,hz,bw,e2,d1,ar,aq,zz0,simprocAttr]
  have d1:decide (x.2<1)=false:=zz4 zzz;by_cases g2:x.2<=(f.aw.length:Int)
  rotate_left
  ·have d2:decide (((f.aw.length:Nat):Int)<x.2)=true:=zz3 zzz;refine bad (by unfold qd;rw[zz4 g2,acw,Bool.and_false]) ⟨H1,o1.mono λj hj=>(by cases hj),λkT=>?_⟩;simp(disch:=try exact zqz)only[yy,aN h1,q1,q4,hz,bw,e2,d1,k3,fT,d2,ar,aq,zz0,simprocAttr]
  have d2:decide (((f.aw.length:Nat):Int)<x.2)=false:=zz4 zzz;obtain⟨m,hm⟩:∃m:Nat,x.2=(m:Int)+1:=⟨(x.2-1).toNat,zzz⟩;have hmi:(x.2-1).toNat=m:=zzz;have hw:IntKind.wrap .i64 (x.2-1)=((m:Nat):Int):=by rw[hm,wrap_i64 zzz zzz];omega
  have xZ:m<f.aw.length:=zzz;obtain⟨y,hy⟩:∃y,f.aw[m]?=some y:=⟨_,aaC xZ⟩;obtain⟨ra,Cg⟩:∃ra,a.ras[m]?=some ra:=⟨_,aaC (by rw[hF.len];exact xZ)⟩;obtain⟨b',o',p1,p2,p3,p4,p5⟩:=EU.r.rl.at zzx (T8 Cg hy);have pn:cellAt H1 b' (o'+4)=some (.str y.2):=p5 4 _ rfl;cases m3:(y.2==x.1.1) with
  |false=>
   refine bad (by unfold qd;rw[hmi,hy];simp[m3]) ⟨H1,o1.mono λj hj=>(by cases hj),λkT=>?_⟩;simp(disch:=try exact zqz)only[yy,aN h1,q1,q4,hz,bw,e0,e2,d1,k3,fT,d2,hw,p1,pn,m3,ar,aq,zz0,simprocAttr]
  |true=>
  cases m4:(x.1.2==[]) with
  |true=>
   refine bad (by unfold qd;rw[m4];simp) ⟨H1,o1.mono λj hj=>(by cases hj),λkT=>?_⟩;simp(disch:=try exact zqz)only[yy,aN h1,q1,q4,hz,bw,e0,e1,e2,d1,k3,fT,d2,hw,p1,pn,m3,m4,ar,aq,zz0,simprocAttr]
  |false=>
  by_cases g5:x.1.2.length<=16
  rotate_left
  ·have d5:decide ((16:Int)<((x.1.2.length:Nat):Int))=true:=zz3 zzz;refine bad (by unfold qd;rw[zz4 g5];simp) ⟨H1,o1.mono λj hj=>(by cases hj),λkT=>?_⟩;simp(disch:=try exact zqz)only[yy,aN h1,q1,q4,hz,bw,e0,e1,e2,d1,k3,fT,d2,hw,p1,pn,m3,m4,d5,ar,aq,zz0,simprocAttr]
  have d5:decide ((16:Int)<((x.1.2.length:Nat):Int))=false:=zz4 zzz;cases Qv:mY f.ks x.1 with
  |some Tn=>
   obtain⟨H2,t1,t2⟩:=ata EU.k Qv x.2;refine bad (by unfold qd;rw[Qv];simp) ⟨H2,(o1.mono λj hj=>(by cases hj)).then t2 λj hj=>(by cases hj),λkT=>?_⟩;simp(disch:=try exact zqz)only[yy,aN h1,q1,q4,hz,bw,e0,e1,e2,ek,d1,k3,k4,fT,d2,hw,p1,pn,m3,m4,d5,t1,ar,aq,zz0,simprocAttr]
  |none=>
   obtain⟨xu,H2,t1,t2,t3⟩:=EU.iY zzz Qv x.2;have ir:qd f x=true:=by unfold qd;rw[hmi,hy,Qv,m4,zz3 g1,zz3 g2,zz3 g5];simp at m3;simp[m3]
   have hM:nM f (x::r)=nM {f with ks:=f.ks++[x]} r:=by show (bif qd f x then _ else none)=_;rw[ir];rfl
   have sA:=FSt.end o1 t3;have hle:∀j∈own p a,sp<=j:=λj hj=>amU (ho j hj);obtain⟨a',H',i1,i0,i2⟩:=ah5 hn r (i+1) H2 {a with kl:=xu} {f with ks:=f.ks++[x]} h1 h3 (hS.out sA.o hle) t2 iR (λj hj=>(sA.w j hj).elim (ho j) λq=>zzz) (adi mL sA.o.1) (by show (f.ks++[x]).length<=_;rw[aal];simp;omega);refine⟨a',H',λkT=>?_,sA.o.then i0 sA.w,λf' h' =>?_⟩;·rw[base,hM,<-i1 kT];simp(disch:=try exact zqz)only[yy,aN h1,q1,q4,hz,bw,e0,e1,e2,ek,d1,k3,k4,fT,d2,hw,p1,pn,m3,m4,d5,t1,es,ar,aq,zz0,simprocAttr]
   ·rw[hM] at h';obtain⟨z1,z2⟩:=i2 f' h';exact⟨z1,sA.trans z2⟩
def qT (S:SS):Bool:=decide (S.ck<0)||(decide (1099511627776<S.ck)||(!(decide (S.nms.length=S.aM.length))||(!(decide (S.rs.length=S.fF.length))||(decide (64<S.rs.length)||decide (128<S.ks.length)))))
noncomputable def nP (S:SS):Option Fm:=
 bif qT S then none else (jz {pL with ck:=S.ck} (S.nms.zip S.aM)).bind λf=>(lQ f (S.rs.zip S.fF)).bind λf=>nM f S.ks
theorem TM:∀(l:List (Str×Str)) (f f':Fm),jz f l=some f'->f'.aw=f.aw/\f'.ks=f.ks
 |[],f,f',h=>by cases h;exact⟨rfl,rfl⟩
 |x::r,f,f',h=>by
  unfold jz at h;split at h
  ·obtain⟨a,b⟩:=TM r _ _ h;have:(mH f x.1 x.2).1.aw=f.aw/\(mH f x.1 x.2).1.ks=f.ks:=by
    unfold mH;split;·exact⟨rfl,rfl⟩
    ·split;·exact⟨rfl,rfl⟩
     ·split<;>exact⟨rfl,rfl⟩
   exact⟨a.trans this.1,b.trans this.2⟩
  ·cases h
theorem NL:∀(l:List (Rn×Str)) (f f':Fm),lQ f l=some f'->f'.ks=f.ks/\f'.aw=f.aw++l/\f'.nms=f.nms/\f'.aM=f.aM/\f'.ck=f.ck
 |[],f,f',h=>by cases h;exact⟨rfl,(acQ _).symm,rfl,rfl,rfl⟩
 |x::r,f,f',h=>by
  unfold lQ at h;split at h;·obtain⟨a,b,c,d,e⟩:=NL r _ _ h;exact⟨a,by rw[b];simp,c,d,e⟩
  ·cases h
theorem aH8 {H:Hp}{sa:SA}{S:SS}(hS:SV H.next H sa S)(hg:Gl H)(mE:S.nms.length<=1000)(hb:∀R∈S.rs,R.rs.length<=1000/\R.sg.length<=1000):
  ∃p a H',cK (zf 22) [.agg (fe sa S)] H=(match nP S with|none=>some (.tuple [.da,zi 2],H')|some _=>some (.tuple [.ptr p 0,zi 0],H'))/\Out [] H H'/\∀f,nP S=some f->FL H' p a f/\Out [] H H'/\(∀j∈own p a,H.next<=j)/\∀j∈bD.dL a,H.next<=j:=by
 have aO:bx 50 (.agg (fe sa S)) H=some (H.next,al H (fe sa S) 50 0):=iw (by simp[fe]);have o1:=aD H (fe sa S) 50 0;have c1:=aP H (fe sa S) 50 0;have n1:(al H (fe sa S) 50 0).next=H.next+1:=rfl;generalize bw:al H (fe sa S) 50 0=H1 at*
 obtain⟨p,a,H2,m1,m2,m3,m4,m5⟩:=alj (hg.au o1).nx;have o2:=o1.trans m3;have c2:=c1.out m3 zzy;have k0:cellAt H2 H.next 0=some (zi S.ck):=c2.cellAt rfl;have k1:cellAt H2 H.next 1=some sa.nx:=c2.cellAt rfl;have k2:cellAt H2 H.next 2=some sa.tx:=c2.cellAt rfl;have k3:cellAt H2 H.next 3=some sa.rx:=c2.cellAt rfl;have k4:cellAt H2 H.next 4=some sa.ox:=c2.cellAt rfl;have k5:cellAt H2 H.next 5=some sa.kx:=c2.cellAt rfl;have l1:=hS.n.gu;have l2:=hS.t.gu;have l4:=hS.o.gu;rw[gZ] at l1 l2 l4;have l3:=hS.r.len zzx;rw[aeV,hS.len,ajT] at l3;have l5:=hS.k.len zzx;rw[abv] at l5;have bad:qT S=true->cK (zf 22) [.agg (fe sa S)] H=some (.tuple [.da,zi 2],H2)->∃p a H',cK (zf 22) [.agg (fe sa S)] H=(match nP S with|none=>some (.tuple [.da,zi 2],H')|some _=>some (.tuple [.ptr p 0,zi 0],H'))/\Out [] H H'/\∀f,nP S=some f->FL H' p a f/\Out [] H H'/\(∀j∈own p a,H.next<=j)/\∀j∈bD.dL a,H.next<=j:=by
  intro hb hc;have hM:nP S=none:=by unfold nP;rw[hb];rfl
  exact⟨p,a,H2,by rw[hM,hc],o2,λf h=>by rw[hM] at h;cases h⟩
 by_cases g1:S.ck<0;·have d1:decide (S.ck<0)=true:=zz3 g1;refine bad (by unfold qT;rw[d1];rfl) (BB ?_);unfold Al;simp(disch:=try exact zqz)only[aO,bw,m1,k0,d1,ar,aq,zz0,simprocAttr]
 have d1:decide (S.ck<0)=false:=zz4 g1;by_cases g2:1099511627776<S.ck;·have d2:decide (1099511627776<S.ck)=true:=zz3 g2;refine bad (by unfold qT;rw[d1,d2];rfl) (BB ?_);unfold Al;simp(disch:=try exact zqz)only[aO,bw,m1,k0,d1,d2,ar,aq,zz0,simprocAttr]
 have d2:decide (1099511627776<S.ck)=false:=zz4 g2;by_cases g3:S.nms.length=S.aM.length
 rotate_left
 ·have d3:(((S.nms.length:Nat):Int) != ((S.aM.length:Nat):Int))=true:=by simp;omega
  refine bad (by unfold qT;rw[zz4 g3];simp) (BB ?_);unfold Al;simp(disch:=try exact zqz)only[aO,bw,m1,k0,k1,k2,l1,l2,d1,d2,d3,ar,aq,zz0,simprocAttr]
 have d3:(((S.nms.length:Nat):Int) != ((S.aM.length:Nat):Int))=false:=by simp;omega
 by_cases g4:S.rs.length=S.fF.length
 rotate_left
 ·have d4:(((S.rs.length:Nat):Int) != ((S.fF.length:Nat):Int))=true:=by simp;omega
  refine bad (by unfold qT;rw[zz4 g4];simp) (BB ?_);unfold Al;simp(disch:=try exact zqz)only[aO,bw,m1,k0,k1,k2,k3,k4,l1,l2,l3,l4,d1,d2,d3,d4,ar,aq,zz0,simprocAttr]
 have d4:(((S.rs.length:Nat):Int) != ((S.fF.length:Nat):Int))=false:=by simp;omega
 by_cases g5:64<S.rs.length;·have d5:decide ((64:Int)<((S.rs.length:Nat):Int))=true:=zz3 zzz;refine bad (by unfold qT;rw[zz3 g5];simp) (BB ?_);unfold Al;simp(disch:=try exact zqz)only[aO,bw,m1,k0,k1,k2,k3,k4,l1,l2,l3,l4,d1,d2,d3,d4,d5,ar,aq,zz0,simprocAttr]
 have d5:decide ((64:Int)<((S.rs.length:Nat):Int))=false:=zz4 zzz;by_cases g6:128<S.ks.length;·have d6:decide ((128:Int)<((S.ks.length:Nat):Int))=true:=zz3 zzz;refine bad (by unfold qT;rw[zz3 g6];simp) (BB ?_);unfold Al;simp(disch:=try exact zqz)only[aO,bw,m1,k0,k1,k2,k3,k4,k5,l1,l2,l3,l4,l5,d1,d2,d3,d4,d5,d6,ar,aq,zz0,simprocAttr]
 have d6:decide ((128:Int)<((S.ks.length:Nat):Int))=false:=zz4 zzz;have oZ:qT S=false:=by unfold qT;rw[d1,d2,zz3 g3,zz3 g4,zz4 g5,zz4 g6];rfl
 obtain⟨H3,s1,s2,s3⟩:=m2.clock S.ck;have J7:∀j∈own p a,H.next<j:=λj hj=>by have:=m4 j hj;omega
 have hle:∀j∈own p a,H.next<=j:=λj hj=>amU (J7 j hj);have aF:H.next∉own p a:=λz=>by have:=J7 _ z;omega
 have O:∀{X:Hp} {b:FA},FSt H2 X p a b->Out [] H X/\SV H.next X sa S/\Cs X H.next (fe sa S) 50 0/\Gl X/\∀j∈own p b,H.next<j:=by intro X b k;have ko:Out [] H X:=eR o2 k.o hle;refine⟨ko,hS.au ko,c2.out k.o aF,hg.au ko,λj hj=>(k.w j hj).elim (J7 j) λq=>?_⟩;have:=m3.1;omega
 obtain⟨O31,O32,O33,O34,O35⟩:=O s3;have q1:cellAt H3 H.next 1=some sa.nx:=O33.cellAt rfl;obtain⟨a4,H4,i1,i0,i2⟩:=ajG (sp:=H.next) g3 mE (S.nms.zip S.aM) 0 H3 a _ (aa7 _) aaY O32 O33 s2 O34 O35 (aa7 _);rw[show (((0:Nat):Int))=0 from rfl] at i1;have Yw:nP S=(jz {pL with ck:=S.ck} (S.nms.zip S.aM)).bind λf=>(lQ f (S.rs.zip S.fF)).bind λf=>nM f S.ks:=by unfold nP;rw[oZ];rfl
 cases ue:jz {pL with ck:=S.ck} (S.nms.zip S.aM) with
 |none=>
  simp only[ue] at i1;have hM:nP S=none:=by rw[Yw,ue];rfl
  refine⟨p,a,H4,?_,eR (eR o2 s3.o hle) i0 hle,λf h=>by rw[hM] at h;cases h⟩;rw[hM];refine BB ?_;unfold Al;simp(disch:=try exact zqz)only[aO,bw,m1,k0,k1,k2,k3,k4,k5,l1,l2,l3,l4,l5,d1,d2,d3,d4,d5,d6,s1,q1,i1,ar,aq,zz0,simprocAttr]
 |some f1=>
 simp only[ue] at i1;obtain⟨t1,t2,t3⟩:=i2 f1 ue;obtain⟨O41,O42,O43,O44,O45⟩:=O (s3.trans t2);have q3:cellAt H4 H.next 3=some sa.rx:=O43.cellAt rfl;obtain⟨r1,r2⟩:=TM _ _ _ ue;have Bn:f1.aw=[]:=r1;have r2':f1.ks=[]:=r2;obtain⟨a5,H5,j1,j0,j2⟩:=ajR (sp:=H.next) g4 zzz hb (S.rs.zip S.fF) 0 H4 a4 f1 (aa7 _) aaY O42 O43 t1 O44 O45 (by rw[Bn];exact aaO _);rw[show (((0:Nat):Int))=0 from rfl] at j1;cases Du:lQ f1 (S.rs.zip S.fF) with
 |none=>
  simp only[Du] at j1;have hM:nP S=none:=by rw[Yw,ue,acf,Du];rfl
  refine⟨p,a,H5,?_,eR O41 j0 (λj hj=>amU (O45 j hj)),λf h=>by rw[hM] at h;cases h⟩;rw[hM];refine BB ?_;unfold Al;simp(disch:=try exact zqz)only[aO,bw,m1,k0,k1,k2,k3,k4,k5,l1,l2,l3,l4,l5,d1,d2,d3,d4,d5,d6,s1,q1,i1,q3,j1,ar,aq,zz0,simprocAttr]
 |some f2=>
 simp only[Du] at j1;obtain⟨u1,u2⟩:=j2 f2 Du;obtain⟨O51,O52,O53,O54,O55⟩:=O ((s3.trans t2).trans u2);have q5:cellAt H5 H.next 5=some sa.kx:=O53.cellAt rfl;obtain⟨v1,v2,v3,v4,v5⟩:=NL _ _ _ Du;obtain⟨a6,H6,w1,w0,w2⟩:=ah5 (sp:=H.next) (p:=p) zzz S.ks 0 H5 a5 f2 (aa7 _) aaY O52 u1 (by rw[v2,Bn,afP,ajl];omega) O55 O53.1 (by rw[v1,r2'];exact aaO _);rw[show (((0:Nat):Int))=0 from rfl] at w1;have Sa:nP S=nM f2 S.ks:=by rw[Yw,ue,acf,Du,acf]
 cases Gp:nM f2 S.ks with
 |none=>
  simp only[Gp] at w1;refine⟨p,a,H6,?_,eR O51 w0 (λj hj=>amU (O55 j hj)),λf h=>by rw[Sa,Gp] at h;cases h⟩;rw[Sa,Gp];refine BB ?_;unfold Al;simp(disch:=try exact zqz)only[aO,bw,m1,k0,k1,k2,k3,k4,k5,l1,l2,l3,l4,l5,d1,d2,d3,d4,d5,d6,s1,q1,i1,q3,j1,q5,w1,ar,aq,zz0,simprocAttr]
 |some f3=>
 simp only[Gp] at w1;obtain⟨x1,x2⟩:=w2 f3 Gp;obtain⟨O61,O62,O63,O64,O65⟩:=O (((s3.trans t2).trans u2).trans x2);refine⟨p,a6,H6,?_,O61,λf h=>?_⟩;·rw[Sa,Gp];refine BB ?_;unfold Al;simp(disch:=try exact zqz)only[aO,bw,m1,k0,k1,k2,k3,k4,k5,l1,l2,l3,l4,l5,d1,d2,d3,d4,d5,d6,s1,q1,i1,q3,j1,q5,w1,ar,aq,zz0,simprocAttr]
 ·rw[Sa,Gp] at h;cases h;exact⟨x1,O61,λj hj=>amU (O65 j hj),λj hj=>((((s3.trans t2).trans u2).trans x2).i j hj).elim (λz=>by unfold bD.dL at z;rw[m5] at z;cases z) λz=>by have:=m3.1;omega⟩
def lF (q:Nat)(a:SA):List (List Nat):=[[q],ak a.tx,ak a.rx,ak a.ox,ak a.nx++(ak a.kx++a.ras.flatMap RA.fp)]
structure SB (N:Nat)(H:Hp)(q:Nat)(a:SA)(S:SS):Prop where
 c:Cs H q (fe a S) 50 0
 n:Rw H 1 a.nx (strs S.nms)
 t:Ow H 9 1 a.tx (strs S.aM)
 r:OL H 75 4 a.rx (List.zipWith iA a.ras S.rs)
 v:∀(i:Nat) (r:RA) (R:Rn),a.ras[i]?=some r->S.rs[i]?=some R->RV H r.dx r.xs r.tx r.sx R
 len:a.ras.length=S.rs.length
 o:Ow H 9 1 a.ox (strs S.fF)
 k:RL H 3 a.kx (S.ks.map dB)
 dj:(lF q a).Pairwise Dj
 fr:∀l∈lF q a,∀j∈l,N<=j
 lt:∀l∈lF q a,∀j∈l,j<H.next
section
variable {H H':Hp}{N i:Nat}{S:SS}{T:List Nat}{a:SA}
theorem qI {q:Nat}{j:Nat}(h:j∈ak a.nx\/j∈ak a.kx\/j∈a.ras.flatMap RA.fp):j∈ak a.nx++(ak a.kx++a.ras.flatMap RA.fp):=by
 rcases h with h|h|h;·exact aa1 _ h
 ·exact aaT _ (aa1 _ h)
 ·exact aaT _ (aaT _ h)
theorem SB.part {q:Nat}(h:SB N H q a S)(k:Out T H H')(hT:(lF q a)[i]?=some T):
  (i≠0->Cs H' q (fe a S) 50 0)/\(i≠1->Ow H' 9 1 a.tx (strs S.aM))/\(i≠2->OL H' 75 4 a.rx (List.zipWith iA a.ras S.rs))/\(i≠3->Ow H' 9 1 a.ox (strs S.fF))/\
  (i≠4->Rw H' 1 a.nx (strs S.nms)/\RL H' 3 a.kx (S.ks.map dB)/\∀(i:Nat) (r:RA) (R:Rn),a.ras[i]?=some r->S.rs[i]?=some R->RV H' r.dx r.xs r.tx r.sx R):=by
 have sep:∀{j:Nat} {l:List Nat},i≠j->(lF q a)[j]?=some l->∀x∈l,x∉T:=λmO hl=>(zq h.dj mO hT hl).symm;refine⟨λhi=>h.c.out k (sep hi rfl q (.head _)),λhi=>h.t.out k (sep hi rfl),λhi=>h.r.out k (sep hi rfl),λhi=>h.o.out k (sep hi rfl),λhi=>⟨h.n.out k λj hj=>sep hi rfl j (qI (q:=q) (.inl hj)),h.k.out k λj hj=>sep hi rfl j (qI (q:=q) (.inr (.inl hj))),λi r R hr hR=>(h.v i r R hr hR).out k λj hj=>sep hi rfl j (qI (q:=q) (.inr (.inr (afn.2 ⟨r,aac hr,hj⟩))))⟩⟩
theorem SB.au {q:Nat}(h:SB N H q a S)(k:Out [] H H'):SB N H' q a S:=
 ⟨h.c.out k zzy,h.n.au k,h.t.out k λj hj=>zzy,h.r.out k λj hj=>zzy,λi r R hr hR=>(h.v i r R hr hR).au k,h.len,h.o.out k λj hj=>zzy,h.k.au k,h.dj,h.fr,λl hl j hj=>adi (h.lt l hl j hj) k.1⟩
theorem SB.put {q:Nat}{a':SA}{S':SS}{o:Nat}{T':List Nat}{v:AV}(h:SB N H q a S)(k:Out T H H')(hi:i≠0)(hT:(lF q a)[i]?=some T)(hs:lF q a'=(lF q a).set i T')(cC:∀j∈T',j∈T\/H.next<=j)(aR:∀j∈T',j<H'.next)(hN:N<=H.next)(ho:o<6)(hv:aZ v=true)(aC:(fe a S).set o v=fe a' S'):
  ∃H2,st 1 (.ptr q o) v H'=some H2/\Cs H2 q (fe a' S') 50 0/\Out [q] H' H2/\(lF q a').Pairwise Dj/\(∀l∈lF q a',∀j∈l,N<=j)/\(∀l∈lF q a',∀j∈l,j<H2.next)/\(∀j∈T,N<=j)/\N<=q/\∀{j:Nat} {l:List Nat},0≠j->(lF q a')[j]?=some l->∀x∈l,x∉[q]:=by
 obtain⟨p0,_⟩:=h.part k hT;obtain⟨H2,s1,s2,s3,s4⟩:=ff (p0 hi) zzx (o:=o) (by simpa[fe] using ho) (v:=v) hv;have uK:(lF q a').Pairwise Dj:=by rw[hs];exact KQ h.dj hT h.lt cC
 have hTm:=aac hT;have h0:(lF q a')[0]?=some [q]:=rfl;refine⟨H2,s1,by rw[<-aC];exact s2,s3,uK,λl hl j hj=>?_,λl hl j hj=>?_,h.fr T hTm,h.fr [q] (.head _) q (.head _),λmO hl=>(zq uK mO h0 hl).symm⟩
 ·rw[hs] at hl;rcases adt hl with z|rfl;·exact h.fr l z j hj
  ·exact (cC j hj).elim (h.fr T hTm j) λz=>zzz
 ·rw[hs] at hl;have:=s3.1;rcases adt hl with z|rfl;·have:=h.lt l z j hj;have:=k.1;omega
  ·have:=aR j hj;omega
theorem SB.azG {q:Nat}(h:SB N H q a S)(hN:N<=H.next)(s:Str)(hn:S.aM.length<=1000):
  ∃ax H1 H2 T,(∀i,i=H.next->cL 9 1 [(.str [])] false a.tx (.slice i 0 1 1 true 1) (al H [.str s] 9 0)=some (ax,H1))/\st 1 (.ptr q 2) ax H1=some H2/\SB N H2 q {a with tx:=ax} {S with aM:=S.aM++[s]}/\Out T H H2/\∀j∈T,∃l∈lF q a,j∈l:=by
 obtain⟨ax,H1,p1,p2,p3,p4,p5⟩:=vf (el2:=9) (z:=[(.str [])]) (vs:=[.str s]) h.t rfl rfl zzx (by rw[gZ];simp;omega);obtain⟨q0,q1,q2,q3,q4⟩:=h.part p3 (i:=1) rfl;obtain⟨H2,s1,s2,s3,d1,d2,d3,d4,d5,d6⟩:=h.put (a':={a with tx:=ax}) (S':={S with aM:=S.aM++[s]}) (o:=2) (T':=ak ax) p3 (i:=1) zzx rfl rfl p4 p2.rw.lt hN zzx p5 rfl;obtain⟨r1,r2,r3⟩:=q4 zzx;have m:=λ{x} hx=>d6 (j:=4) zzx rfl x hx;refine⟨ax,H1,H2,ak a.tx++[q],p1,s1,⟨s2,r1.out s3 λj hj=>m (qI (q:=q) (.inl hj)),?_,(q2 zzx).out s3 (d6 (j:=2) zzx rfl),λi r R hr hR=>(r3 i r R hr hR).out s3 λj hj=>m (qI (q:=q) (.inr (.inr (afn.2 ⟨r,aac hr,hj⟩)))),h.len,(q3 zzx).out s3 (d6 (j:=3) zzx rfl),r2.out s3 λj hj=>m (qI (q:=q) (.inr (.inl hj))),d1,d2,d3⟩,
  (p3.mono λj hj=>aa1 _ hj).trans (s3.mono λj hj=>aaT _ hj),λj hj=>(aa2.1 hj).elim (λz=>⟨_,(.tail _ (.head _)),z⟩) λz=>⟨_,.head _,z⟩⟩
 rw[show strs (S.aM++[s])=strs S.aM++[.str s] by rw[HY];rfl];exact p2.out s3 (d6 (j:=1) zzx rfl)
theorem SB.au6 {q:Nat}(h:SB N H q a S)(hN:N<=H.next)(s:Str)(hn:S.fF.length<=1000):
  ∃oY H1 H2 T,(∀i,i=H.next->cL 9 1 [(.str [])] false a.ox (.slice i 0 1 1 true 1) (al H [.str s] 9 0)=some (oY,H1))/\st 1 (.ptr q 4) oY H1=some H2/\SB N H2 q {a with ox:=oY} {S with fF:=S.fF++[s]}/\Out T H H2/\∀j∈T,∃l∈lF q a,j∈l:=by
 obtain⟨oY,H1,p1,p2,p3,p4,p5⟩:=vf (el2:=9) (z:=[(.str [])]) (vs:=[.str s]) h.o rfl rfl zzx (by rw[gZ];simp;omega);obtain⟨q0,q1,q2,q3,q4⟩:=h.part p3 (i:=3) rfl;obtain⟨H2,s1,s2,s3,d1,d2,d3,d4,d5,d6⟩:=h.put (a':={a with ox:=oY}) (S':={S with fF:=S.fF++[s]}) (o:=4) (T':=ak oY) p3 (i:=3) zzx rfl rfl p4 p2.rw.lt hN zzx p5 rfl;obtain⟨r1,r2,r3⟩:=q4 zzx;have m:=λ{x} hx=>d6 (j:=4) zzx rfl x hx;refine⟨oY,H1,H2,ak a.ox++[q],p1,s1,⟨s2,r1.out s3 λj hj=>m (qI (q:=q) (.inl hj)),(q1 zzx).out s3 (d6 (j:=1) zzx rfl),(q2 zzx).out s3 (d6 (j:=2) zzx rfl),λi r R hr hR=>(r3 i r R hr hR).out s3 λj hj=>m (qI (q:=q) (.inr (.inr (afn.2 ⟨r,aac hr,hj⟩)))),h.len,?_,r2.out s3 λj hj=>m (qI (q:=q) (.inr (.inl hj))),d1,d2,d3⟩,
  (p3.mono λj hj=>aa1 _ hj).trans (s3.mono λj hj=>aaT _ hj),λj hj=>(aa2.1 hj).elim (λz=>⟨_,(.tail _ (.tail _ (.tail _ (.head _)))),z⟩) λz=>⟨_,.head _,z⟩⟩
 rw[show strs (S.fF++[s])=strs S.fF++[.str s] by rw[HY];rfl];exact p2.out s3 (d6 (j:=3) zzx rfl)
theorem flatMap_push (l:List RA)(r:RA):(l++[r]).flatMap RA.fp=l.flatMap RA.fp++r.fp:=by rw[amB];simp
theorem SB.awU {q:Nat}(h:SB N H q a S)(hN:N<=H.next){r:RA}{R:Rn}(hR:RV H r.dx r.xs r.tx r.sx R)(hf:∀j∈r.fp,N<=j/\∀l∈lF q a,j∉l)(hn:S.rs.length<=1000):
  ∃eH H1 H2 T,(∀i,i=H.next->cL 75 4 zR false a.rx (.slice i 0 1 1 true 4) (al H (iA r R) 75 0)=some (eH,H1))/\st 1 (.ptr q 3) eH H1=some H2/\SB N H2 q {a with rx:=eH,ras:=a.ras++[r]} {S with rs:=S.rs++[R]}/\Out T H H2/\∀j∈T,∃l∈lF q a,j∈l:=by
 obtain⟨eH,H1,p1,p2,p3,p4,p5⟩:=h.r.push (el2:=75) (z:=zR) (vs:=iA r R) (by simp[iA,hR.d.row.one,hR.t.one,hR.s.one,iS]) rfl zzx (by rw[aeV];have:=h.len;omega);obtain⟨q0,q1,q2,q3,q4⟩:=h.part p3 (i:=2) rfl;obtain⟨H2,s1,s2,s3,d1,d2,d3,d4,d5,d6⟩:=h.put (a':={a with rx:=eH}) (S':=S) (o:=3) (T':=ak eH) p3 (i:=2) zzx rfl rfl p4 p2.rl.1.lt hN zzx p5 rfl;obtain⟨r1,r2,r3⟩:=q4 zzx;have m:=λ{x} hx=>d6 (j:=4) zzx rfl x hx;have atj:=hR.lt;have mE:=p3.1;have iN:=s3.1;have fq:∀j∈r.fp,j∉ak a.rx/\j≠q:=λj hj=>⟨(hf j hj).2 _ (.tail _ (.tail _ (.head _))),λe=>(hf j hj).2 [q] (.head _) (by rw[e];exact .head _)⟩;have tc:∀j∈r.fp,j<H.next:=λj hj=>atj j hj;have mA:RV H2 r.dx r.xs r.tx r.sx R:=(hR.out p3 λj hj=>(fq j hj).1).out s3 λj hj=>by rw[No];exact (fq j hj).2
 have J9:∀j,j∈ak a.nx++(ak a.kx++(a.ras++[r]).flatMap RA.fp)->j∈ak a.nx++(ak a.kx++a.ras.flatMap RA.fp)\/j∈r.fp:=λj hj=>by
  rw[flatMap_push] at hj;rcases aa2.1 hj with z|z;·exact .inl (aa1 _ z)
  ·rcases aa2.1 z with z|z;·exact .inl (aaT _ (aa1 _ z))
   ·rcases aa2.1 z with z|z;·exact .inl (aaT _ (aaT _ z))
    ·exact .inr z
 have Ki:lF q {a with rx:=eH,ras:=a.ras++[r]}=(lF q {a with rx:=eH}).set 4 (ak a.nx++(ak a.kx++(a.ras++[r]).flatMap RA.fp)):=rfl;have wi:∀j∈r.fp,∀l∈lF q {a with rx:=eH},j∉l:=λj hj l hl hm=>by
  have e:lF q {a with rx:=eH}=(lF q a).set 2 (ak eH):=rfl;rw[e] at hl;rcases adt hl with z|rfl;·exact (hf j hj).2 l z hm
  ·rcases p4 j hm with z|z;·exact (fq j hj).1 z
   ·have:=tc j hj;omega
 have uK:(lF q {a with rx:=eH,ras:=a.ras++[r]}).Pairwise Dj:=by
  rw[Ki,amj];have hp:=amj.1 d1;have e4:(lF q {a with rx:=eH}).length=5:=rfl;intro i j hi hj mO;rw[acV] at hi hj;rw[List.getElem_set,List.getElem_set];by_cases h1:4=i;·omega
  ·rw[zz1 h1];by_cases h2:4=j
   ·rw[zz2 h2];intro x hx hm;rcases J9 x hm with z|z;·exact (hp i 4 hi (by rw[e4];decide) zzz) x hx z
    ·exact wi x z _ (List.getElem_mem hi) hx
   ·rw[zz1 h2];exact hp i j hi hj mO
 refine⟨eH,H1,H2,ak a.rx++[q],p1,s1,⟨s2,r1.out s3 λj hj=>m (qI (q:=q) (.inl hj)),(q1 zzx).out s3 (d6 (j:=1) zzx rfl),?_,λi r' R' dH bp=>?_,by simp[h.len],(q3 zzx).out s3 (d6 (j:=3) zzx rfl),r2.out s3 λj hj=>m (qI (q:=q) (.inr (.inl hj))),uK,λl hl j hj=>?_,λl hl j hj=>?_⟩,
  (p3.mono λj hj=>aa1 _ hj).trans (s3.mono λj hj=>aaT _ hj),λj hj=>(aa2.1 hj).elim (λz=>⟨_,(.tail _ (.tail _ (.head _))),z⟩) λz=>⟨_,.head _,z⟩⟩
 ·rw[show List.zipWith iA (a.ras++[r]) (S.rs++[R])=List.zipWith iA a.ras S.rs++[iA r R] by rw[List.zipWith_append h.len];rfl];exact p2.out s3 (d6 (j:=2) zzx rfl)
 ·by_cases aV:i<a.ras.length;·rw[abd aV] at dH;rw[abd (by rw[<-h.len];exact aV)] at bp;exact (r3 i r' R' dH bp).out s3 λj hj=>m (qI (q:=q) (.inr (.inr (afn.2 ⟨r',aac dH,hj⟩))))
  ·rw[abk zzz] at dH;rw[abk (by rw[<-h.len];omega),<-h.len] at bp;have h0:i-a.ras.length=0:=by have:=(aag.1 dH).1;simp at this;omega
   rw[h0] at dH bp;cases dH;cases bp;exact mA
 ·rw[Ki] at hl;rcases adt hl with z|rfl;·exact d2 l z j hj
  ·rcases J9 j hj with z|z;·exact d2 _ (.tail _ (.tail _ (.tail _ (.tail _ (.head _))))) j z
   ·exact (hf j z).1
 ·rw[Ki] at hl;rcases adt hl with z|rfl;·exact d3 l z j hj
  ·rcases J9 j hj with z|z;·exact d3 _ (.tail _ (.tail _ (.tail _ (.tail _ (.head _))))) j z
   ·have:=tc j z;omega
end
def jN (N:Nat)(H H':Hp):Prop:=∃T,Out T H H'/\∀j∈T,N<=j
theorem jN.refl (N:Nat)(H:Hp):jN N H H:=⟨[],Out.refl _ _,λj hj=>by cases hj⟩
section
variable {H H':Hp}{N:Nat}{a:FA}{f:Fm}
theorem jN.Mj (k:Out [] H H'):jN N H H':=⟨[],k,λj hj=>by cases hj⟩
theorem jN.trans {H'':Hp}(h:jN N H H')(k:jN N H' H''):jN N H H'':=by obtain⟨T,t1,t2⟩:=h;obtain⟨U,u1,u2⟩:=k;exact⟨T++U,(t1.mono λj hj=>aa1 _ hj).trans (u1.mono λj hj=>aaT _ hj),λj hj=>(aa2.1 hj).elim (t2 j) (u2 j)⟩
theorem jN.nx (h:jN N H H'):H.next<=H'.next:=by obtain⟨T,t,_⟩:=h;exact t.1
def PB (N p:Nat)(a:FA):Prop:=(∀j∈own p a,j<N)/\∀j∈bD.dL a,j<N
theorem FL.vd {p:Nat}(h:FL H p a f)(k:jN N H H')(hl:PB N p a):FL H' p a f:=by obtain⟨T,t,u⟩:=k;exact h.out t (λj hj q=>by have:=u j q;have:=hl.1 j hj;omega) λj hj q=>by have:=u j q;have:=hl.2 j hj;omega
def jo (f:Fm)(s:Str):Str:=(eE f.aM s).getD []
theorem aeO {p b0 q N:Nat}{a:FA}{f:Fm}(hn:f.nms.length<=1000)(hl:PB N p a):∀(r:List Str) (i:Nat) (H:Hp) (sa:SA) (S:SS),i<=f.nms.length->f.nms.drop i=r->FL H p a f->SB N H q sa S->N<=H.next->S.aM.length=i->
  ∃Fz H',(∀p9:K.Fn 3,abi JN GO cK p9 (.ptr p 0) (.ptr b0 0) (.ptr q 0) a.nx (zi (f.nms.length:Nat)) (zi (i:Nat)) H=p9 (.ptr p 0) (.ptr b0 0) (.ptr q 0) H')/\SB N H' q Fz {S with aM:=S.aM++r.map (jo f)}/\jN N H H'
 |[],i,H,sa,S,hi,h,hF,hS,hN,ka=>by
  obtain rfl:=drop_nil hi h;refine⟨sa,H,λp9=>?_,?_,jN.refl _ _⟩;·rw[anX];simp only[acz,df,zz0,simprocAttr]
  ·rw[ajn,acQ];exact hS
 |s::r,i,H,sa,S,hi,h,hF,hS,hN,ka=>by
  obtain⟨g1,g2,g3⟩:=dU h;have es:=dC g1 zzz;obtain⟨w,w1,w2⟩:=hF.n.rw.fW (mS g2) .i64;have k2:cellAt H q 2=some sa.tx:=hS.c.cellAt rfl;have kt:cellAt H p 2=some (.map a.tm):=hF.c.cellAt rfl;have lk:=KG hF.t hF.vI s false;rw[cond_false] at lk;have lk':tv .str (.str []) false (.map a.tm) (.str s) H=some (.str (jo f s)):=lk;obtain⟨ax,H1,H2,T,p1,p2,p3,p4,p5⟩:=hS.azG hN (jo f s) zzz;have fI:=p1 H.next rfl;have hf:fl [(.str [])] [(0,1,.str (jo f s))]=some [.str (jo f s)]:=rfl;have cF:az H [.str (jo f s)] 9 0=some (H.next,al H [.str (jo f s)] 9 0):=eh zzy;have I9:cellAt (al H [.str (jo f s)] 9 0) q 2=some sa.tx:=by rw[(aD _ _ _ _).cellAt hS.c.1 zzy];exact k2
  have hO:jN N H H2:=⟨T,p4,λj hj=>by obtain⟨l,hl,hj⟩:=p5 j hj;exact hS.fr l hl j hj⟩;obtain⟨Fz,H',i1,i2,i3⟩:=aeO (b0:=b0) hn hl r (i+1) H2 _ _ g1 g3 (hF.vd hO hl) p3 (afz hN hO.nx) (by show (S.aM++[jo f s]).length=_;rw[aal,ka];rfl);refine⟨Fz,H',λp9=>?_,?_,hO.trans i3⟩;·rw[anX];simp(disch:=try exact zqz)only[acz,aN g1,w1,w2,k2,kt,lk',hf,cF,fI,p2,I9,eG (lN hS.t.rw),es,i1,ar,aq,zz0,simprocAttr]
  ·have e:({S with aM:=S.aM++[jo f s]++r.map (jo f)}:SS)={S with aM:=S.aM++(s::r).map (jo f)}:=by rw[aby,abr];rfl
   rw[<-e];exact i2
theorem akf {p b0 q N:Nat}{a:FA}{f:Fm}(hn:f.aw.length<=1000)(ot:∀x∈f.aw,Sm x.1)(hl:PB N p a):∀(r:List (Rn×Str)) (i:Nat) (H:Hp) (sa:SA) (S:SS),i<=f.aw.length->f.aw.drop i=r->FL H p a f->SB N H q sa S->N<=H.next->S.rs.length=i->S.fF.length=i->
  ∃Fz H',(∀Bc:K.Fn 2,acM JN GO cK Bc (.ptr b0 0) (.ptr q 0) a.rx (zi (f.aw.length:Nat)) (zi (i:Nat)) H=Bc (.ptr b0 0) (.ptr q 0) H')/\SB N H' q Fz {S with rs:=S.rs++r.map (·.1),fF:=S.fF++r.map (·.2)}/\jN N H H'
 |[],i,H,sa,S,hi,h,hF,hS,hN,hi1,py=>by
  obtain rfl:=drop_nil hi h;refine⟨sa,H,λBc=>?_,?_,jN.refl _ _⟩;·rw[afc];simp only[aa5,df,zz0,simprocAttr]
  ·rw[ajn,ajn,acQ,acQ];exact hS
 |x::r,i,H,sa,S,hi,h,hF,hS,hN,hi1,py=>by
  obtain⟨g1,g2,g3⟩:=dU h;have es:=dC g1 zzz;obtain⟨ra,b,o,q1,q2,q3,q4,q5,q6,q7⟩:=hF.at g2;have hz:st 5 (.ptr H.next 0) (.agg (bJ ra x)) (al H [.ah,(zi 0),.ah,.ah,(.str [])] 77 0)=some (al H (bJ ra x) 77 0):=gJ (alA q7) rfl rfl zzx rfl;have o1:=aD H (bJ ra x) 77 0;have c1:=aP H (bJ ra x) 77 0;have n1:(al H (bJ ra x) 77 0).next=H.next+1:=rfl;generalize bw:al H (bJ ra x) 77 0=H1 at*
  have Jr:=hS.au o1;have k3:cellAt H1 q 3=some sa.rx:=Jr.c.cellAt rfl;have Hj:av H1 H.next 0 4=some (rv ra.dx x.1.st ra.tx ra.sx):=by have e0:cellAt H1 H.next 0=some ra.dx:=c1.cellAt rfl;have e1:cellAt H1 H.next 1=some (zi x.1.st):=c1.cellAt rfl;have e2:cellAt H1 H.next 2=some ra.tx:=c1.cellAt rfl;have e3:cellAt H1 H.next 3=some ra.sx:=c1.cellAt rfl;simp only[av,ade,e0,e1,e2,e3,abY,acf];rfl
  obtain⟨ay,aT,ax,aA,H2,r1,r2,r3,r4⟩:=agP (q7.au o1) (ot x (aac g2));have Ei:=Jr.au r3;have JJ:cellAt H2 q 3=some sa.rx:=Ei.c.cellAt rfl;have iN:=r3.1;obtain⟨eH,H3,H4,T,p1,p2,p3,p4,p5⟩:=Ei.awU (r:=⟨ay,aT,ax,aA⟩) (R:=x.1) zzz r2.v (λj hj=>⟨by have:=r4 j hj;omega,λl hl hm=>by have:=Jr.lt l hl j hm;have:=r4 j hj;omega⟩) zzz;have fI:cL 75 4 [.ah,(zi 0),.ah,.ah] false sa.rx (.slice H2.next 0 1 1 true 4) (al H2 [ay,zi x.1.st,ax,aA] 75 0)=some (eH,H3):=p1 H2.next rfl;have auN:cellAt (al H2 [ay,zi x.1.st,ax,aA] 75 0) q 3=some sa.rx:=by rw[(aD _ _ _ _).cellAt Ei.c.1 zzy];exact JJ
  have Vn:jN N H2 H4:=⟨T,p4,λj hj=>by obtain⟨l,hl,hj⟩:=p5 j hj;exact Ei.fr l hl j hj⟩;have hHT:H.next∉T:=λhj=>by obtain⟨l,hl,hj⟩:=p5 _ hj;have:=hS.lt l hl _ hj;omega
  have c4:Cs H4 H.next (bJ ra x) 77 0:=(c1.out r3 zzy).out p4 hHT;have kn:cellAt H4 H.next 4=some (.str x.2):=c4.cellAt rfl;have ko:cellAt H4 q 4=some sa.ox:=p3.c.cellAt rfl;have hn4:=p4.1;obtain⟨oY,H5,H6,T2,u1,u2,u3,u4,u5⟩:=p3.au6 zzz x.2 (by show S.fF.length<=_;omega);have RW:cL 9 1 [(.str [])] false sa.ox (.slice H4.next 0 1 1 true 1) (al H4 [.str x.2] 9 0)=some (oY,H5):=u1 H4.next rfl;have hO6:jN N H4 H6:=⟨T2,u4,λj hj=>by obtain⟨l,hl,hj⟩:=u5 j hj;exact p3.fr l hl j hj⟩;have hO:jN N H H6:=((jN.Mj (o1.trans r3)).trans Vn).trans hO6;have hf:fl [(.str [])] [(0,1,.str x.2)]=some [.str x.2]:=rfl;have cF:az H4 [.str x.2] 9 0=some (H4.next,al H4 [.str x.2] 9 0):=eh zzy;obtain⟨Fz,H',i1,i2,i3⟩:=akf (b0:=b0) hn ot hl r (i+1) H6 _ _ g1 g3 (hF.vd hO hl) u3 (afz hN hO.nx) (by show (S.rs++[x.1]).length=_;rw[aal,hi1];rfl) (by show (S.fF++[x.2]).length=_;rw[aal,py];rfl);refine⟨Fz,H',λBc=>?_,?_,hO.trans i3⟩;·rw[afc];simp(disch:=try exact zqz)only[aa5,aN g1,q2,q6,hz,bw,k3,Hj,r1,JJ,fI,p2,auN,kn,ko,hf,cF,RW,u2,eG (lN hS.r.1.rw),es,i1,ar,aq,zz0,simprocAttr]
  ·have e:({S with rs:=S.rs++[x.1]++r.map (·.1),fF:=S.fF++[x.2]++r.map (·.2)}:SS)={S with rs:=S.rs++(x::r).map (·.1),fF:=S.fF++(x::r).map (·.2)}:=by rw[aby,aby,abr,abr];rfl
   rw[<-e];exact i2
theorem SB.azZ {b:Nat}{q:Nat}{a:SA}{S:SS}(h:SB N H q a S)(k:Out [b] H H')(hb:b<N):SB N H' q a S:=by
 have m:∀{l:List Nat},l∈lF q a->∀j∈l,j∉[b]:=λhl j hj z=>by rw[No] at z;have:=h.fr _ hl j hj;omega
 have m4:=m (l:=ak a.nx++(ak a.kx++a.ras.flatMap RA.fp)) (.tail _ (.tail _ (.tail _ (.tail _ (.head _)))));exact⟨h.c.out k (m (.head _) q (.head _)),h.n.out k λj hj=>m4 j (qI (q:=q) (.inl hj)),h.t.out k (m (.tail _ (.head _))),h.r.out k (m (.tail _ (.tail _ (.head _)))),λi r R hr hR=>(h.v i r R hr hR).out k λj hj=>m4 j (qI (q:=q) (.inr (.inr (afn.2 ⟨r,aac hr,hj⟩)))),h.len,h.o.out k (m (.tail _ (.tail _ (.tail _ (.head _))))),h.k.out k λj hj=>m4 j (qI (q:=q) (.inr (.inl hj))),h.dj,h.fr,λl hl j hj=>adi (h.lt l hl j hj) k.1⟩
def iv (f:Fm):SS:=⟨f.ck,f.nms,f.nms.map (jo f),f.aw.map (·.1),f.aw.map (·.2),f.ks⟩
def zS:List AV:=[zi 0,.ah,.ah,.ah,.ah,.ah]
theorem Cs.vd {H0:Nat}{i:Nat}{l:List AV}{el fl:Nat}(h:Cs H i l el fl)(k:jN N H H')(hi:i<N):Cs H' i l el fl:=by obtain⟨T,t,u⟩:=k;exact h.out t λq=>by have:=u i q;omega
theorem aqz {p:Nat}(h:FL H p a f)(hn:f.nms.length<=1000)(hr:f.aw.length<=1000)(hk:f.ks.length<=1000)(ot:∀x∈f.aw,Sm x.1):
  ∃sa q H',cK (zf 23) [.ptr p 0] H=some (.agg (fe sa (iv f)),H')/\SB H.next H' q sa (iv f)/\Out [] H H':=by
 have o1:=aD H zS 50 0;have c1:=aP H zS 50 0;have n1:(al H zS 50 0).next=H.next+1:=rfl;have cF:az H [(zi 0),.ah,.ah,.ah,.ah,.ah] 50 0=some (H.next,al H zS 50 0):=eh zzy;generalize bw:al H zS 50 0=H1 at*
 have h1:=h.au o1;have k0:cellAt H1 p 0=some (zi f.ck):=h1.c.cellAt rfl;have k1:cellAt H1 p 1=some a.nx:=h1.c.cellAt rfl;obtain⟨y,H2,y1,y2,y3,y4,_⟩:=ajU h1.n.rw (λv hv=>by obtain⟨s,_,rfl⟩:=abT.1 hv;rfl) (by rw[gZ];omega);have Cb:cK (zf 59) [.ptr p 0] H1=some (y,H2):=by refine aD0 ?_;unfold alu;simp(disch:=try exact zqz)only[k1,y1,ar,aq,zz0,simprocAttr]
 have h2:=h1.au y3;have k02:cellAt H2 p 0=some (zi f.ck):=h2.c.cellAt rfl;have k4:cellAt H2 p 4=some (.ptr a.kp 0):=h2.c.cellAt rfl;obtain⟨kx,H3,x1,x2,x3,x4⟩:=YR hk h2.k;have avG:cK (zf 60) [.ptr p 0] H2=some (kx,H3):=by refine aBZ ?_;unfold aj9;simp(disch:=try exact zqz)only[k4,x1,ar,aq,zz0,simprocAttr]
 have h3:=h2.au x3;have k03:cellAt H3 p 0=some (zi f.ck):=h3.c.cellAt rfl;have hz:st 6 (.ptr H3.next 0) (.agg [zi f.ck,y,.ah,.ah,.ah,kx]) (al H3 [(zi 0),.ah,.ah,.ah,.ah,.ah] 50 0)=some (al H3 [zi f.ck,y,.ah,.ah,.ah,kx] 50 0):=gJ (by simp[y2.rw.one,x2.rl.one,iS];decide) rfl rfl zzx rfl;have hf:fl [(zi 0),.ah,.ah,.ah,.ah,.ah] [(0,1,zi f.ck),(1,1,y),(5,1,kx)]=some [zi f.ck,y,.ah,.ah,.ah,kx]:=by rw[yW rfl zzy,yW y2.rw.one zzy,yW x2.rl.one zzy,pz];rfl
 have o4:=aD H3 [zi f.ck,y,.ah,.ah,.ah,kx] 50 0;have c4:=aP H3 [zi f.ck,y,.ah,.ah,.ah,kx] 50 0;have n4:(al H3 [zi f.ck,y,.ah,.ah,.ah,kx] 50 0).next=H3.next+1:=rfl;have nn2:=y3.1;have nn3:=x3.1;have ly:=y2.rw.lt;have lx:=x2.rl.1.lt;generalize hA4:al H3 [zi f.ck,y,.ah,.ah,.ah,kx] 50 0=H4 at*
 have SB4:SB (H.next+1) H4 H3.next ⟨y,.ah,.ah,.ah,kx,[]⟩ ⟨f.ck,f.nms,[],[],[],f.ks⟩:=by
  have mR:lF H3.next ⟨y,.ah,.ah,.ah,kx,[]⟩=[[H3.next],[],[],[],ak y++(ak kx++[])]:=rfl;refine⟨c4,(y2.rw.au x3).au o4,.nil,OL.nil _ _ _,λi r R hr=>by simp at hr,rfl,.nil,x2.rl.au o4,?_,?_,?_⟩
  ·rw[mR];simp[Dj];refine⟨λz=>?_,λz=>?_⟩;·have:=ly _ z;omega
   ·have:=lx _ z;omega
  ·rw[mR];intro l hl j hj;simp only[aaD,aj6,or_false] at hl;rcases hl with rfl|rfl|rfl|rfl|rfl;·rw[No] at hj;omega
   ·cases hj
   ·cases hj
   ·cases hj
   ·rw[acQ] at hj;rcases aa2.1 hj with z|z;·have:=y4 j z;omega
    ·have:=x4 j z;omega
  ·rw[mR];intro l hl j hj;simp only[aaD,aj6,or_false] at hl;rcases hl with rfl|rfl|rfl|rfl|rfl;·rw[No] at hj;omega
   ·cases hj
   ·cases hj
   ·cases hj
   ·rw[acQ] at hj;rcases aa2.1 hj with z|z;·have:=ly j z;omega
    ·have:=lx j z;omega
 have hl:PB (H.next+1) p a:=⟨λj hj=>by have:=h.lt j hj;omega,λj hj=>by have:=(h.dL j hj).2;omega⟩;have gw:=(y3.trans x3).trans o4;have h4:=h3.au o4;have k41:cellAt H4 p 1=some a.nx:=h4.c.cellAt rfl;have l1:=h4.n.rw.gu;rw[gZ] at l1;obtain⟨sa5,H5,i1,i2,i3⟩:=aeO (b0:=H.next) hn hl f.nms 0 H4 _ _ (aa7 _) aaY h4 SB4 zzz rfl;rw[show (((0:Nat):Int))=0 from rfl] at i1;have h5:=h4.vd i3 hl;have tR:cellAt H5 p 3=some a.rx:=h5.c.cellAt rfl;have l3:=h5.JS;obtain⟨NU,H6,j1,j2,j3⟩:=akf (b0:=H.next) hr ot hl f.aw 0 H5 _ _ (aa7 _) aaY h5 i2 (by have:=i3.nx;omega) rfl rfl;rw[show (((0:Nat):Int))=0 from rfl] at j1;have hS:SB (H.next+1) H6 H3.next NU (iv f):=j2;have cb:Cs H6 H.next zS 50 0:=Cs.vd (H0:=0) (Cs.vd (H0:=0) (c1.out gw zzy) i3 (ahA _)) j3 (ahA _);have kq:av H6 H3.next 0 6=some (fe NU (iv f)):=hS.c.av 6 0 (by simp[fe]);obtain⟨H7,s1,s2,s3,s4⟩:=iC (n:=6) (vs:=fe NU (iv f)) cb rfl rfl (by simp[fe,hS.n.one,hS.t.rw.one,hS.r.rl.one,hS.o.rw.one,hS.k.one,iS]);have kb:av H7 H.next 0 6=some (fe NU (iv f)):=s2.av 6 0 (by simp[fe]);have S7:=hS.azZ s3 (ahA _);have oN:jN H.next H H7:=by obtain⟨T,t1,t2⟩:=i3.trans j3;exact ((jN.Mj (o1.trans gw)).trans ⟨T,t1,λj hj=>by have:=t2 j hj;omega⟩).trans ⟨[H.next],s3,ll (aaO _)⟩
 refine⟨NU,H3.next,H7,aFs ?_,⟨S7.c,S7.n,S7.t,S7.r,S7.v,S7.len,S7.o,S7.k,S7.dj,λl hl j hj=>by have:=S7.fr l hl j hj;omega,S7.lt⟩,?_⟩;·unfold ahK;simp(disch:=try exact zqz)only[cF,bw,k0,Cb,k02,k03,avG,hf,hz,hA4,k41,l1,i1,tR,l3,j1,kq,s1,kb,eG (agj _ _),ar,aq,zz0,simprocAttr]
 ·obtain⟨T,t1,t2⟩:=oN;exact eR (Out.refl _ _) t1 t2
end
end
theorem adC:∀(l:List (Str×Str)),(l.map (·.1)).Nodup->∀m:List (Str×Str),(∀x∈l,eE m x.1=some x.2)->(l.map (·.1)).zip ((l.map (·.1)).map λs=>(eE m s).getD [])=l
 |[],_,m,_=>rfl|x::l,h,m,hm=>by rw[aby,akD] at h;rw[aby,aby,List.zip_cons_cons,adC l h.2 m λy hy=>hm y (.tail _ hy),hm x (.head _)];rfl
theorem aap {l:List (Str×Str)}(h:(l.map (·.1)).Nodup){x:Str×Str}(hx:x∈l):eE l x.1=some x.2:=by
 obtain⟨a,b,rfl⟩:=List.append_of_mem hx;unfold eE;rw[List.find?_append];have hn:a.find? (λy=>y.1==x.1)=none:=by rw[List.find?_eq_none];intro y hy q;rw[acY,aby,aeg] at h;exact h.2.2 _ (abT.2 ⟨y,hy,rfl⟩) x.1 zzy (by simpa using q)
 rw[hn];simp
theorem adV (ck:Int):∀(r a:List (Str×Str)),(∀x∈a++r,tY x.1=true/\(aG x.2).2=0/\lE (aG x.2).1=x.2)->((a++r).map (·.1)).Nodup->(a++r).length<=16->
  jz ⟨ck,a.map (·.1),a,[],[]⟩ r=some ⟨ck,(a++r).map (·.1),a++r,[],[]⟩
 |[],a,h,hn,hl=>by rw[acQ];rfl
 |x::r,a,h,hn,hl=>by
  obtain⟨h1,h2,h3⟩:=h x zzy;have hg:eE a x.1=none:=by
   cases hq:eE a x.1 with
   |none=>rfl|some t=>
    have hm:=Fs hq;rw[acY,aeg] at hn;exact absurd rfl (hn.2.2 _ (abT.2 ⟨_,hm,rfl⟩) x.1 zzy)
  have hd:mH ⟨ck,a.map (·.1),a,[],[]⟩ x.1 x.2=(⟨ck,(a++[x]).map (·.1),a++[x],[],[]⟩,0):=by unfold mH;rw[hg,zz1 zzy,zz1 (by simp[h2]),zz1 (by rw[aal,aaP] at hl;simp;omega),h3,acY];rfl
  unfold jz;rw[hd,zz2 ⟨h1,h3,rfl⟩];have:=adV ck r (a++[x]) (by simpa using h) (by simpa using hn) (by simpa using hl);simpa using this
theorem Z7 {α β:Type}{p:α->β->Bool}:∀{l:List α} {m:List β},(∀(i:Nat) (a:α) (b:β),l[i]?=some a->m[i]?=some b->p a b=true)->(List.zipWith p l m).all id=true
 |[],_,_=>zzy|_::_,[],_=>zzy|a::l,b::m,h=>by rw[List.zipWith_cons_cons,alZ,Z7 (l:=l) (m:=m) λi x y h1 h2=>h (i+1) x y h1 h2];simp[h 0 a b rfl rfl]
theorem aDw {R:Rn}(h:RI R)(uC:(bh R.ts).2=0):wo R R.ts=true:=by
 unfold wo;have e1:decide ((bh R.ts).2=0)=true:=zz3 uC;have e2:nu R.st 0 3=true:=by unfold nu;simp[h.st.1,h.st.2]
 have e3:decide (R.rs.length=R.ts.length)=true:=zz3 h.i0.ok.len;have e4:({R with ts:=(bh R.ts).1.ts}:Rn)=R:=by rw[UL uC]
 have e5:(List.zipWith Ar R.ts R.rs).all id=true:=Z7 λi t r ht hr=>by
  have hi:=h.ti r (aac hr);obtain⟨t1,t2,_,_⟩:=h.i0.tr i t r ht hr;unfold Ar nu;have q:((r.ph==2)||(r.ph==5)||(r.fH==0))=true:=by
   by_cases h2:r.ph=2;·simp[h2]
   ·by_cases h5:r.ph=5;·simp[h5]
    ·simp[hi.tz h2 h5]
  simp[hi.ph.1,hi.ph.2,t1,t2,hi.dt,hi.tl.1,hi.tl.2];simpa using q
 have e6:(List.zipWith (uk R.ts R.sg) R.sg (List.range R.sg.length)).all id=true:=Z7 λi s k hs hk=>by
  have aV:=(aag.1 hs).1;rw[List.getElem?_range aV] at hk;cases hk;obtain⟨g1,t,g2,g3⟩:=h.sk s (aac hs);unfold uk;have a1:(R.sg.take i).any (λa=>s==a)=false:=by
   rw[akE];intro a ha q;have:s=a:=by simpa using q
   subst this;have hd:=h.sn;rw[<-ajx i R.sg,aeg] at hd;refine hd.2.2 _ ha s ?_ rfl;rw[List.mem_iff_getElem?];exact⟨0,by rw[agr];exact hs⟩
  have a2:R.ts.any (λt=>t.on==s)=true:=List.any_eq_true.2 ⟨t,g2,by simp[g3]⟩;rw[a1,a2];simp[g1]
 rw[e1,e2,e3,e4,adu,e5,e6];rfl
theorem aiX {f:Fm}:∀(r a:List (Rn×Str)),(∀x∈r,(eE f.aM x.2).isSome=true/\wo x.1 (tJ f x.2)=true)->lQ {f with aw:=a} r=some {f with aw:=a++r}
 |[],a,h=>by rw[acQ];rfl
 |x::r,a,h=>by obtain⟨h1,h2⟩:=h x (.head _);unfold lQ;rw[zz2 ⟨h1,h2⟩];have:=aiX (f:=f) r (a++[x]) λy hy=>h y (.tail _ hy);rw[abr] at this;exact this
theorem ac8 {f:Fm}:∀(r a:List Ke),(∀x∈r,1<=x.2/\x.2<=f.aw.length/\(∃y,f.aw[(x.2-1).toNat]?=some y/\y.2=x.1.1)/\x.1.2≠[]/\x.1.2.length<=16)->((a++r).map (·.1)).Nodup->nM {f with ks:=a} r=some {f with ks:=a++r}
 |[],a,h,hn=>by rw[acQ];rfl
 |x::r,a,h,hn=>by
  obtain⟨h1,h2,⟨y,h3,h4⟩,h5,h6⟩:=h x (.head _);have hg:mY a x.1=none:=by
   cases hq:mY a x.1 with
   |none=>rfl|some id=>
    obtain⟨u,v,h7,_⟩:=Xr hq;rw[acY,aeg] at hn;exact absurd rfl (hn.2.2 _ (abT.2 ⟨(x.1,id),by rw[h7];simp,rfl⟩) x.1 zzy)
  have ho:qd {f with ks:=a} x=true:=by unfold qd;simp only[h3,hg,adX,h4];simp[h1,h2,h5,h6]
  unfold nM;rw[ho];have:=ac8 (f:=f) r (a++[x]) (λz hz=>h z (.tail _ hz)) (by simpa using hn);rw[abr] at this;exact this
theorem acC {α β:Type}:∀l:List (α×β),(l.map (·.1)).zip (l.map (·.2))=l
 |[]=>rfl|x::l=>by rw[aby,aby,List.zip_cons_cons,acC l]
theorem acB {f:Fm}(h:FI f):nP (iv f)=some f:=by
 have gW:(f.aM.map (·.1)).Nodup:=by rw[h.nt];exact h.nd
 have hz:f.nms.zip (f.nms.map (jo f))=f.aM:=by rw[<-h.nt];exact adC f.aM gW f.aM λx hx=>aap gW hx
 have hb:qT (iv f)=false:=by unfold qT iv;have:=h.ck;have:=h.nr;have:=h.nk;simp only[abv,decide_true,ak8,anA,ahz,decide_eq_false_iff_not];omega
 have hl:f.aM.length<=16:=by have:=congrArg List.length h.nt;rw[abv] at this;have:=h.nn;omega
 have s1:=adV f.ck f.aM [] (λx hx=>h.tx x (by simpa using hx)) (by simpa using gW) (by simpa using hl);rw[afP,h.nt] at s1;have s2:=aiX (f:=⟨f.ck,f.nms,f.aM,[],[]⟩) f.aw [] λx hx=>by
  obtain⟨hr,t,ht,hp⟩:=h.run x hx;refine⟨by rw[show (⟨f.ck,f.nms,f.aM,[],[]⟩:Fm).aM=f.aM from rfl,ht];rfl,?_⟩;have hd:tJ ⟨f.ck,f.nms,f.aM,[],[]⟩ x.2=x.1.ts:=by unfold tJ;rw[show (⟨f.ck,f.nms,f.aM,[],[]⟩:Fm).aM=f.aM from rfl,ht];exact hp
  rw[hd];refine aDw hr ?_;rw[<-hp];exact (amG (h.tx _ (Fs ht)).2.1).2.2
 have s3:=ac8 (f:=⟨f.ck,f.nms,f.aM,f.aw,[]⟩) f.ks [] h.kk (by simpa using h.kd);unfold nP;rw[hb];show ((jz _ (f.nms.zip (f.nms.map (jo f)))).bind _)=_;rw[hz];show (jz (⟨f.ck,([]:List (Str×Str)).map (·.1),[],[],[]⟩:Fm) f.aM).bind _=_;rw[s1];show ((lQ ⟨f.ck,f.nms,f.aM,[],[]⟩ ((f.aw.map (·.1)).zip (f.aw.map (·.2)))).bind _)=_;rw[acC];rw[show (⟨f.ck,f.nms,f.aM,[],[]⟩:Fm)={(⟨f.ck,f.nms,f.aM,[],[]⟩:Fm) with aw:=[]} from rfl,s2];exact s3
theorem SB.sv {N q:Nat}{H:Hp}{a:SA}{S:SS}(h:SB N H q a S):SV H.next H a S:=
 ⟨h.n,h.t.rw,h.r.rl,h.v,h.len,h.o.rw,h.k,λj hj=>by
  rcases hj with hj|hj|hj|hj|hj|hj;·exact h.lt _ (aac (i:=4) rfl) j (qI (q:=q) (.inl hj))
  ·exact h.lt _ (aac (i:=1) rfl) j hj
  ·exact h.lt _ (aac (i:=2) rfl) j hj
  ·exact h.lt _ (aac (i:=3) rfl) j hj
  ·exact h.lt _ (aac (i:=4) rfl) j (qI (q:=q) (.inr (.inl hj)))
  ·exact h.lt _ (aac (i:=4) rfl) j (qI (q:=q) (.inr (.inr hj)))⟩
structure CG (p q:Nat)(a b:FA):Prop where
 o:∀j∈own p a,j∉own q b
 i:∀j∈own p a,j∉bD.dL b
 k:∀j∈own q b,j∉bD.dL a
theorem CG.symm {p q:Nat}{a b:FA}(h:CG p q a b):CG q p b a:=⟨λj hj z=>h.o j z hj,h.k,h.i⟩
theorem CG.step {H H':Hp}{p q:Nat}{a a' b:FA}(h:CG p q a b)(k:FSt H H' p a a')(hb:∀j ∈ own q b,j<H.next)(hi:∀j ∈ bD.dL b,j<H.next):CG p q a' b :=
  ⟨λj hj z=>(k.w j hj).elim (λw=>h.o j w z) λw=>by have:=hb j z;omega,λj hj z=>(k.w j hj).elim (λw=>h.i j w z) λw=>by have:=hi j z;omega,
   λj hj z=>(k.i j z).elim (h.k j hj) λw=>by have:=hb j hj;omega⟩
end Go.Proofs.YtodfajmihkagnaaGreatDoor.bD
