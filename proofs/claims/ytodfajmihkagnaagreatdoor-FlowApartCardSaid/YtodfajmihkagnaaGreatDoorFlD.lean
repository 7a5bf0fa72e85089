/- What package flow's New, Def, Key, Clock, define, start do, as contracts over the symbolic heap. Conditions: as each states them. -/
import Derived.Test.YtodfajmihkagnaaGreatDoorDfD6
import Derived.Test.YtodfajmihkagnaaGreatDoorDfKb
import Derived.Handed
import Derived.Test.YtodfajmihkagnaaGreatDoorProg
set_option linter.unusedVariables false
set_option linter.unusedSimpArgs false
set_option maxRecDepth 100000
set_option maxHeartbeats 2000000
namespace Go.Proofs.YtodfajmihkagnaaGreatDoor.DfK
open Go Am Am.K mf og lH qz
theorem parse_c0 {text:aq} {H:Hp} (hg:Gl H):∃ dx xs H',cK (.func (.func 53) [] []) [.str text] H=some (.tuple [dv dx,.int .i64 (aS text).2],H')/\RD H' dx xs (aS text).1/\Out [] H H'/\∀ j∈lE dx xs,H.next<=j:=by
 by_cases hl:text.length<=4294967296
 ·exact ael hg hl
 have o1:=aN H [.ah] 72 0
 have d:decide ((1024:Int)<(text.length:Int))=true:=decide_eq_true (by omega)
 have aD:st 1 (.ptr H.next 0) (.agg [.ah]) (al H [.ah] 72 0)=some (al H [.ah] 72 0):=kq rfl rfl rfl (by decide) rfl
 unfold aS
 rw[if_pos (by omega)]
 refine⟨.ah,[],al H [.ah] 72 0,HG ?_,RD.nil _,o1,fun j hj=>by cases hj⟩
 unfold Ai
 simp(disch:=(first|assumption|omega|(simp only[ag,af,simprocAttr]<;>fail)|(simp only[af];omega)|(simp only[ag,af,simprocAttr, *]<;>fail)|fail))only[d,aD,au,ar,aj,ai,simprocAttr]
theorem alz (i:Nat):same (.map i) (.map i)=true:=by simp[same,p9,afB]
def tE:Fm:=⟨0,[],[],[],[]⟩
theorem aas {H:Hp} (hn:11<=H.next):∃ p a H',cK (.func (.func 18) [] []) [] H=some (.ptr p 0,H')/\FL H' p a tE/\Out [] H H'/\(∀ j∈own p a,H.next<=j)/\a.bG=[]:=by
 obtain⟨H1,m1,m2,m3,m4⟩:=IT H
 obtain⟨kp,km,H2,k1,k2,k3,k4,k5⟩:=ajS H1
 have jV:=k2.lt
 have hf:fl [(.int .i64 0),.ah,.jv,.ah,.fB] [(2,1,.map H.next),(4,1,.ptr kp 0)]=some (fv ⟨H.next,kp,km,.ah,.ah,.ah,[]⟩ tE):=rfl
 have bg:bx 67 (.agg (fv ⟨H.next,kp,km,.ah,.ah,.ah,[]⟩ tE)) H2=some (H2.next,al H2 (fv ⟨H.next,kp,km,.ah,.ah,.ah,[]⟩ tE) 67 0):=iE (by simp)
 have o3:=aN H2 (fv ⟨H.next,kp,km,.ah,.ah,.ah,[]⟩ tE) 67 0
 have c3:=bD H2 (fv ⟨H.next,kp,km,.ah,.ah,.ah,[]⟩ tE) 67 0
 have l1:=jV kp (.head _)
 have l2:=jV km (.tail _ (.head _))
 have n2:=k3.1
 have Zq:∀ j∈own H2.next ⟨H.next,kp,km,.ah,.ah,.ah,[]⟩,H.next<=j:=by
  intro j hj
  simp[own,gP,ak] at hj
  omega
 refine⟨H2.next,⟨H.next,kp,km,.ah,.ah,.ah,[]⟩,al H2 (fv ⟨H.next,kp,km,.ah,.ah,.ah,[]⟩ tE) 67 0,adW ?_,⟨c3,.nil,⟨[],0,rfl,(m2.out k3 (by simp)).out o3 (by simp)⟩,by simp[tE],OL.nil _ _ _,fun i r x hr=>by simp at hr,rfl,k2.aw o3,?_,fun j hj => ?_,fun j hj=>by simp[dR] at hj⟩,(m3.trans k3).trans o3,Zq,rfl⟩
 ·unfold aaJ
  simp only[m1,k1,hf,bg,aj,ai,simprocAttr]
 ·have It:=k2.d1
  simp[gP,Dj,ak]
  omega
 ·have:=Zq j hj;omega
theorem FL.Nd {H:Hp} {p:Nat} {a:FA} {f:Fm} (h:FL H p a f):aV a.rx=some (.int .i64 (f.aA.length:Nat)):=by
 have:=h.r.rl.len (by decide)
 rw[aeP,h.len,Nat.min_self] at this
 exact this
theorem amq {H:Hp} {p:Nat} {a:FA} {f:Fm} (h:FL H p a f) (s t:aq):∃ H',cK (.func (.func 45) [] []) [.ptr p 0,.str s,.str t] H=some (.tuple [.int .i64 ((me f.ks (s,t)).getD 0),.bool (me f.ks (s,t)).isSome],H')/\Out [] H H':=by
 have k4:cellAt H p 4=some (.ptr a.kp 0):=h.c.cellAt rfl
 have hf:fl [(.str []),(.str [])] [(0,1,.str s),(1,1,.str t)]=some (cI (s,t)):=rfl
 obtain⟨H',g1,g2⟩:=anr h.k (s,t)
 refine⟨H',ahE ?_,g2⟩
 unfold Th
 simp(disch:=(first|assumption|omega|(simp only[ag,af,simprocAttr]<;>fail)|(simp only[af];omega)|(simp only[ag,af,simprocAttr, *]<;>fail)|fail))only[k4,hf,g1,au,ar,aj,ai,simprocAttr]
noncomputable def M4 (f:Fm) (s:aq):List Tk:=match jb f.gp s with | none=>[] | some t=>(aS t).1
theorem RD.z (H:Hp):RD H .ah [] []:=RD.nil H
theorem aiK {H:Hp} {p:Nat} {a:FA} {f:Fm} (h:FL H p a f) (hg:Gl H) (s:aq) :
  ∃ dx xs H',cK (.func (.func 56) [] []) [.ptr p 0,.str s] H=some (.tuple [dv dx,.bool (jb f.gp s).isSome],H')/\RD H' dx xs (M4 f s)/\Out [] H H'/\∀ j∈lE dx xs,H.next<=j:=by
 have o1:=aN H [.ah] 72 0
 have c1:=bD H [.ah] 72 0
 have n1:(al H [.ah] 72 0).next=H.next+1:=rfl
 generalize gf:al H [.ah] 72 0=H1 at *
 have h1:=h.aw o1
 have k2:cellAt H1 p 2=some (.map a.tm):=h1.c.cellAt rfl
 have lk:=HZ h1.t h1.pP s true
 unfold M4
 cases hs:jb f.gp s with
 | none=>
  rw[hs] at lk
  obtain⟨H2,t1,t2,t3,t4⟩:=ir (n:=1) (vs:=[.ah]) c1 rfl rfl rfl
  have k3:av H2 H.next 0 1=some [.ah]:=t2.av 1 0 (by simp)
  refine⟨.ah,[],H2,WK ?_,RD.nil _,gB o1 t3 (kP (abe _)),fun j hj=>by cases hj⟩
  unfold Qr
  simp(disch:=(first|assumption|omega|(simp only[ag,af,simprocAttr]<;>fail)|(simp only[af];omega)|(simp only[ag,af,simprocAttr, *]<;>fail)|fail))only[gf,k2,lk,Option.getD_none,aeB,cond_true,t1,k3,au,ar,aj,ai,simprocAttr]
 | some t=>
  rw[hs] at lk
  obtain⟨dx,xs,H2,p1,p2,p3,p4⟩:=parse_c0 (text:=t) (hg.aw o1)
  have gr:=p2.row.one
  have n2:=p3.nx
  have o3:=aN H2 [dx] 72 0
  have c3:=bD H2 [dx] 72 0
  have aD:st 1 (.ptr H2.next 0) (.agg [dx]) (al H2 [.ah] 72 0)=some (al H2 [dx] 72 0):=kq (by simp[gr]) rfl rfl (by decide) rfl
  generalize nw:al H2 [dx] 72 0=H3 at *
  have k4:av H3 H2.next 0 1=some [dx]:=c3.av 1 0 (by simp)
  have cR:=(c1.out p3 (by simp)).out o3 (by simp)
  obtain⟨H4,t1,t2,t3,t4⟩:=ir (n:=1) (vs:=[dx]) cR rfl rfl (by simp[gr])
  have k5:av H4 H.next 0 1=some [dx]:=t2.av 1 0 (by simp)
  refine⟨dx,xs,H4,WK ?_,((p2.aw o3).out t3 fun j hj=>by rw[aan];have:=p4 j hj;omega),gB ((o1.trans p3).trans o3) t3 (kP (abe _)),fun j hj=>by have:=p4 j hj;omega⟩
  unfold Qr
  simp(disch:=(first|assumption|omega|(simp only[ag,af,simprocAttr]<;>fail)|(simp only[af];omega)|(simp only[ag,af,simprocAttr, *]<;>fail)|fail))only[gf,k2,lk,ae0,ae8,cond_true,p1,aD,k4,t1,k5,au,ar,aj,ai,simprocAttr]
noncomputable def Dd (f:Fm) (s t:aq):Fm × Int:=
 if (jb f.gp s).isSome then (f,5) else if (aS t).2≠0 then (f,(aS t).2) else if f.dO.length=16 then (f,6) else
  ({ f with dO:=f.dO++[s],gp:=f.gp++[(s,po (aS t).1)] },0)
theorem FSt.end {H H1 H2:Hp} {p:Nat} {a b:FA} (h:Out [] H H1) (k:FSt H1 H2 p a b):FSt H H2 p a b:=(FSt.same h p a).trans k
theorem acD {H:Hp} {p:Nat} {a:FA} {f:Fm} (h:FL H p a f) (hg:Gl H) (hn:f.dO.length<=16) (s t:aq) :
  ∃ a' H',cK (.func (.func 40) [] []) [.ptr p 0,.str s,.str t] H=some (.int .i64 (Dd f s t).2,H')/\FL H' p a' (Dd f s t).1/\FSt H H' p a a':=by
 have k2:cellAt H p 2=some (.map a.tm):=h.c.cellAt rfl
 have lk:=HZ h.t h.pP s true
 unfold Dd
 cases hs:jb f.gp s with
 | some t0=>
  rw[hs] at lk
  rw[if_pos (show (some t0).isSome=true from rfl)]
  refine⟨a,H,IA ?_,h,FSt.same (Out.refl _ _) p a⟩
  unfold Ce
  simp(disch:=(first|assumption|omega|(simp only[ag,af,simprocAttr]<;>fail)|(simp only[af];omega)|(simp only[ag,af,simprocAttr, *]<;>fail)|fail))only[k2,lk,ae0,ae8,cond_true,au,ar,aj,ai,simprocAttr]
 | none=>
  rw[hs] at lk
  rw[if_neg (by simp)]
  obtain⟨dx,xs,H2,p1,p2,p3,p4⟩:=parse_c0 (text:=t) hg
  have gr:=p2.row.one
  have o3:=aN H2 [dx] 72 0
  have c3:=bD H2 [dx] 72 0
  have n3:(al H2 [dx] 72 0).next=H2.next+1:=rfl
  have aD:st 1 (.ptr H2.next 0) (.agg [dx]) (al H2 [.ah] 72 0)=some (al H2 [dx] 72 0):=kq (by simp[gr]) rfl rfl (by decide) rfl
  have Cf:st 1 (.ptr H2.next 0) (dv dx) (al H2 [.ah] 72 0)=some (al H2 [dx] 72 0):=aD
  generalize nw:al H2 [dx] 72 0=H3 at *
  have gX:=p3.trans o3
  have h3:=h.aw gX
  by_cases hp:(aS t).2=0
  ·have dp:((aS t).2 != 0)=false:=by simp[hp]
   rw[if_neg (by simp[hp])]
   have k1:cellAt H3 p 1=some a.nx:=h3.c.cellAt rfl
   have eW:=h3.n.rw.kC
   rw[iP] at eW
   by_cases bM:f.dO.length=16
   ·have d16:(((f.dO.length:Nat):Int)==16)=true:=by simp[bM]
    rw[if_pos bM]
    refine⟨a,H3,IA ?_,h3,FSt.same gX p a⟩
    unfold Ce
    simp(disch:=(first|assumption|omega|(simp only[ag,af,simprocAttr]<;>fail)|(simp only[af];omega)|(simp only[ag,af,simprocAttr, *]<;>fail)|fail))only[k2,lk,Option.getD_none,aeB,cond_true,p1,aD,Cf,dp,k1,eW,d16,au,ar,aj,ai,simprocAttr]
   ·have d16:(((f.dO.length:Nat):Int)==16)=false:=by rw[beq_eq_false_iff_ne];omega
    rw[if_neg bM]
    obtain⟨gg,H4,H5,a1,a2,a3,a4,a5⟩:=h3.afr s (by omega)
    have GP:=a1 H3.next rfl
    have hf:fl [(.str [])] [(0,1,.str s)]=some [.str s]:=rfl
    have eh:aL H3 [.str s] 9 0=some (H3.next,al H3 [.str s] 9 0):=iy (by simp)
    have aev:H2.next∉own p a:=fun q=>by have:=h.lt _ q;have:=p3.1;omega
    have c5:Cs H5 H2.next [dx] 72 0:=c3.out a4.o aev
    have k5:av H5 H2.next 0 1=some [dx]:=c5.av 1 0 (by simp)
    have la:=SD hp
    have adm:RD H5 dx xs (aS t).1:=(p2.aw o3).out a4.o fun j hj q=>by have:=p4 j hj;have:=h.lt _ q;omega
    have hg5:Gl H5:=(hg.aw gX).out a4.o h.lo
    obtain⟨H6,s1,s2⟩:=anS hg5 la.2.1 la.2.2.1 la.2.2.2.1 la.1 adm
    have h6:=a3.aw s2
    obtain⟨H7,u1,u2,u3⟩:=h6.adp (s:=s) (by simpa using hs) (po (aS t).1)
    have k6:cellAt H5 p 2=some (.map a.tm):=a3.c.cellAt rfl
    have k7:cellAt H6 p 2=some (.map a.tm):=h6.c.cellAt rfl
    refine⟨{ a with nx:=gg },H7,IA ?_,u2,FSt.end gX (a4.trans ((FSt.same s2 p _).trans u3))⟩
    unfold Ce
    simp(disch:=(first|assumption|omega|(simp only[ag,af,simprocAttr]<;>fail)|(simp only[af];omega)|(simp only[ag,af,simprocAttr, *]<;>fail)|fail))only[k2,lk,Option.getD_none,aeB,cond_true,p1,aD,Cf,dp,k1,eW,d16,hf,eh,GP,a2,k5,k6,k7,s1,u1,nH (alz _),au,ar,aj,ai,simprocAttr]
  ·have dp:((aS t).2 != 0)=true:=by simp[hp]
   rw[if_pos hp]
   refine⟨a,H3,IA ?_,h3,FSt.same gX p a⟩
   unfold Ce
   simp(disch:=(first|assumption|omega|(simp only[ag,af,simprocAttr]<;>fail)|(simp only[af];omega)|(simp only[ag,af,simprocAttr, *]<;>fail)|fail))only[k2,lk,Option.getD_none,aeB,cond_true,p1,aD,Cf,dp,au,ar,aj,ai,simprocAttr]
theorem parse_bad {text:aq} (h:(aS text).2≠0):(aS text).1=[]:=by
 unfold aS at h ⊢
 by_cases h1:1024<text.length
 ·rw[if_pos h1]
 ·rw[if_neg h1] at h ⊢
  cases ry:ns ((cW 59 text).map om) (cW 59 text) with
  | none=>rfl
  | some ts=>
   rw[ry] at h
   by_cases h2:js ts=0
   ·simp only[if_pos h2] at h;exact absurd rfl h
   ·simp only[if_neg h2]
theorem parse_bd (text:aq):(aS text).1.length<=16/\∀ t∈(aS text).1,t.after.length<=16:=by
 by_cases h:(aS text).2=0
 ·obtain⟨g1,g2,g3,g4,g5,g6⟩:=Mg h
  exact⟨g3,Sy g3 g4⟩
 ·rw[parse_bad h]
  exact⟨ab2 _,fun t ht=>by cases ht⟩
noncomputable def startM (f:Fm) (e:Ev):Fm × Int:=
 match jb f.gp e.nm with
 | none=>(f,4)
 | some t=>if e.ky≠[]/\(me f.ks (e.nm,e.ky)).isSome=true then (f,5) else if f.aA.length=64 then (f,6) else if e.rn≠(f.aA.length:Int)+1 then (f,1) else
  if (cu (aS t).1).2≠0 then (f,(cu (aS t).1).2) else
  ({ f with aA:=f.aA++[((cu (aS t).1).1,e.nm)],ks:=if e.ky=[] then f.ks else f.ks++[((e.nm,e.ky),e.rn)] },0)
theorem start_c {H:Hp} {p:Nat} {a:FA} {f:Fm} (h:FL H p a f) (hg:Gl H) (hk:f.ks.length<128) (hr:f.aA.length<=64) (e:Ev) :
  ∃ a' H',cK (.func (.func 41) [] []) [.ptr p 0,.agg (bc e)] H=some (.int .i64 (startM f e).2,H')/\FL H' p a' (startM f e).1/\FSt H H' p a a':=by
 have bg:bx 26 (.agg (bc e)) H=some (H.next,al H (bc e) 26 0):=iE (by rw[pE];omega)
 have o1:=aN H (bc e) 26 0
 have c1:=bD H (bc e) 26 0
 have n1:(al H (bc e) 26 0).next=H.next+1:=rfl
 generalize al H (bc e) 26 0=H1 at *
 have h1:=h.aw o1
 have E1:cellAt H1 H.next 1=some (.int .i64 e.rn):=c1.cellAt rfl
 have E5:cellAt H1 H.next 5=some (.str e.nm):=c1.cellAt rfl
 have E6:cellAt H1 H.next 6=some (.str e.ky):=c1.cellAt rfl
 obtain⟨dx,xs,H2,p1,p2,p3,p4⟩:=aiK h1 (hg.aw o1) e.nm
 have gr:=p2.row.one
 have o3:=aN H2 [dx] 72 0
 have c3:=bD H2 [dx] 72 0
 have n3:(al H2 [dx] 72 0).next=H2.next+1:=rfl
 have aD:st 1 (.ptr H2.next 0) (dv dx) (al H2 [.ah] 72 0)=some (al H2 [dx] 72 0):=kq (by simp[gr]) rfl rfl (by decide) rfl
 generalize nw:al H2 [dx] 72 0=H3 at *
 have h3:=(h1.aw p3).aw o3
 have gX:=(o1.trans p3).trans o3
 have cE3:=(c1.out p3 (by simp)).out o3 (by simp)
 obtain⟨H4,q1,q2⟩:=amq h3 e.nm e.ky
 have h4:=h3.aw q2
 have mX:=gX.trans q2
 have cE4:=cE3.out q2 (by simp)
 have F5:cellAt H3 H.next 5=some (.str e.nm):=cE3.cellAt rfl
 have F6:cellAt H3 H.next 6=some (.str e.ky):=cE3.cellAt rfl
 have G1:cellAt H4 H.next 1=some (.int .i64 e.rn):=cE4.cellAt rfl
 have G6:cellAt H4 H.next 6=some (.str e.ky):=cE4.cellAt rfl
 have k3:cellAt H4 p 3=some a.rx:=h4.c.cellAt rfl
 have gE:=h4.Nd
 unfold startM
 unfold M4 at p2
 cases hs:jb f.gp e.nm with
 | none=>
  rw[hs] at p1
  refine⟨a,H4,vj ?_,h4,FSt.same mX p a⟩
  unfold sN
  simp(disch:=(first|assumption|omega|(simp only[ag,af,simprocAttr]<;>fail)|(simp only[af];omega)|(simp only[ag,af,simprocAttr, *]<;>fail)|fail))only[bg,E5,p1,aD,F5,F6,q1,aeB,au,ar,aj,ai,simprocAttr]
 | some t=>
  rw[hs] at p1 p2
  simp only at p2 ⊢
  by_cases hky:e.ky=[]
  ·have b1:(!(e.ky==[]))=false:=by simp[hky]
   rw[if_neg (by simp[hky])]
   by_cases oD:f.aA.length=64
   ·have b2:(((f.aA.length:Nat):Int)==64)=true:=by simp[oD]
    rw[if_pos oD]
    refine⟨a,H4,vj ?_,h4,FSt.same mX p a⟩
    unfold sN
    simp(disch:=(first|assumption|omega|(simp only[ag,af,simprocAttr]<;>fail)|(simp only[af];omega)|(simp only[ag,af,simprocAttr, *]<;>fail)|fail))only[bg,E5,p1,aD,F5,F6,q1,ae8,G6,b1,k3,gE,b2,au,ar,aj,ai,simprocAttr]
   ·have b2:(((f.aA.length:Nat):Int)==64)=false:=by rw[beq_eq_false_iff_ne];omega
    rw[if_neg oD]
    have hw:IntKind.wrap .i64 (((f.aA.length:Nat):Int)+1)=((f.aA.length:Nat):Int)+1:=wrap_i64 (by omega) (by omega)
    by_cases tP:e.rn=(f.aA.length:Int)+1
    ·have b3:(e.rn != ((f.aA.length:Nat):Int)+1)=false:=by simp[tP]
     rw[if_neg (by simp[tP])]
     have hb:=parse_bd t
     have k5:av H4 H2.next 0 1=some [dx]:=(c3.out q2 (by simp)).av 1 0 (by simp)
     obtain⟨ay,bC,az,aB,H5,r1,r2,r3,r4⟩:=aak ((p2.aw o3).aw q2) (by have:=hb.1;omega) (fun u hu=>by have:=hb.2 u hu;omega)
     have o6:=aN H5 (rv ay (cu (aS t).1).1.st az aB) 75 0
     have c6:=bD H5 (rv ay (cu (aS t).1).1.st az aB) 75 0
     have n6:(al H5 (rv ay (cu (aS t).1).1.st az aB) 75 0).next=H5.next+1:=rfl
     have hst4:st 4 (.ptr H5.next 0) (.agg (rv ay (cu (aS t).1).1.st az aB)) (al H5 [.ah,(.int .i64 0),.ah,.ah] 75 0)=some (al H5 (rv ay (cu (aS t).1).1.st az aB) 75 0):=kq (by simp[r2.v.d.row.one,r2.t.rl.one,r2.s.kf,lU]) rfl rfl (by decide) rfl
     generalize hA6:al H5 (rv ay (cu (aS t).1).1.st az aB) 75 0=H6 at *
     have h6:=(h4.aw r3).aw o6
     have o16:=(mX.trans r3).trans o6
     by_cases he:(cu (aS t).1).2=0
     ·have b4:((cu (aS t).1).2 != 0)=false:=by simp[he]
      rw[if_neg (by simp[he]),if_pos hky]
      have m3:cellAt H6 p 3=some a.rx:=h6.c.cellAt rfl
      have m4:av H6 H5.next 0 4=some (rv ay (cu (aS t).1).1.st az aB):=c6.av 4 0 (by simp)
      have cE6:=(cE4.out r3 (by simp)).out o6 (by simp)
      have m5:cellAt H6 H.next 5=some (.str e.nm):=cE6.cellAt rfl
      have hRV:RV H6 ay bC az aB (cu (aS t).1).1:=r2.v.aw o6
      have vq:∀ j∈(RA.mk ay bC az aB).fp,j∉own p a:=fun j hj q=>by have:=r4 j hj;have:=h4.lt j q;omega
      obtain⟨eF,H7,H8,a1,a2,a3,a4,a5,a6,a7⟩:=h6.aaP (r':=⟨ay,bC,az,aB⟩) (x:=((cu (aS t).1).1,e.nm)) hRV vq (by omega)
      have GP:=a1 H6.next rfl
      have f1:fl [.ah,(.int .i64 0),.ah,.ah,(.str [])] [(0,4,.agg (rv ay (cu (aS t).1).1.st az aB)),(4,1,.str e.nm)]=some (cw ⟨ay,bC,az,aB⟩ ((cu (aS t).1).1,e.nm)):=by
       rw[zN (l:=rv ay (cu (aS t).1).1.st az aB) (n:=4) rfl (by simp),HJ rfl (by simp),tV];rfl
      have f2:fl [.ah,(.int .i64 0),.ah,.ah,(.str [])] [(0,5,.agg (cw ⟨ay,bC,az,aB⟩ ((cu (aS t).1).1,e.nm)))]=some (cw ⟨ay,bC,az,aB⟩ ((cu (aS t).1).1,e.nm)):=by
       rw[zN (l:=cw ⟨ay,bC,az,aB⟩ ((cu (aS t).1).1,e.nm)) (n:=5) rfl (by simp),tV];rfl
      have eh:aL H6 (cw ⟨ay,bC,az,aB⟩ ((cu (aS t).1).1,e.nm)) 77 0=some (H6.next,al H6 (cw ⟨ay,bC,az,aB⟩ ((cu (aS t).1).1,e.nm)) 77 0):=iy (by simp[cw])
      have m6:cellAt (al H6 (cw ⟨ay,bC,az,aB⟩ ((cu (aS t).1).1,e.nm)) 77 0) p 3=some a.rx:=by rw[tX h6.c.1];exact m3
      have vd:=Dl h6.r.1.rw
      have hEo:H.next∉own p a:=fun q=>by have:=h.lt _ q;omega
      have m8:cellAt H8 H.next 6=some (.str e.ky):=(cE6.out a4 hEo).cellAt rfl
      have hFS:FSt H H8 p a { a with rx:=eF,bG:=a.bG++[⟨ay,bC,az,aB⟩] }:=by
       have:=mX.1;have:=o16.1
       exact⟨(o16.mono fun j hj=>by cases hj).trans a4,fun j hj=>(a5 j hj).imp (fun q=>q) fun q=>by omega,fun j hj=>(a6 j hj).imp (fun q=>q) fun q=>by have:=r4 j q;omega⟩
      refine⟨_,H8,vj ?_,a3,hFS⟩
      unfold sN
      simp(disch:=(first|assumption|omega|(simp only[ag,af,simprocAttr]<;>fail)|(simp only[af];omega)|(simp only[ag,af,simprocAttr, *]<;>fail)|fail))only[bg,E5,p1,aD,F5,F6,q1,ae8,G6,b1,k3,gE,b2,G1,hw,b3,k5,r1,hst4,b4,m3,m4,m5,f1,f2,eh,GP,a2,m6,nH vd,m8,au,ar,aj,ai,simprocAttr]
     ·have b4:((cu (aS t).1).2 != 0)=true:=by simp[he]
      rw[if_pos he]
      refine⟨a,H6,vj ?_,h6,FSt.same o16 p a⟩
      unfold sN
      simp(disch:=(first|assumption|omega|(simp only[ag,af,simprocAttr]<;>fail)|(simp only[af];omega)|(simp only[ag,af,simprocAttr, *]<;>fail)|fail))only[bg,E5,p1,aD,F5,F6,q1,ae8,G6,b1,k3,gE,b2,G1,hw,b3,k5,r1,hst4,b4,au,ar,aj,ai,simprocAttr]
    ·have b3:(e.rn != ((f.aA.length:Nat):Int)+1)=true:=by simp[tP]
     rw[if_pos tP]
     refine⟨a,H4,vj ?_,h4,FSt.same mX p a⟩
     unfold sN
     simp(disch:=(first|assumption|omega|(simp only[ag,af,simprocAttr]<;>fail)|(simp only[af];omega)|(simp only[ag,af,simprocAttr, *]<;>fail)|fail))only[bg,E5,p1,aD,F5,F6,q1,ae8,G6,b1,k3,gE,b2,G1,hw,b3,au,ar,aj,ai,simprocAttr]
  ·have b1:(!(e.ky==[]))=true:=by simp[hky]
   cases hgk:me f.ks (e.nm,e.ky) with
   | some had=>
    rw[if_pos ⟨hky,rfl⟩]
    rw[hgk] at q1
    refine⟨a,H4,vj ?_,h4,FSt.same mX p a⟩
    unfold sN
    simp(disch:=(first|assumption|omega|(simp only[ag,af,simprocAttr]<;>fail)|(simp only[af];omega)|(simp only[ag,af,simprocAttr, *]<;>fail)|fail))only[bg,E5,p1,aD,F5,F6,q1,ae8,ae0,G6,b1,au,ar,aj,ai,simprocAttr]
   | none=>
   rw[if_neg (by simp)]
   rw[hgk] at q1
   by_cases oD:f.aA.length=64
   ·have b2:(((f.aA.length:Nat):Int)==64)=true:=by simp[oD]
    rw[if_pos oD]
    refine⟨a,H4,vj ?_,h4,FSt.same mX p a⟩
    unfold sN
    simp(disch:=(first|assumption|omega|(simp only[ag,af,simprocAttr]<;>fail)|(simp only[af];omega)|(simp only[ag,af,simprocAttr, *]<;>fail)|fail))only[bg,E5,p1,aD,F5,F6,q1,ae8,aeB,G6,b1,k3,gE,b2,au,ar,aj,ai,simprocAttr]
   ·have b2:(((f.aA.length:Nat):Int)==64)=false:=by rw[beq_eq_false_iff_ne];omega
    rw[if_neg oD]
    have hw:IntKind.wrap .i64 (((f.aA.length:Nat):Int)+1)=((f.aA.length:Nat):Int)+1:=wrap_i64 (by omega) (by omega)
    by_cases tP:e.rn=(f.aA.length:Int)+1
    ·have b3:(e.rn != ((f.aA.length:Nat):Int)+1)=false:=by simp[tP]
     rw[if_neg (by simp[tP])]
     have hb:=parse_bd t
     have k5:av H4 H2.next 0 1=some [dx]:=(c3.out q2 (by simp)).av 1 0 (by simp)
     obtain⟨ay,bC,az,aB,H5,r1,r2,r3,r4⟩:=aak ((p2.aw o3).aw q2) (by have:=hb.1;omega) (fun u hu=>by have:=hb.2 u hu;omega)
     have o6:=aN H5 (rv ay (cu (aS t).1).1.st az aB) 75 0
     have c6:=bD H5 (rv ay (cu (aS t).1).1.st az aB) 75 0
     have n6:(al H5 (rv ay (cu (aS t).1).1.st az aB) 75 0).next=H5.next+1:=rfl
     have hst4:st 4 (.ptr H5.next 0) (.agg (rv ay (cu (aS t).1).1.st az aB)) (al H5 [.ah,(.int .i64 0),.ah,.ah] 75 0)=some (al H5 (rv ay (cu (aS t).1).1.st az aB) 75 0):=kq (by simp[r2.v.d.row.one,r2.t.rl.one,r2.s.kf,lU]) rfl rfl (by decide) rfl
     generalize hA6:al H5 (rv ay (cu (aS t).1).1.st az aB) 75 0=H6 at *
     have h6:=(h4.aw r3).aw o6
     have o16:=(mX.trans r3).trans o6
     by_cases he:(cu (aS t).1).2=0
     ·have b4:((cu (aS t).1).2 != 0)=false:=by simp[he]
      rw[if_neg (by simp[he]),if_neg hky]
      have m3:cellAt H6 p 3=some a.rx:=h6.c.cellAt rfl
      have m4:av H6 H5.next 0 4=some (rv ay (cu (aS t).1).1.st az aB):=c6.av 4 0 (by simp)
      have cE6:=(cE4.out r3 (by simp)).out o6 (by simp)
      have m5:cellAt H6 H.next 5=some (.str e.nm):=cE6.cellAt rfl
      have hRV:RV H6 ay bC az aB (cu (aS t).1).1:=r2.v.aw o6
      have vq:∀ j∈(RA.mk ay bC az aB).fp,j∉own p a:=fun j hj q=>by have:=r4 j hj;have:=h4.lt j q;omega
      obtain⟨eF,H7,H8,a1,a2,a3,a4,a5,a6,a7⟩:=h6.aaP (r':=⟨ay,bC,az,aB⟩) (x:=((cu (aS t).1).1,e.nm)) hRV vq (by omega)
      have GP:=a1 H6.next rfl
      have f1:fl [.ah,(.int .i64 0),.ah,.ah,(.str [])] [(0,4,.agg (rv ay (cu (aS t).1).1.st az aB)),(4,1,.str e.nm)]=some (cw ⟨ay,bC,az,aB⟩ ((cu (aS t).1).1,e.nm)):=by
       rw[zN (l:=rv ay (cu (aS t).1).1.st az aB) (n:=4) rfl (by simp),HJ rfl (by simp),tV];rfl
      have f2:fl [.ah,(.int .i64 0),.ah,.ah,(.str [])] [(0,5,.agg (cw ⟨ay,bC,az,aB⟩ ((cu (aS t).1).1,e.nm)))]=some (cw ⟨ay,bC,az,aB⟩ ((cu (aS t).1).1,e.nm)):=by
       rw[zN (l:=cw ⟨ay,bC,az,aB⟩ ((cu (aS t).1).1,e.nm)) (n:=5) rfl (by simp),tV];rfl
      have eh:aL H6 (cw ⟨ay,bC,az,aB⟩ ((cu (aS t).1).1,e.nm)) 77 0=some (H6.next,al H6 (cw ⟨ay,bC,az,aB⟩ ((cu (aS t).1).1,e.nm)) 77 0):=iy (by simp[cw])
      have m6:cellAt (al H6 (cw ⟨ay,bC,az,aB⟩ ((cu (aS t).1).1,e.nm)) 77 0) p 3=some a.rx:=by rw[tX h6.c.1];exact m3
      have vd:=Dl h6.r.1.rw
      have hEo:H.next∉own p a:=fun q=>by have:=h.lt _ q;omega
      have m8:cellAt H8 H.next 6=some (.str e.ky):=(cE6.out a4 hEo).cellAt rfl
      have hFS:FSt H H8 p a { a with rx:=eF,bG:=a.bG++[⟨ay,bC,az,aB⟩] }:=by
       have:=mX.1;have:=o16.1
       exact⟨(o16.mono fun j hj=>by cases hj).trans a4,fun j hj=>(a5 j hj).imp (fun q=>q) fun q=>by omega,fun j hj=>(a6 j hj).imp (fun q=>q) fun q=>by have:=r4 j q;omega⟩
      have m1:cellAt H8 H.next 1=some (.int .i64 e.rn):=(cE6.out a4 hEo).cellAt rfl
      have m9:cellAt H8 H.next 5=some (.str e.nm):=(cE6.out a4 hEo).cellAt rfl
      have m0:cellAt H8 p 4=some (.ptr a.kp 0):=a3.c.cellAt rfl
      have f3:fl [(.str []),(.str [])] [(0,1,.str e.nm),(1,1,.str e.ky)]=some (cI (e.nm,e.ky)):=rfl
      obtain⟨sQ,H9,y1,y2,y3⟩:=a3.gq hk hgk e.rn
      have y1':cK (.func (.func 33) [] []) [.ptr a.kp 0,.agg (cI (e.nm,e.ky)),.int .i64 e.rn] H8=some (.tuple [.int .i64 e.rn,.bool true],H9):=y1
      refine⟨_,H9,vj ?_,y2,hFS.trans y3⟩
      unfold sN
      simp(disch:=(first|assumption|omega|(simp only[ag,af,simprocAttr]<;>fail)|(simp only[af];omega)|(simp only[ag,af,simprocAttr, *]<;>fail)|fail))only[bg,E5,p1,aD,F5,F6,q1,ae8,aeB,G6,b1,k3,gE,b2,G1,hw,b3,k5,r1,hst4,b4,m3,m4,m5,f1,f2,eh,GP,a2,m6,nH vd,m8,m1,m9,m0,f3,y1',au,ar,aj,ai,simprocAttr]
     ·have b4:((cu (aS t).1).2 != 0)=true:=by simp[he]
      rw[if_pos he]
      refine⟨a,H6,vj ?_,h6,FSt.same o16 p a⟩
      unfold sN
      simp(disch:=(first|assumption|omega|(simp only[ag,af,simprocAttr]<;>fail)|(simp only[af];omega)|(simp only[ag,af,simprocAttr, *]<;>fail)|fail))only[bg,E5,p1,aD,F5,F6,q1,ae8,aeB,G6,b1,k3,gE,b2,G1,hw,b3,k5,r1,hst4,b4,au,ar,aj,ai,simprocAttr]
    ·have b3:(e.rn != ((f.aA.length:Nat):Int)+1)=true:=by simp[tP]
     rw[if_pos tP]
     refine⟨a,H4,vj ?_,h4,FSt.same mX p a⟩
     unfold sN
     simp(disch:=(first|assumption|omega|(simp only[ag,af,simprocAttr]<;>fail)|(simp only[af];omega)|(simp only[ag,af,simprocAttr, *]<;>fail)|fail))only[bg,E5,p1,aD,F5,F6,q1,ae8,aeB,G6,b1,k3,gE,b2,G1,hw,b3,au,ar,aj,ai,simprocAttr]
def tickAt (now:Int) (R:Rn) (i:Nat):Rn:=match R.rs[i]?,R.ts[i]? with
 | some t,some d=>if R.st≠0\/now<t.jo then R else if t.ph=2 then mj R i t d now else if t.ph=5 then { R with rs:=R.rs.set i { t with ph:=1,jo:=0 } } else R
 | _,_=>R
def tickN (now:Int):Nat->Nat->Rn->Rn
 | 0,_,R=>R
 | m+1,i,R=>tickN now m (i+1) (tickAt now R i)
def tickM (R:Rn) (now:Int):Rn:=tickN now R.rs.length 0 R
theorem mem_set {rs:List RT} {i:Nat} {u v:RT} (h:v∈rs.set i u):v∈rs\/v=u:=afK h
theorem failR_keep {R:Rn} {i:Nat} {t:RT} {d:Tk} {now:Int} (ht:R.rs[i]? = some t) (hk:lS R) (hb:tW R):lS (mj R i t d now)/\tW (mj R i t d now)/\(mj R i t d now).ts=R.ts/\(mj R i t d now).sg=R.sg/\(mj R i t d now).rs.length=R.rs.length:=by
 have hbt:=hb.t t (aa2 ht)
 unfold mj
 split
 ·refine⟨hk.set i _,⟨hb.d,fun u hu => ?_⟩,rfl,rfl,acT⟩
  rcases mem_set hu with hu | rfl
  ·exact hb.t u hu
  ·exact hbt
 ·have h1:=hk.set i { t with ph:=4,jo:=0 }
  refine⟨⟨⟨h1.sm.n,h1.sm.a,h1.sm.r,h1.sm.s⟩,h1.len,h1.jm⟩,⟨hb.d,fun u hu => ?_⟩,rfl,rfl,acT⟩
  rcases mem_set hu with hu | rfl
  ·exact hb.t u hu
  ·exact hbt
theorem tickAt_keep {R:Rn} {i:Nat} {now:Int} (hk:lS R) (hb:tW R):lS (tickAt now R i)/\tW (tickAt now R i)/\(tickAt now R i).ts=R.ts/\(tickAt now R i).sg=R.sg/\(tickAt now R i).rs.length=R.rs.length:=by
 unfold tickAt
 split
 ·rename_i t d ht hd
  split
  ·exact⟨hk,hb,rfl,rfl,rfl⟩
  ·split
   ·exact failR_keep ht hk hb
   ·split
    ·refine⟨hk.set i _,⟨hb.d,fun u hu => ?_⟩,rfl,rfl,acT⟩
     rcases mem_set hu with hu | rfl
     ·exact hb.t u hu
     ·exact hb.t t (aa2 ht)
    ·exact⟨hk,hb,rfl,rfl,rfl⟩
 ·exact⟨hk,hb,rfl,rfl,rfl⟩
theorem tick_loop {dx tx sx aZ:AV} {xs:List AV} {P n:Nat} {now:Int} (hn:n<=1000) (hp:P∉nA dx xs tx sx):∀ (m i:Nat) (H:Hp) (R:Rn),i+m=n->R.rs.length=n->Cs H P (rv dx R.st tx sx) 75 0->RO H dx xs tx sx R->lS R->tW R->
  ∃ H',(∀ cg:K.Fn 2,yR JN GO cK cg (.int .i64 now) (.ptr P 0) aZ (.int .i64 (n:Nat)) (.int .i64 (i:Nat)) H=cg (.ptr P 0) aZ H')/\Cs H' P (rv dx (tickN now m i R).st tx sx) 75 0/\RO H' dx xs tx sx (tickN now m i R)/\Out (P::ak tx) H H'
 | 0,i,H,R,hm,hl,hC,hO,hk,hb=>by
  obtain rfl:i=n:=by omega
  refine⟨H,fun cg => ?_,hC,hO,Out.refl _ _⟩
  rw[Ch]
  simp only[bl__run_Run_Tick,fw,aj,ai,simprocAttr]
 | m+1,i,H,R,hm,hl,hC,hO,hk,hb=>by
  have h1:i<n:=by omega
  have es:=fF h1 (by omega)
  have ht:R.rs[i]? = some (R.rs[i]'(by omega)):=aaM _
  have aQ:R.ts.length=n:=by rw[<-hk.len];exact hl
  have hd:R.ts[i]? = some (R.ts[i]'(by omega)):=aaM _
  have kp:=tickAt_keep (i:=i) (now:=now) hk hb
  have hA:tickAt now R i=(if R.st≠0\/now<(R.rs[i]'(by omega)).jo then R else if (R.rs[i]'(by omega)).ph=2 then mj R i (R.rs[i]'(by omega)) (R.ts[i]'(by omega)) now else if (R.rs[i]'(by omega)).ph=5 then { R with rs:=R.rs.set i { (R.rs[i]'(by omega)) with ph:=1,jo:=0 } } else R):=by
   unfold tickAt;rw[ht,hd]
  generalize R.rs[i]'(by omega)=t at *
  generalize R.ts[i]'(by omega)=d at *
  have c1:cellAt H P 1=some (.int .i64 R.st):=hC.cellAt rfl
  have c2:cellAt H P 2=some tx:=hC.cellAt rfl
  obtain⟨b,o,q1,q2,q3,q4,q5⟩:=hO.v.t.at (by decide) (rz ht)
  have r0:cellAt H b o=some (.int .i64 t.ph):=by have:=q5 0 _ (za t).1;rwa[adx] at this
  have r2:cellAt H b (o+2)=some (.int .i64 t.jo):=q5 2 _ (za t).2.2.1
  have bE:=(aaK.1 ht).1
  show ∃ H',(∀ cg:K.Fn 2,_)/\Cs H' P (rv dx (tickN now m (i+1) (tickAt now R i)).st tx sx) 75 0/\RO H' dx xs tx sx (tickN now m (i+1) (tickAt now R i))/\Out (P::ak tx) H H'
  have go:∀ (H1:Hp),Cs H1 P (rv dx (tickAt now R i).st tx sx) 75 0->RO H1 dx xs tx sx (tickAt now R i)->Out (P::ak tx) H H1->(∀ H':Hp,(∀ cg:K.Fn 2,yR JN GO cK cg (.int .i64 now) (.ptr P 0) aZ (.int .i64 (n:Nat)) (.int .i64 ((i+1:Nat):Int)) H1=cg (.ptr P 0) aZ H')->∀ cg:K.Fn 2,yR JN GO cK cg (.int .i64 now) (.ptr P 0) aZ (.int .i64 (n:Nat)) (.int .i64 (i:Nat)) H=cg (.ptr P 0) aZ H')->
    ∃ H',(∀ cg:K.Fn 2,yR JN GO cK cg (.int .i64 now) (.ptr P 0) aZ (.int .i64 (n:Nat)) (.int .i64 (i:Nat)) H=cg (.ptr P 0) aZ H')/\Cs H' P (rv dx (tickN now m (i+1) (tickAt now R i)).st tx sx) 75 0/\RO H' dx xs tx sx (tickN now m (i+1) (tickAt now R i))/\Out (P::ak tx) H H':=by
   intro H1 a1 a2 a3 a4
   obtain⟨H',i1,i2,i3,i4⟩:=tick_loop (aZ:=aZ) hn hp m (i+1) H1 (tickAt now R i) (by omega) (kp.2.2.2.2.trans hl) a1 a2 kp.1 kp.2.1
   exact⟨H',a4 H' i1,i2,i3,a3.trans i4⟩
  clear kp
  by_cases h0:R.st=0
  ·have d0:(R.st != 0)=false:=by simp[h0]
   by_cases h2:now<t.jo
   ·have d2:decide (now<t.jo)=true:=decide_eq_true h2
    rw[if_pos (.inr h2)] at hA
    rw[hA] at go ⊢
    refine go H hC hO (Out.refl _ _) fun H' i1 cg => ?_
    rw[Ch]
    simp(disch:=(first|assumption|omega|(simp only[ag,af,simprocAttr]<;>fail)|(simp only[af];omega)|(simp only[ag,af,simprocAttr, *]<;>fail)|fail))only[bl__run_Run_Tick,bN h1,c1,c2,q1,d0,r2,d2,es,i1,au,ar,aj,ai,simprocAttr]
   ·have d2:decide (now<t.jo)=false:=decide_eq_false h2
    rw[if_neg (fun q=>q.elim (fun z=>z h0) h2)] at hA
    by_cases h3:t.ph=2
    ·have d3:(t.ph==2)=true:=by simp[h3]
     rw[if_pos h3] at hA
     rw[hA] at go ⊢
     have bd:=hb.d d (aa2 hd)
     have bt:=hb.t t (aa2 ht)
     obtain⟨H1,f1,f2,f3,f4⟩:=XP hC hO hp ht hd bd.1 bd.2 bt.1 bt.2 now
     refine go H1 f2 f3 f4 fun H' i1 cg => ?_
     rw[Ch]
     simp(disch:=(first|assumption|omega|(simp only[ag,af,simprocAttr]<;>fail)|(simp only[af];omega)|(simp only[ag,af,simprocAttr, *]<;>fail)|fail))only[bl__run_Run_Tick,bN h1,c1,c2,q1,d0,r2,d2,r0,d3,f1,es,i1,au,ar,aj,ai,simprocAttr]
    ·have d3:(t.ph==2)=false:=by simp[h3]
     rw[if_neg h3] at hA
     by_cases h5:t.ph=5
     ·have d5:(t.ph==5)=true:=by simp[h5]
      rw[if_pos h5] at hA
      rw[hA] at go ⊢
      obtain⟨H2,w1,w2,w3,w4⟩:=hO.t.fR (k:=0) (v := .int .i64 1) (rz ht) q1 rfl (by decide)
      have e2:((fS R.rs).set i ((eR t).set 0 (.int .i64 1)))[i]? = some ((eR t).set 0 (.int .i64 1)):=aeS (by rw[Bb];exact bE)
      obtain⟨H3,v1,v2,v3,v4⟩:=w2.fR (k:=2) (v := .int .i64 0) e2 q1 rfl (by decide)
      rw[List.set_set] at v2
      have fg:((eR t).set 0 (.int .i64 1)).set 2 (.int .i64 0)=eR { t with ph:=1,jo:=0 }:=rfl
      rw[fg,Kq] at v2
      rw[adx] at w1
      have o3:=w3.trans v3
      have wV:P∉ak tx:=fun z=>hp (abB _ (abG _ z))
      refine go H3 (hC.out o3 wV) (hO.bX v2 o3) (o3.mono fun j hj => .tail _ hj) fun H' i1 cg => ?_
      rw[Ch]
      simp(disch:=(first|assumption|omega|(simp only[ag,af,simprocAttr]<;>fail)|(simp only[af];omega)|(simp only[ag,af,simprocAttr, *]<;>fail)|fail))only[bl__run_Run_Tick,bN h1,c1,c2,q1,d0,r2,d2,r0,d3,d5,w1,v1,es,i1,au,ar,aj,ai,simprocAttr]
     ·have d5:(t.ph==5)=false:=by simp[h5]
      rw[if_neg h5] at hA
      rw[hA] at go ⊢
      refine go H hC hO (Out.refl _ _) fun H' i1 cg => ?_
      rw[Ch]
      simp(disch:=(first|assumption|omega|(simp only[ag,af,simprocAttr]<;>fail)|(simp only[af];omega)|(simp only[ag,af,simprocAttr, *]<;>fail)|fail))only[bl__run_Run_Tick,bN h1,c1,c2,q1,d0,r2,d2,r0,d3,d5,es,i1,au,ar,aj,ai,simprocAttr]
  ·have d0:(R.st != 0)=true:=by simp[h0]
   rw[if_pos (.inl h0)] at hA
   rw[hA] at go ⊢
   refine go H hC hO (Out.refl _ _) fun H' i1 cg => ?_
   rw[Ch]
   simp(disch:=(first|assumption|omega|(simp only[ag,af,simprocAttr]<;>fail)|(simp only[af];omega)|(simp only[ag,af,simprocAttr, *]<;>fail)|fail))only[bl__run_Run_Tick,bN h1,c1,c2,q1,d0,es,i1,au,ar,aj,ai,simprocAttr]
theorem tick_c {H:Hp} {dx tx sx:AV} {xs:List AV} {R:Rn} (h:RV H dx xs tx sx R) (hk:lS R) (hb:tW R) (now:Int) :
  ∃ ay bC az aB H',cK (.func (.func 77) [] []) [.agg (rv dx R.st tx sx),.int .i64 now] H=some (.agg (rv ay (tickM R now).st az aB),H')/\RO H' ay bC az aB (tickM R now)/\Out [] H H'/\∀ j∈nA ay bC az aB,H.next<=j:=by
 have bg:bx 75 (.agg (rv dx R.st tx sx)) H=some (H.next,al H (rv dx R.st tx sx) 75 0):=iE (by simp)
 have o1:=aN H (rv dx R.st tx sx) 75 0
 have c1:=bD H (rv dx R.st tx sx) 75 0
 have n1:(al H (rv dx R.st tx sx) 75 0).next=H.next+1:=rfl
 generalize al H (rv dx R.st tx sx) 75 0=H1 at *
 have o2:=aN H1 zR 75 0
 have c2:=bD H1 zR 75 0
 have n2:(al H1 zR 75 0).next=H.next+2:=by rw[cj,n1]
 rw[n1] at c2
 generalize c8:al H1 zR 75 0=H2 at *
 have bU:=o1.trans o2
 have jF:=c1.out o2 (by simp)
 have k1:av H2 H.next 0 4=some (rv dx R.st tx sx):=jF.av 4 0 (by simp)
 obtain⟨ay,bC,az,aB,H4,r1,r2,r3,r4⟩:=AD (h.aw bU) hk.sm
 have n4:=r3.nx
 have sO:∀ z:Int,(rv ay z az aB).all bq=true:=fun z=>by simp[r2.v.d.row.one,r2.t.rl.one,r2.s.kf,lU]
 obtain⟨H5,s1,s2,s3,s4⟩:=ir (n:=4) (vs:=rv ay R.st az aB) (jF.out r3 (by simp)) rfl rfl (sO _)
 have fr:∀ m,m<H.next+2->∀ j∈nA ay bC az aB,j∉[m]:=fun m hm j hj=>by rw[aan];have:=r4 j hj;omega
 have R5:=r2.out s3 (fr _ (by omega))
 have wi:∀ m,m<H.next+2->m∉ak az:=fun m hm z=>by have:=r4 m (abB _ (abG _ z));omega
 have hr:=hk.sm.r
 obtain⟨H7,t1,t2,t3,t4⟩:=tick_loop (aZ := .ptr (H.next+1) 0) (P:=H.next) (now:=now) hr (fun z=>by have:=r4 _ z;omega) R.rs.length 0 H5 R (by omega) rfl s2 R5 hk hb
 rw[show (((0:Nat):Int))=0 from rfl] at t1
 have ht2:Cs H7 H.next (rv ay (tickM R now).st az aB) 75 0:=t2
 have I7:RO H7 ay bC az aB (tickM R now):=t3
 have Fy:∀ m,m<H.next+2->m≠H.next->m∉H.next::ak az:=fun m hm aH z=>(abn.1 z).elim aH (wi m hm)
 have Fs:=((c2.out r3 (by simp)).out s3 (by rw[aan];omega)).out t4 (Fy _ (by omega) (by omega))
 have k5:cellAt H5 H.next 2=some az:=s2.cellAt rfl
 have tl:=R5.v.Va
 have k7:av H7 H.next 0 4=some (rv ay (tickM R now).st az aB):=ht2.av 4 0 (by simp)
 obtain⟨H8,w1,w2,w3,w4⟩:=ir (n:=4) (vs:=rv ay (tickM R now).st az aB) Fs rfl rfl (sO _)
 have k8:av H8 (H.next+1) 0 4=some (rv ay (tickM R now).st az aB):=w2.av 4 0 (by simp)
 have ru:∀ j∈ak az,H.next<=j:=fun j hj=>by have:=r4 j (abB _ (abG _ hj));omega
 have out:=gB (gB (gB (bU.trans r3) s3 (kP (abe _))) t4 (fun j hj=>(abn.1 hj).elim (fun e=>by omega) (ru j))) w3 (kP (afe _))
 refine⟨ay,bC,az,aB,H8,acd ?_,I7.out w3 (fr _ (by omega)),out,fun j hj=>by have:=r4 j hj;omega⟩
 unfold P0
 simp(disch:=(first|assumption|omega|(simp only[ag,af,simprocAttr]<;>fail)|(simp only[af];omega)|(simp only[ag,af,simprocAttr, *]<;>fail)|fail))only[bg,n1,c8,k1,r1,s1,k5,tl,t1,k7,w1,k8,au,ar,aj,ai,simprocAttr]
def cancelM (R:Rn):Rn × Int:=if R.st≠0 then (ri,9) else ({ R with st:=3 },0)
theorem cancel_c {H:Hp} {dx tx sx:AV} {xs:List AV} {R:Rn} (h:RV H dx xs tx sx R) (hk:lS R) :
  mS (.func (.func 82) [] []) [.agg (rv dx R.st tx sx)] H (cancelM R).1 (cancelM R).2:=by
 have bg:bx 75 (.agg (rv dx R.st tx sx)) H=some (H.next,al H (rv dx R.st tx sx) 75 0):=iE (by simp)
 have o1:=aN H (rv dx R.st tx sx) 75 0
 have c1:=bD H (rv dx R.st tx sx) 75 0
 have n1:(al H (rv dx R.st tx sx) 75 0).next=H.next+1:=rfl
 generalize al H (rv dx R.st tx sx) 75 0=H1 at *
 have o2:=aN H1 zR 75 0
 have c2:=bD H1 zR 75 0
 have n2:(al H1 zR 75 0).next=H.next+2:=by rw[cj,n1]
 rw[n1] at c2
 generalize c8:al H1 zR 75 0=H2 at *
 have bU:=o1.trans o2
 have jF:=c1.out o2 (by simp)
 have k1:cellAt H2 H.next 1=some (.int .i64 R.st):=jF.cellAt rfl
 have k4:av H2 H.next 0 4=some (rv dx R.st tx sx):=jF.av 4 0 (by simp)
 unfold cancelM
 by_cases h0:R.st=0
 ·have d0:(R.st != 0)=false:=by simp[h0]
  rw[if_neg (by simp[h0])]
  obtain⟨ay,bC,az,aB,H3,r1,r2,r3,r4⟩:=AD (h.aw bU) hk.sm
  obtain⟨H4,s1,s2,s3,s4⟩:=ir (n:=4) (vs:=rv ay R.st az aB) (jF.out r3 (by simp)) rfl rfl (by simp[r2.v.d.row.one,r2.t.rl.one,r2.s.kf,lU])
  obtain⟨H5,t1,t2,t3,t4⟩:=fR s2 (by decide) (o:=1) (by simp) (v := .int .i64 3) rfl
  have fg:(rv ay R.st az aB).set 1 (.int .i64 3)=rv ay 3 az aB:=rfl
  rw[fg] at t2
  have k5:av H5 H.next 0 4=some (rv ay 3 az aB):=t2.av 4 0 (by simp)
  have aH:H.next+1∉[H.next]:=by rw[aan];omega
  have cQ:=((c2.out r3 (by simp)).out s3 aH).out t3 aH
  obtain⟨H6,u1,u2,u3,u4⟩:=ir (n:=4) (vs:=rv ay 3 az aB) cQ rfl rfl (by simp[r2.v.d.row.one,r2.t.rl.one,r2.s.kf,lU])
  have k6:av H6 (H.next+1) 0 4=some (rv ay 3 az aB):=u2.av 4 0 (by simp)
  have fr:∀ m,m<H.next+2->∀ j∈nA ay bC az aB,j∉[m]:=fun m hm j hj=>by rw[aan];have:=r4 j hj;omega
  have R6:=((r2.out s3 (fr _ (by omega))).out t3 (fr _ (by omega))).out u3 (fr _ (by omega))
  have out:=gB (gB (gB (bU.trans r3) s3 (kP (abe _))) t3 (kP (abe _))) u3 (kP (afe _))
  refine⟨ay,bC,az,aB,H6,Zy ?_,⟨⟨R6.v.d,R6.v.t,R6.v.s⟩,R6.t,R6.s,R6.dt,R6.ds⟩,out,fun j hj=>by have:=r4 j hj;omega⟩
  unfold L1
  simp(disch:=(first|assumption|omega|(simp only[ag,af,simprocAttr]<;>fail)|(simp only[af];omega)|(simp only[ag,af,simprocAttr, *]<;>fail)|fail))only[bg,n1,c8,k1,d0,k4,r1,s1,t1,k5,u1,k6,au,ar,aj,ai,simprocAttr]
 ·have d0:(R.st != 0)=true:=by simp[h0]
  rw[if_pos h0]
  have k5:av H2 (H.next+1) 0 4=some zR:=c2.av 4 0 (by simp)
  refine mS.err (H1:=H2) (m:=H.next+1) (Zy (?_:_=some (_,H2))) bU (Out.refl _ _) (afe _)
  have hz:st 4 (.ptr (H.next+1) 0) (.agg zR) (al H1 zR 75 0)=some H2:=by rw[<-c8];exact kq rfl rfl n1.symm (by decide) rfl
  rw[c8] at hz
  unfold L1
  simp(disch:=(first|assumption|omega|(simp only[ag,af,simprocAttr]<;>fail)|(simp only[af];omega)|(simp only[ag,af,simprocAttr, *]<;>fail)|fail))only[bg,n1,c8,k1,d0,hz,k5,au,ar,aj,ai,simprocAttr]
def tkx (now:Int) (x:Rn × aq):Rn × aq:=(tickM x.1 now,x.2)
def tickF (f:Fm) (now:Int):Fm × Int:=if now<=f.ck then (f,10) else ({ f with ck:=now,aA:=f.aA.map (tkx now) },0)
def tkd (f:Fm) (now:Int) (i:Nat):Fm:={ f with ck:=now,aA:=(f.aA.take i).map (tkx now)++f.aA.drop i }
theorem tkd_at {f:Fm} {now:Int} {i:Nat} {x:Rn × aq} (h:f.aA[i]? = some x):(tkd f now i).aA[i]? = some x:=by
 have hi:=(aaK.1 h).1
 show ((f.aA.take i).map (tkx now)++f.aA.drop i)[i]? = _
 rw[abQ (by rw[ac7,adA];omega),ac7,adA,aeA,Nat.min_eq_left (by omega),agi,adx]
 exact h
theorem tkd_set {f:Fm} {now:Int} {i:Nat} {x:Rn × aq} (h:f.aA[i]? = some x):(tkd f now i).aA.set i (tkx now x)=(tkd f now (i+1)).aA:=by
 have hi:=(aaK.1 h).1
 show ((f.aA.take i).map (tkx now)++f.aA.drop i).set i (tkx now x)=(f.aA.take (i+1)).map (tkx now)++f.aA.drop (i+1)
 have hd:f.aA.drop i=x::f.aA.drop (i+1):=by
  rw[afD hi]
  rw[aaM hi] at h
  rw[acy h]
 rw[aib _ _ (by rw[ac7,adA];omega),ac7,adA,Nat.min_eq_left (by omega),agi,hd,agf,h,List.set_cons_zero,adu,aea]
 rfl
theorem FL.at {H:Hp} {p:Nat} {a:FA} {f:Fm} (h:FL H p a f) {i:Nat} {x:Rn × aq} (hx:f.aA[i]? = some x) :
  ∃ r b o,a.bG[i]? = some r/\(∀ kd,ia 5 a.rx (.int kd i)=some (.ptr b o))/\b∈ak a.rx/\b<H.next/\av H b o 4=some (rv r.dx x.1.st r.tx r.sx)/\av H b o 5=some (cw r x)/\RV H r.dx r.xs r.tx r.sx x.1:=by
 have bE:=(aaK.1 hx).1
 have hr:a.bG[i]? = some (a.bG[i]'(by rw[h.len];exact bE)):=aaM _
 obtain⟨b,o,q1,q2,q3,q4,q5⟩:=h.r.rl.at (by decide) (Lx hr hx)
 refine⟨_,b,o,hr,q1,q2,q3,?_,q4,h.v i _ x hr hx⟩
 have e0:=q5 0 _ rfl
 have e1:=q5 1 _ rfl
 have e2:=q5 2 _ rfl
 have e3:=q5 3 _ rfl
 rw[adx] at e0
 simp only[av,e0,e1,e2,e3,aca,acx]
 rfl
theorem ftick_loop {p:Nat} {f:Fm} {now:Int} (hr:f.aA.length<=64) (zt:∀ x∈f.aA,lS x.1/\tW x.1):∀ (r:List (Rn × aq)) (i:Nat) (H:Hp) (a:FA),i<=f.aA.length->f.aA.drop i=r->FL H p a (tkd f now i)->
  ∃ a' H',(∀ da:K.Fn 0,Hr JN GO cK da (.ptr p 0) (.int .i64 now) (.int .i64 (f.aA.length:Nat)) (.int .i64 (i:Nat)) H=da H')/\FL H' p a' (tkd f now f.aA.length)/\FSt H H' p a a'
 | [],i,H,a,hi,h,hF=>by
  obtain rfl:=drop_nil hi h
  refine⟨a,H,fun da => ?_,hF,FSt.same (Out.refl _ _) p a⟩
  rw[Z4]
  simp only[bl_flow_Flow_tick,fw,aj,ai,simprocAttr]
 | x::r,i,H,a,hi,h,hF=>by
  obtain⟨g1,g2,g3⟩:=fC h
  have es:=fF g1 (by omega)
  have k3:cellAt H p 3=some a.rx:=hF.c.cellAt rfl
  obtain⟨ra,b,o,q1,q2,q3,q4,q5,q6,q7⟩:=hF.at (tkd_at (now:=now) g2)
  obtain⟨xV,ok2⟩:=zt x (aa2 g2)
  obtain⟨ay,bC,az,aB,H1,t1,t2,t3,t4⟩:=tick_c q7 xV ok2 now
  have hF1:=hF.aw t3
  have vq:∀ j∈(RA.mk ay bC az aB).fp,j∉own p a:=fun j hj q=>by have:=t4 j hj;have:=hF.lt j q;omega
  obtain⟨H2,s1,s2,s3,s4⟩:=hF1.VI (tkd_at (now:=now) g2) q2 (r':=⟨ay,bC,az,aB⟩) t2.v vq
  have uR:cellAt H1 p 3=some a.rx:=hF1.c.cellAt rfl
  have hFS:FSt H H2 p a { a with bG:=a.bG.set i ⟨ay,bC,az,aB⟩ }:=⟨(t3.mono fun j hj=>by cases hj).trans (s3.mono fun j hj=>fJ (k:=5) rfl hj),fun j hj => .inl hj,fun j hj=>(s4 j hj).imp (fun q=>q) fun q=>t4 j q⟩
  have hF2:FL H2 p { a with bG:=a.bG.set i ⟨ay,bC,az,aB⟩ } (tkd f now (i+1)):=by
   have:=tkd_set (now:=now) g2
   have e:{ tkd f now i with aA:=(tkd f now i).aA.set i (tickM x.1 now,x.2) }=tkd f now (i+1):=by
    show ({ ck:=now,dO:=f.dO,gp:=f.gp,aA:=_,ks:=f.ks }:Fm)=_
    rw[show (tickM x.1 now,x.2)=tkx now x from rfl,this];rfl
   rw[e] at s2
   exact s2
  obtain⟨a',H',i1,i2,i3⟩:=ftick_loop hr zt r (i+1) H2 _ g1 g3 hF2
  refine⟨a',H',fun da => ?_,i2,hFS.trans i3⟩
  rw[Z4]
  simp(disch:=(first|assumption|omega|(simp only[ag,af,simprocAttr]<;>fail)|(simp only[af];omega)|(simp only[ag,af,simprocAttr, *]<;>fail)|fail))only[bl_flow_Flow_tick,bN g1,k3,q2,q5,t1,s1,uR,nH (Dl hF.r.1.rw),es,i1,au,ar,aj,ai,simprocAttr]
theorem ftick_c {H:Hp} {p:Nat} {a:FA} {f:Fm} (h:FL H p a f) (hr:f.aA.length<=64) (zt:∀ x∈f.aA,lS x.1/\tW x.1) (now:Int) :
  ∃ a' H',cK (.func (.func 42) [] []) [.ptr p 0,.int .i64 now] H=some (.int .i64 (tickF f now).2,H')/\FL H' p a' (tickF f now).1/\FSt H H' p a a':=by
 have k0:cellAt H p 0=some (.int .i64 f.ck):=h.c.cellAt rfl
 unfold tickF
 by_cases hn:now<=f.ck
 ·have d:decide (now<=f.ck)=true:=decide_eq_true hn
  rw[if_pos hn]
  refine⟨a,H,Z3 ?_,h,FSt.same (Out.refl _ _) p a⟩
  unfold Nn
  simp(disch:=(first|assumption|omega|(simp only[ag,af,simprocAttr]<;>fail)|(simp only[af];omega)|(simp only[ag,af,simprocAttr, *]<;>fail)|fail))only[k0,d,au,ar,aj,ai,simprocAttr]
 ·have d:decide (now<=f.ck)=false:=decide_eq_false hn
  rw[if_neg hn]
  obtain⟨H1,s1,s2,s3⟩:=h.clock now
  have s2':FL H1 p a (tkd f now 0):=s2
  have k3:cellAt H1 p 3=some a.rx:=s2.c.cellAt rfl
  have gE:=s2.Nd
  obtain⟨a',H',i1,i2,i3⟩:=ftick_loop hr zt f.aA 0 H1 a (ab2 _) abJ s2'
  rw[show (((0:Nat):Int))=0 from rfl] at i1
  have e:tkd f now f.aA.length={ f with ck:=now,aA:=f.aA.map (tkx now) }:=by
   unfold tkd
   rw[List.take_length,List.drop_length,agh]
  rw[e] at i2
  refine⟨a',H',Z3 ?_,i2,s3.trans i3⟩
  unfold Nn
  simp(disch:=(first|assumption|omega|(simp only[ag,af,simprocAttr]<;>fail)|(simp only[af];omega)|(simp only[ag,af,simprocAttr, *]<;>fail)|fail))only[k0,d,s1,k3,gE,i1,au,ar,aj,ai,simprocAttr]
noncomputable def opM (R:Rn) (e:Ev) (ck:Int):Rn × Int:=
 if e.kd=3 then oc R e.tk e.ty ck else if e.kd=4 then pX R e.tk e.ty e.dt else if e.kd=5 then uX R e.tk e.ty ck else if e.kd=7 then si R e.nm else cancelM R
noncomputable def changeM (f:Fm) (e:Ev):Fm × Int:=match f.aA[(e.rn-1).toNat]? with
 | none=>(f,0)
 | some x=>if (opM x.1 e f.ck).2=0 then ({ f with aA:=f.aA.set (e.rn-1).toNat ((opM x.1 e f.ck).1,x.2) },0) else (f,(opM x.1 e f.ck).2)
theorem change_c {H:Hp} {p:Nat} {a:FA} {f:Fm} (h:FL H p a f) (hr:f.aA.length<=64) (zt:∀ x∈f.aA,lS x.1/\tW x.1/\x.1.sg.length<=900) (e:Ev) (h1:1<=e.rn) (h2:e.rn<=f.aA.length) :
  ∃ a' H',cK (.func (.func 43) [] []) [.ptr p 0,.agg (bc e)] H=some (.int .i64 (changeM f e).2,H')/\FL H' p a' (changeM f e).1/\FSt H H' p a a':=by
 obtain⟨i,hi⟩:∃ i:Nat,e.rn=(i:Int)+1:=⟨(e.rn-1).toNat,by omega⟩
 have bE:i<f.aA.length:=by omega
 have hx:f.aA[i]? = some (f.aA[i]'bE):=aaM _
 generalize f.aA[i]'bE=x at hx
 obtain⟨xV,ok2,ok3⟩:=zt x (aa2 hx)
 have mP:(e.rn-1).toNat=i:=by omega
 have hw:IntKind.wrap .i64 (e.rn-1)=((i:Nat):Int):=by rw[hi,wrap_i64 (by omega) (by omega)];omega
 have bg:bx 26 (.agg (bc e)) H=some (H.next,al H (bc e) 26 0):=iE (by rw[pE];omega)
 have o1:=aN H (bc e) 26 0
 have c1:=bD H (bc e) 26 0
 have n1:(al H (bc e) 26 0).next=H.next+1:=rfl
 generalize al H (bc e) 26 0=H1 at *
 have F1:=h.aw o1
 have k3:cellAt H1 p 3=some a.rx:=F1.c.cellAt rfl
 have E1:cellAt H1 H.next 1=some (.int .i64 e.rn):=c1.cellAt rfl
 have eh:aL H1 zR 75 0=some (H.next+1,al H1 zR 75 0):=by rw[<-n1];exact iy (by simp)
 have o2:=aN H1 zR 75 0
 have c2:=bD H1 zR 75 0
 have n2:(al H1 zR 75 0).next=H.next+2:=by rw[cj,n1]
 rw[n1] at c2
 generalize c8:al H1 zR 75 0=H2 at *
 have F2:=F1.aw o2
 have bU:=o1.trans o2
 have cE:=c1.out o2 (by simp)
 have E0:cellAt H2 H.next 0=some (.int .i64 e.kd):=cE.cellAt rfl
 have E2:cellAt H2 H.next 2=some (.int .i64 e.tk):=cE.cellAt rfl
 have E3:cellAt H2 H.next 3=some (.int .i64 e.ty):=cE.cellAt rfl
 have E5:cellAt H2 H.next 5=some (.str e.nm):=cE.cellAt rfl
 have E7:cellAt H2 H.next 7=some (.str e.dt):=cE.cellAt rfl
 have k0:cellAt H2 p 0=some (.int .i64 f.ck):=F2.c.cellAt rfl
 obtain⟨ra,b,o,q1,q2,q3,q4,q5,q6,q7⟩:=F2.at hx
 unfold changeM
 rw[mP,hx]
 simp only
 have fin:∀ (fv:AV) (args:List AV) (R':Rn) (err:Int),mS fv args H2 R' err->∃ (ay:AV) (bC:List AV) (az aB:AV) (H3 H4:Hp) (a':FA) (H5:Hp),cK fv args H2=some (.tuple [.agg (rv ay R'.st az aB),.int .i64 err],H3)/\st 4 (.ptr (H.next+1) 0) (.agg (rv ay R'.st az aB)) H3=some H4/\
   (err=0->av H4 (H.next+1) 0 4=some (rv ay R'.st az aB)/\st 4 (.ptr b o) (.agg (rv ay R'.st az aB)) H4=some H5/\FL H5 p a' { f with aA:=f.aA.set i (R',x.2) }/\FSt H H5 p a a')/\(err≠0->H5=H4/\a'=a/\FL H4 p a f/\FSt H H4 p a a):=by
  rintro fv args R' err ⟨ay,bC,az,aB,H3,r1,r2,r3,r4⟩
  obtain⟨H4,s1,s2,s3,s4⟩:=ir (n:=4) (vs:=rv ay R'.st az aB) (c2.out r3 (by simp)) rfl rfl (by simp[r2.v.d.row.one,r2.t.rl.one,r2.s.kf,lU])
  have o4:Out [] H H4:=gB (bU.trans r3) s3 (kP (afe _))
  have F4:=h.aw o4
  by_cases he:err=0
  ·have hRV:RV H4 ay bC az aB R':=r2.v.out s3 fun j hj=>by rw[aan];have:=r4 j hj;omega
   have vq:∀ j∈(RA.mk ay bC az aB).fp,j∉own p a:=fun j hj q=>by have:=r4 j hj;have:=h.lt j q;omega
   obtain⟨H5,t1,t2,t3,t4⟩:=F4.VI hx q2 (r':=⟨ay,bC,az,aB⟩) hRV vq
   exact⟨ay,bC,az,aB,H3,H4,_,H5,r1,s1,fun _=>⟨s2.av 4 0 (by simp),t1,t2,(o4.mono fun j hj=>by cases hj).trans (t3.mono fun j hj=>fJ (k:=5) rfl hj),fun j hj => .inl hj,fun j hj=>(t4 j hj).imp (fun q=>q) fun q=>by have:=r4 j q;omega⟩,fun q=>absurd he q⟩
  ·exact⟨ay,bC,az,aB,H3,H4,a,H4,r1,s1,fun q=>absurd q he,fun _=>⟨rfl,rfl,F4,FSt.same o4 p a⟩⟩
 have done:∀ (R':Rn) (err:Int),opM x.1 e f.ck=(R',err)->(∃ (ay:AV) (bC:List AV) (az aB:AV) (H3 H4:Hp) (a':FA) (H5:Hp),cK (.func (.func 43) [] []) [.ptr p 0,.agg (bc e)] H=some (.int .i64 err,H5)/\
   (err=0->av H4 (H.next+1) 0 4=some (rv ay R'.st az aB)/\st 4 (.ptr b o) (.agg (rv ay R'.st az aB)) H4=some H5/\FL H5 p a' { f with aA:=f.aA.set i (R',x.2) }/\FSt H H5 p a a')/\(err≠0->H5=H4/\a'=a/\FL H4 p a f/\FSt H H4 p a a)/\H3=H3)->
   ∃ a' H',cK (.func (.func 43) [] []) [.ptr p 0,.agg (bc e)] H=some (.int .i64 (if (opM x.1 e f.ck).2=0 then ({ f with aA:=f.aA.set i ((opM x.1 e f.ck).1,x.2) },0) else (f,(opM x.1 e f.ck).2):Fm × Int).2,H')/\FL H' p a' (if (opM x.1 e f.ck).2=0 then ({ f with aA:=f.aA.set i ((opM x.1 e f.ck).1,x.2) },0) else (f,(opM x.1 e f.ck).2):Fm × Int).1/\FSt H H' p a a':=by
  rintro R' err ho ⟨ay,bC,az,aB,H3,H4,a',H5,w1,w2,w3,_⟩
  rw[ho]
  by_cases he:err=0
  ·obtain⟨_,_,z3,z4⟩:=w2 he
   rw[if_pos he]
   subst he
   exact⟨a',H5,w1,z3,z4⟩
  ·obtain⟨rfl,rfl,z3,z4⟩:=w3 he
   rw[if_neg he]
   exact⟨a',H5,w1,z3,z4⟩
 by_cases b3:e.kd=3
 ·obtain⟨ay,bC,az,aB,H3,H4,a',H5,w1,w2,w3,w4⟩:=fin _ _ _ _ (ajP q7 xV e.tk e.ty f.ck)
  refine done _ _ (by unfold opM;rw[if_pos b3]) ⟨ay,bC,az,aB,H3,H4,a',H5,GU ?_,w3,w4,rfl⟩
  have d3:(e.kd==3)=true:=by simp[b3]
  unfold zF
  by_cases he:(oc x.1 e.tk e.ty f.ck).2=0
  ·obtain⟨z1,z2,_⟩:=w3 he
   simp(disch:=(first|assumption|omega|(simp only[ag,af,simprocAttr]<;>fail)|(simp only[af];omega)|(simp only[ag,af,simprocAttr, *]<;>fail)|fail))only[bg,k3,E1,hw,q2,n1,c8,E0,E2,E3,k0,q5,w1,w2,d3,he,z1,z2,au,ar,aj,ai,simprocAttr]
  ·obtain⟨rfl,_⟩:=w4 he
   have dn:((oc x.1 e.tk e.ty f.ck).2==0)=false:=by simp[he]
   simp(disch:=(first|assumption|omega|(simp only[ag,af,simprocAttr]<;>fail)|(simp only[af];omega)|(simp only[ag,af,simprocAttr, *]<;>fail)|fail))only[bg,k3,E1,hw,q2,n1,c8,E0,E2,E3,k0,q5,w1,w2,d3,dn,au,ar,aj,ai,simprocAttr]
 have d3:(e.kd==3)=false:=by simp[b3]
 by_cases b4:e.kd=4
 ·obtain⟨ay,bC,az,aB,H3,H4,a',H5,w1,w2,w3,w4⟩:=fin _ _ _ _ (ae9 q7 xV e.tk e.ty e.dt)
  refine done _ _ (by unfold opM;rw[if_neg b3,if_pos b4]) ⟨ay,bC,az,aB,H3,H4,a',H5,GU ?_,w3,w4,rfl⟩
  have d4:(e.kd==4)=true:=by simp[b4]
  unfold zF
  by_cases he:(pX x.1 e.tk e.ty e.dt).2=0
  ·obtain⟨z1,z2,_⟩:=w3 he
   simp(disch:=(first|assumption|omega|(simp only[ag,af,simprocAttr]<;>fail)|(simp only[af];omega)|(simp only[ag,af,simprocAttr, *]<;>fail)|fail))only[bg,k3,E1,hw,q2,n1,c8,E0,E2,E3,E7,q5,w1,w2,d3,d4,he,z1,z2,au,ar,aj,ai,simprocAttr]
  ·obtain⟨rfl,_⟩:=w4 he
   have dn:((pX x.1 e.tk e.ty e.dt).2==0)=false:=by simp[he]
   simp(disch:=(first|assumption|omega|(simp only[ag,af,simprocAttr]<;>fail)|(simp only[af];omega)|(simp only[ag,af,simprocAttr, *]<;>fail)|fail))only[bg,k3,E1,hw,q2,n1,c8,E0,E2,E3,E7,q5,w1,w2,d3,d4,dn,au,ar,aj,ai,simprocAttr]
 have d4:(e.kd==4)=false:=by simp[b4]
 by_cases b5:e.kd=5
 ·obtain⟨ay,bC,az,aB,H3,H4,a',H5,w1,w2,w3,w4⟩:=fin _ _ _ _ (akT q7 xV ok2 e.tk e.ty f.ck)
  refine done _ _ (by unfold opM;rw[if_neg b3,if_neg b4,if_pos b5]) ⟨ay,bC,az,aB,H3,H4,a',H5,GU ?_,w3,w4,rfl⟩
  have d5:(e.kd==5)=true:=by simp[b5]
  unfold zF
  by_cases he:(uX x.1 e.tk e.ty f.ck).2=0
  ·obtain⟨z1,z2,_⟩:=w3 he
   simp(disch:=(first|assumption|omega|(simp only[ag,af,simprocAttr]<;>fail)|(simp only[af];omega)|(simp only[ag,af,simprocAttr, *]<;>fail)|fail))only[bg,k3,E1,hw,q2,n1,c8,E0,E2,E3,k0,q5,w1,w2,d3,d4,d5,he,z1,z2,au,ar,aj,ai,simprocAttr]
  ·obtain⟨rfl,_⟩:=w4 he
   have dn:((uX x.1 e.tk e.ty f.ck).2==0)=false:=by simp[he]
   simp(disch:=(first|assumption|omega|(simp only[ag,af,simprocAttr]<;>fail)|(simp only[af];omega)|(simp only[ag,af,simprocAttr, *]<;>fail)|fail))only[bg,k3,E1,hw,q2,n1,c8,E0,E2,E3,k0,q5,w1,w2,d3,d4,d5,dn,au,ar,aj,ai,simprocAttr]
 have d5:(e.kd==5)=false:=by simp[b5]
 by_cases b7:e.kd=7
 ·obtain⟨ay,bC,az,aB,H3,H4,a',H5,w1,w2,w3,w4⟩:=fin _ _ _ _ (agT q7 xV ok3 e.nm)
  refine done _ _ (by unfold opM;rw[if_neg b3,if_neg b4,if_neg b5,if_pos b7]) ⟨ay,bC,az,aB,H3,H4,a',H5,GU ?_,w3,w4,rfl⟩
  have d7:(e.kd==7)=true:=by simp[b7]
  unfold zF
  by_cases he:(si x.1 e.nm).2=0
  ·obtain⟨z1,z2,_⟩:=w3 he
   simp(disch:=(first|assumption|omega|(simp only[ag,af,simprocAttr]<;>fail)|(simp only[af];omega)|(simp only[ag,af,simprocAttr, *]<;>fail)|fail))only[bg,k3,E1,hw,q2,n1,c8,E0,E5,q5,w1,w2,d3,d4,d5,d7,he,z1,z2,au,ar,aj,ai,simprocAttr]
  ·obtain⟨rfl,_⟩:=w4 he
   have dn:((si x.1 e.nm).2==0)=false:=by simp[he]
   simp(disch:=(first|assumption|omega|(simp only[ag,af,simprocAttr]<;>fail)|(simp only[af];omega)|(simp only[ag,af,simprocAttr, *]<;>fail)|fail))only[bg,k3,E1,hw,q2,n1,c8,E0,E5,q5,w1,w2,d3,d4,d5,d7,dn,au,ar,aj,ai,simprocAttr]
 have d7:(e.kd==7)=false:=by simp[b7]
 obtain⟨ay,bC,az,aB,H3,H4,a',H5,w1,w2,w3,w4⟩:=fin _ _ _ _ (cancel_c q7 xV)
 refine done _ _ (by unfold opM;rw[if_neg b3,if_neg b4,if_neg b5,if_neg b7]) ⟨ay,bC,az,aB,H3,H4,a',H5,GU ?_,w3,w4,rfl⟩
 unfold zF
 by_cases he:(cancelM x.1).2=0
 ·obtain⟨z1,z2,_⟩:=w3 he
  simp(disch:=(first|assumption|omega|(simp only[ag,af,simprocAttr]<;>fail)|(simp only[af];omega)|(simp only[ag,af,simprocAttr, *]<;>fail)|fail))only[bg,k3,E1,hw,q2,n1,c8,E0,q5,w1,w2,d3,d4,d5,d7,he,z1,z2,au,ar,aj,ai,simprocAttr]
 ·obtain⟨rfl,_⟩:=w4 he
  have dn:((cancelM x.1).2==0)=false:=by simp[he]
  simp(disch:=(first|assumption|omega|(simp only[ag,af,simprocAttr]<;>fail)|(simp only[af];omega)|(simp only[ag,af,simprocAttr, *]<;>fail)|fail))only[bg,k3,E1,hw,q2,n1,c8,E0,q5,w1,w2,d3,d4,d5,d7,dn,au,ar,aj,ai,simprocAttr]
structure Fok (f:Fm):Prop where
 run:∀ x∈f.aA,lS x.1/\tW x.1/\x.1.sg.length<=900
 nr:f.aA.length<=64
 nn:f.dO.length<=16
 nk:f.ks.length<128
noncomputable def applyM (f:Fm) (e:Ev):Fm × Int:=
 if xU e=true then (if e.kd=1 then Dd f e.nm e.dt else if e.kd=2 then startM f e else if e.kd=6 then tickF f e.n else if e.kd=9 then (f,0) else if (f.aA.length:Int)<e.rn then (f,4) else changeM f e) else (f,1)
theorem good_rn {e:Ev} (h:xU e=true) (h1:e.kd≠1) (h6:e.kd≠6) (h9:e.kd≠9):1<=e.rn/\e.rn<=64:=by
 unfold xU at h
 rw[aa9,aa9] at h
 obtain⟨g1,_,g2⟩:=h
 have hm:(82:Nat)∈fieldsM e.kd:=by
  unfold fieldsM at g1 ⊢
  rw[if_neg h1] at g1 ⊢
  by_cases h2:e.kd=2
  ·rw[if_pos h2];simp
  rw[if_neg h2] at g1 ⊢
  by_cases h3:e.kd=3\/e.kd=5
  ·rw[if_pos h3];simp
  rw[if_neg h3] at g1 ⊢
  by_cases h4:e.kd=4
  ·rw[if_pos h4];simp
  rw[if_neg h4,if_neg (by omega)] at g1 ⊢
  by_cases h7:e.kd=7
  ·rw[if_pos h7];simp
  rw[if_neg h7] at g1 ⊢
  by_cases h8:e.kd=8
  ·rw[if_pos h8];simp
  rw[if_neg h8] at g1
  simp at g1
 have:=adn.1 g2 82 hm
 unfold rO vi at this
 simp at this
 exact this
theorem apply_c {H:Hp} {p:Nat} {a:FA} {f:Fm} (h:FL H p a f) (hg:Gl H) (hk:Fok f) (e:Ev) :
  ∃ a' H',cK (.func (.func 16) [] []) [.ptr p 0,.agg (bc e)] H=some (.int .i64 (applyM f e).2,H')/\FL H' p a' (applyM f e).1/\FSt H H' p a a':=by
 have bg:bx 26 (.agg (bc e)) H=some (H.next,al H (bc e) 26 0):=iE (by rw[pE];omega)
 have o1:=aN H (bc e) 26 0
 have c1:=bD H (bc e) 26 0
 generalize al H (bc e) 26 0=H1 at *
 have k8:av H1 H.next 0 8=some (bc e):=c1.av 8 0 (by rw[pE];omega)
 obtain⟨H2,g1,g2⟩:=aeg e H1
 have o2:=o1.trans g2
 have c2:=c1.out g2 (by simp)
 have F2:=h.aw o2
 have lK:=hg.aw o2
 have E0:cellAt H2 H.next 0=some (.int .i64 e.kd):=c2.cellAt rfl
 have E1:cellAt H2 H.next 1=some (.int .i64 e.rn):=c2.cellAt rfl
 have E4:cellAt H2 H.next 4=some (.int .i64 e.n):=c2.cellAt rfl
 have E5:cellAt H2 H.next 5=some (.str e.nm):=c2.cellAt rfl
 have E7:cellAt H2 H.next 7=some (.str e.dt):=c2.cellAt rfl
 have k82:av H2 H.next 0 8=some (bc e):=c2.av 8 0 (by rw[pE];omega)
 unfold applyM
 cases ru:xU e with
 | false=>
  rw[ru] at g1
  rw[if_neg (by simp)]
  refine⟨a,H2,Av ?_,F2,FSt.same o2 p a⟩
  unfold xo
  simp(disch:=(first|assumption|omega|(simp only[ag,af,simprocAttr]<;>fail)|(simp only[af];omega)|(simp only[ag,af,simprocAttr, *]<;>fail)|fail))only[bg,k8,g1,au,ar,aj,ai,simprocAttr]
 | true=>
  rw[ru] at g1
  rw[if_pos rfl]
  by_cases b1:e.kd=1
  ·obtain⟨a',H3,d1,d2,d3⟩:=acD F2 lK hk.nn e.nm e.dt
   rw[if_pos b1]
   refine⟨a',H3,Av ?_,d2,FSt.end o2 d3⟩
   have q1:(e.kd==1)=true:=by simp[b1]
   unfold xo
   simp(disch:=(first|assumption|omega|(simp only[ag,af,simprocAttr]<;>fail)|(simp only[af];omega)|(simp only[ag,af,simprocAttr, *]<;>fail)|fail))only[bg,k8,g1,E0,E5,E7,q1,d1,au,ar,aj,ai,simprocAttr]
  have q1:(e.kd==1)=false:=by simp[b1]
  rw[if_neg b1]
  by_cases b2:e.kd=2
  ·obtain⟨a',H3,d1,d2,d3⟩:=start_c F2 lK hk.nk hk.nr e
   rw[if_pos b2]
   refine⟨a',H3,Av ?_,d2,FSt.end o2 d3⟩
   have q2:(e.kd==2)=true:=by simp[b2]
   unfold xo
   simp(disch:=(first|assumption|omega|(simp only[ag,af,simprocAttr]<;>fail)|(simp only[af];omega)|(simp only[ag,af,simprocAttr, *]<;>fail)|fail))only[bg,k8,g1,E0,k82,q1,q2,d1,au,ar,aj,ai,simprocAttr]
  have q2:(e.kd==2)=false:=by simp[b2]
  rw[if_neg b2]
  by_cases b6:e.kd=6
  ·obtain⟨a',H3,d1,d2,d3⟩:=ftick_c F2 hk.nr (fun x hx=>⟨(hk.run x hx).1,(hk.run x hx).2.1⟩) e.n
   rw[if_pos b6]
   refine⟨a',H3,Av ?_,d2,FSt.end o2 d3⟩
   have q6:(e.kd==6)=true:=by simp[b6]
   unfold xo
   simp(disch:=(first|assumption|omega|(simp only[ag,af,simprocAttr]<;>fail)|(simp only[af];omega)|(simp only[ag,af,simprocAttr, *]<;>fail)|fail))only[bg,k8,g1,E0,E4,q1,q2,q6,d1,au,ar,aj,ai,simprocAttr]
  have q6:(e.kd==6)=false:=by simp[b6]
  rw[if_neg b6]
  by_cases b9:e.kd=9
  ·rw[if_pos b9]
   refine⟨a,H2,Av ?_,F2,FSt.same o2 p a⟩
   have q9:(e.kd==9)=true:=by simp[b9]
   unfold xo
   simp(disch:=(first|assumption|omega|(simp only[ag,af,simprocAttr]<;>fail)|(simp only[af];omega)|(simp only[ag,af,simprocAttr, *]<;>fail)|fail))only[bg,k8,g1,E0,q1,q2,q6,q9,au,ar,aj,ai,simprocAttr]
  have q9:(e.kd==9)=false:=by simp[b9]
  rw[if_neg b9]
  have k3:cellAt H2 p 3=some a.rx:=F2.c.cellAt rfl
  have gE:=F2.Nd
  by_cases aQ:(f.aA.length:Int)<e.rn
  ·have d:decide (((f.aA.length:Nat):Int)<e.rn)=true:=decide_eq_true aQ
   rw[if_pos aQ]
   refine⟨a,H2,Av ?_,F2,FSt.same o2 p a⟩
   unfold xo
   simp(disch:=(first|assumption|omega|(simp only[ag,af,simprocAttr]<;>fail)|(simp only[af];omega)|(simp only[ag,af,simprocAttr, *]<;>fail)|fail))only[bg,k8,g1,E0,E1,q1,q2,q6,q9,k3,gE,d,au,ar,aj,ai,simprocAttr]
  ·have d:decide (((f.aA.length:Nat):Int)<e.rn)=false:=decide_eq_false aQ
   rw[if_neg aQ]
   obtain⟨a',H3,d1,d2,d3⟩:=change_c F2 hk.nr hk.run e (good_rn ru b1 b6 b9).1 (by omega)
   refine⟨a',H3,Av ?_,d2,FSt.end o2 d3⟩
   unfold xo
   simp(disch:=(first|assumption|omega|(simp only[ag,af,simprocAttr]<;>fail)|(simp only[af];omega)|(simp only[ag,af,simprocAttr, *]<;>fail)|fail))only[bg,k8,g1,E0,E1,q1,q2,q6,q9,k3,gE,d,k82,d1,au,ar,aj,ai,simprocAttr]
noncomputable def anR:An->An
 | .sq _ _ b=>b
 | x=>x
noncomputable def anC:An:=anR (anR (anR (anR (anR (an 14)))))
theorem anC_eq:an 14 = .sq none .nl (.sq none .nl (.sq (some [0,3]) .nl (.sq (some [0,3]) .nl (.sq (some [0,3]) (.pr [0,3] (MD 2 3 0)) anC)))):=by kernel_rfl
theorem anF:Pt.filter (fun p => !p.2.plain)=[(14,an 14)]:=by kernel_rfl
theorem anOK:vL P an:=by
 refine Xu fun p hp => ?_
 cases hb:p.2.plain with
 | true=>exact .inl rfl
 | false=>
  right
  intro fn b h1 h2
  have hm:p∈Pt.filter (fun p => !p.2.plain):=List.mem_filter.2 ⟨hp,by rw[hb];rfl⟩
  rw[anF,aan] at hm
  subst hm
  have Qw:b=Cw.body:=by unfold Cw.body;rw[h1];show b=(fn.body).getD .skip;rw[h2];rfl
  have hn:fn.ntmps=69:=by
   have:(P.funcs[14]?).map (·.ntmps)=some 69:=by kernel_rfl
   rw[h1] at this
   exact acy this
  rw[hn,Qw,Cw.body_eq]
  show jS P 69 _ (an 14)
  rw[anC_eq]
  exact⟨jS.plain P 69 _ _ rfl,jS.plain P 69 _ _ rfl,jS.plain P 69 _ _ rfl,jS.plain P 69 _ _ rfl,Cw.copyOne,jS.plain P 69 _ _ (by kernel_rfl)⟩
theorem dj_setD {L:List (List Nat)} {k:Nat} {l l':List Nat} (h:L.Pairwise Dj) (hk:L[k]? = some l) (hl:∀ j∈l',∀ m∈L,j∉m):(L.set k l').Pairwise Dj:=by
 rw[List.pairwise_iff_getElem] at h ⊢
 intro i j hi hj nD x hx hy
 rw[acT] at hi hj
 rw[List.getElem_set] at hx hy
 by_cases h1:k=i
 ·rw[if_pos h1] at hx
  rw[if_neg (by omega)] at hy
  exact hl x hx _ (List.getElem_mem hj) hy
 ·rw[if_neg h1] at hx
  by_cases h2:k=j
  ·rw[if_pos h2] at hy
   exact hl x hy _ (List.getElem_mem hi) hx
  ·rw[if_neg h2] at hy
   exact h i j hi hj nD x hx hy
theorem own_setD {p k:Nat} {a a':FA} {l':List Nat} (hs:gP p a'=(gP p a).set k l'):∀ j∈own p a',j∈own p a\/j∈l':=by
 intro j hj
 obtain⟨m,hm,hj⟩:=af9.1 hj
 rw[hs] at hm
 rcases afK hm with q | rfl
 ·exact .inl (af9.2 ⟨m,q,hj⟩)
 ·exact .inr hj
theorem FL.newN {H:Hp} {p:Nat} {a:FA} {f:Fm} (h:FL H p a f) {gg:AV} {l:List aq} (hw:Ow H 9 1 gg (strs l)) (hd:∀ j∈ak gg,j∉own p a/\11<=j/\j∉DfK.dR a) :
  ∃ H2,st 1 (.ptr p 1) gg H=some H2/\FL H2 p { a with nx:=gg } { f with dO:=l }/\Out [p] H H2/\∀ j∈own p { a with nx:=gg },j∈own p a\/j∈ak gg:=by
 obtain⟨H2,s1,s2,s3,s4⟩:=fR h.c (by decide) (o:=1) (by simp) (v:=gg) hw.rw.one
 obtain⟨p0,p4,p1,p5,pk,pv⟩:=h.part s3 (i:=0) rfl
 have hs:gP p { a with nx:=gg }=(gP p a).set 4 (ak gg):=rfl
 have se:(gP p { a with nx:=gg }).Pairwise Dj:=by rw[hs];exact dj_setD h.dj (k:=4) rfl fun j hj m hm q=>(hd j hj).1 (af9.2 ⟨m,hm,q⟩)
 have nR:=own_setD hs
 exact⟨H2,s1,⟨s2,hw.out s3 fun j hj q=>(hd j hj).1 (fJ (k:=0) rfl q),p1 (by decide),h.pP,p5 (by decide),pv,h.len,pk (by decide) (by decide) (by decide),se,fun j hj=>(nR j hj).elim (h.lo j) fun q=>(hd j q).2.1,fun j hj=>⟨fun q=>(nR j q).elim (h.dR j hj).1 fun z=>(hd j z).2.2 hj,ac8 (h.dR j hj).2 s3.1⟩⟩,s3,nR⟩
theorem FL.newR {H:Hp} {p:Nat} {a:FA} {f:Fm} (h:FL H p a f) {eF:AV} {bG:List RA} {aA:List (Rn × aq)} (hlen:bG.length=aA.length) (hw:OL H 77 5 eF (List.zipWith cw bG aA)) (hv:∀ (i:Nat) (r:RA) (x:Rn × aq),bG[i]? = some r->aA[i]? = some x->RV H r.dx r.xs r.tx r.sx x.1)
  (hd:∀ j∈ak eF,j∉own p a/\11<=j) (hi:∀ j∈bG.flatMap RA.fp,j∉own p a/\j∉ak eF/\j<H.next) :
  ∃ H2,st 1 (.ptr p 3) eF H=some H2/\FL H2 p { a with rx:=eF,bG:=bG } { f with aA:=aA }/\Out [p] H H2/\∀ j∈own p { a with rx:=eF,bG:=bG },j∈own p a\/j∈ak eF:=by
 obtain⟨H2,s1,s2,s3,s4⟩:=fR h.c (by decide) (o:=3) (by simp) (v:=eF) hw.1.rw.one
 obtain⟨p0,p4,p1,p5,pk,pv⟩:=h.part s3 (i:=0) rfl
 have hs:gP p { a with rx:=eF,bG:=bG }=(gP p a).set 5 (ak eF):=rfl
 have se:(gP p { a with rx:=eF,bG:=bG }).Pairwise Dj:=by rw[hs];exact dj_setD h.dj (k:=5) rfl fun j hj m hm q=>(hd j hj).1 (af9.2 ⟨m,hm,q⟩)
 have nR:=own_setD hs
 have hp0:∀ {j:Nat},j∈[p]->j∈own p a:=fun q=>fJ (k:=0) rfl q
 exact⟨H2,s1,⟨s2,p4 (by decide),p1 (by decide),h.pP,hw.out s3 fun j hj q=>(hd j hj).1 (hp0 q),fun i r x hr hx=>(hv i r x hr hx).out s3 fun j hj q=>(hi j (agl.2 ⟨r,aa2 hr,hj⟩)).1 (hp0 q),hlen,pk (by decide) (by decide) (by decide),se,fun j hj=>(nR j hj).elim (h.lo j) fun q=>(hd j q).2,fun j hj=>⟨fun q=>(nR j q).elim (hi j hj).1 (hi j hj).2.1,ac8 (hi j hj).2.2 s3.1⟩⟩,s3,nR⟩
theorem strK_tx:∀ (l:List (aq × aq)) (bs:List Nat),(l.map (·.1)).Nodup->xm (mB (l.zip bs))=true
 | [],bs,_=>by cases bs<;>rfl
 | x::l,[],_=>rfl
 | x::l,b::bs,h=>by
  rw[acJ,agQ] at h
  show ((mB (l.zip bs)).all _&&xm (mB (l.zip bs)))=true
  rw[strK_tx l bs h.2,Bool.and_true,adn]
  intro e he
  obtain⟨y,hy,rfl⟩:=acI.1 he
  have:y.1.1≠x.1:=fun q=>h.1 (q▸acI.2 ⟨y.1,(List.of_mem_zip (a:=y.1) (b:=y.2) hy).1,rfl⟩)
  simpa using this
theorem visF_tx:∀ (l:List (aq × aq)) (bs:List Nat) (q:Nat),bs.length=l.length->jR q (mB (l.zip bs))=mB (l.zip (List.range' q l.length))
 | [],bs,q,_=>by cases bs<;>rfl
 | x::l,[],q,h=>by simp at h
 | x::l,b::bs,q,h=>by
  rw[abx,aiw]
  show (⟨.str x.1,.str x.2,q⟩:ME)::jR (q+1) (mB (l.zip bs))=⟨.str x.1,.str x.2,q⟩::mB (l.zip (List.range' (q+1) l.length))
  rw[visF_tx l bs (q+1) (by simpa using h)]
theorem FL.copyT {H:Hp} {p p':Nat} {a a':FA} {f f':Fm} (h:FL H p a f) (h':FL H p' a' f') (he:f'.gp=[]) (aH:a'.tm≠a.tm) :
  ∃ H2,C7 2 (.ptr p' 0) (.ptr p 0) H=some H2/\FL H2 p' a' { f' with gp:=f.gp }/\Out [a'.tm] H H2:=by
 obtain⟨bs,c,t1,t2⟩:=h.t
 obtain⟨bs',c',t1',t2'⟩:=h'.t
 rw[he] at t1' t2'
 have k1:cellAt H p' (0+2)=some (.map a'.tm):=h'.c.cellAt rfl
 have k2:cellAt H p (0+2)=some (.map a.tm):=h.c.cellAt rfl
 have k3:H.h.get a'.tm=some (.map [] c'):=by have:=t2'.2;cases bs'<;>exact this
 have hk:(xm (mB (f.gp.zip bs))&&!(Nat.beq a'.tm a.tm))=true:=by
  rw[strK_tx _ _ h.pP,ac2]
  cases hb:Nat.beq a'.tm a.tm with
  | false=>rfl
  | true=>exact absurd (abC hb) aH
 have aQ:=t2'.1
 have ho:Out [a'.tm] H ⟨H.h.bX a'.tm (.map (jR c' (mB (f.gp.zip bs))) (c'+(mB (f.gp.zip bs)).length)),H.next+1⟩:=⟨afe _,fun j hj hn=>by
  show (H.h.bX _ _).get j=_
  rw[Tr.yw _ _ _ _ (by rw[k3];rfl),if_neg (fun q=>hn (by rw[q];exact .head _))]⟩
 obtain⟨p0,p4,p1,p5,pk,pv⟩:=h'.part ho (i:=1) rfl
 refine⟨_,?_,⟨p0 (by decide),p4 (by decide),⟨List.range' c' f.gp.length,c'+(mB (f.gp.zip bs)).length,List.length_range',Nat.lt_succ_of_lt aQ,?_⟩,h.pP,p5 (by decide),pv,h'.len,pk (by decide) (by decide) (by decide),h'.dj,h'.lo,h'.M0 ho.1⟩,ho⟩
 ·unfold C7
  simp only[k1,k2,k3,t2.2,hk,cond_true]
 ·show (H.h.bX _ _).get a'.tm=_
  rw[Tr.yw _ _ _ _ (by rw[k3];rfl),if_pos rfl,visF_tx _ _ _ t1]
theorem FL.hi {H H':Hp} {p N:Nat} {a:FA} {f:Fm} {S:List Nat} (h:FL H p a f) (k:Out S H H') (h1:∀ j∈own p a,j<N) (h2:∀ j∈DfK.dR a,j<N) (hS:∀ j∈S,N<=j):FL H' p a f:=
 h.out k (fun j hj q=>by have:=h1 j hj;have:=hS j q;omega) fun j hj q=>by have:=h2 j hj;have:=hS j q;omega
theorem fclone_loop {q:Nat} {g:Fm} {ks:List Ke} {ox:AV} (hn:ks.length<=128) (gQ:(ks.map (·.1)).Nodup):∀ (r:List Ke) (i:Nat) (H:Hp) (b:FA),i<=ks.length->ks.drop i=r->RL H 3 ox (ks.map gm)->(∀ j∈ak ox,j∉own q b)->FL H q b { g with ks:=ks.take i }->
  ∃ b' H',(∀ dW:K.Fn 1,HL JN GO cK dW (.ptr q 0) ox (.int .i64 (ks.length:Nat)) (.int .i64 (i:Nat)) H=dW (.ptr q 0) H')/\FL H' q b' { g with ks:=ks }/\FSt H H' q b b'/\b'.bG=b.bG
 | [],i,H,b,hi,h,hx,hd,hF=>by
  obtain rfl:=drop_nil hi h
  rw[List.take_length] at hF
  refine⟨b,H,fun dW => ?_,hF,FSt.same (Out.refl _ _) q b,rfl⟩
  rw[VQ]
  simp only[bl_flow_Flow_Clone,fw,aj,ai,simprocAttr]
 | x::r,i,H,b,hi,h,hx,hd,hF=>by
  obtain⟨h1,h2,h3⟩:=fC h
  have es:=fF h1 (by omega)
  obtain⟨m,o,q1,q2,q3,q4,q5⟩:=hx.at (by decide) (i:=i) (c:=gm x) (by rw[ada,h2];rfl)
  have hz:st 3 (.ptr H.next 0) (.agg (gm x)) (al H [(.str []),(.str []),(.int .i64 0)] 82 0)=some (al H (gm x) 82 0):=kq rfl rfl rfl (by decide) rfl
  have o1:=aN H (gm x) 82 0
  have c1:=bD H (gm x) 82 0
  have n1:(al H (gm x) 82 0).next=H.next+1:=rfl
  generalize gf:al H (gm x) 82 0=H1 at *
  have e2:cellAt H1 H.next 2=some (.int .i64 x.2):=c1.cellAt rfl
  have ek:av H1 H.next 0 2=some (cI x.1):=c1.av 2 0 (by simp[gm])
  have hF1:=hF.aw o1
  have k4:cellAt H1 q 4=some (.ptr b.kp 0):=hF1.c.cellAt rfl
  have hg:me (ks.take i) x.1=none:=by
   cases hg:me (ks.take i) x.1 with
   | none=>rfl
   | some id=>
    obtain⟨u,v,h4,_⟩:=Qq hg
    have h5:(x.1,id)∈ks.take i:=by rw[h4];simp
    have hs:ks=ks.take i++x::r:=by rw[<-h,agx]
    rw[hs,adu,aem] at gQ
    exact absurd rfl (gQ.2.2 _ (acI.2 ⟨_,h5,rfl⟩) x.1 (by simp))
  obtain⟨sQ,H2,u1,u2,u3⟩:=hF1.gq (k:=x.1) (by show (ks.take i).length<128;rw[adA];omega) hg x.2
  have ht:ks.take (i+1)=ks.take i++[x]:=by rw[agf,h2];rfl
  have hF2:FL H2 q { b with kl:=sQ } { g with ks:=ks.take (i+1) }:=by rw[ht];exact u2
  have eC:=hx.1.lt
  obtain⟨b',H',i1,i2,i3,i4⟩:=fclone_loop hn gQ r (i+1) H2 _ h1 h3 ((hx.aw o1).out u3.o fun j hj z=>hd j hj z) (fun j hj z=>(u3.w j z).elim (hd j hj) fun z=>by have:=eC j hj;have:=o1.1;omega) hF2
  refine⟨b',H',fun dW => ?_,i2,((FSt.same o1 q b).trans u3).trans i3,i4⟩
  rw[VQ]
  simp(disch:=(first|assumption|omega|(simp only[ag,af,simprocAttr]<;>fail)|(simp only[af];omega)|(simp only[ag,af,simprocAttr, *]<;>fail)|fail))only[bl_flow_Flow_Clone,bN h1,q1,q4,hz,gf,k4,ek,e2,u1,es,i1,au,ar,aj,ai,simprocAttr]
theorem cloneOne_c {H:Hp} {x:AV} {l:List AV} (hx:Rw H 5 x l) (ho:∀ v∈l,bq v=true) (hl:l.length<=16777216) :
  ∃ y H',cK (.func (.func 31) [] []) [x] H=some (y,H')/\Ow H' 77 5 y l/\Out [] H H'/\(∀ j∈ak y,H.next<=j):=by
 have hu:P.underlying 64=some (.slice 77):=Tryz.underlying64
 by_cases h0:x = .ah
 ·subst h0
  have:l=[]:=by cases hx;rfl
  subst this
  refine⟨.ah,H,UQ ?_,.nil,Out.refl _ _,fun j hj=>by simp[ak] at hj⟩
  unfold Ri
  simp only[Hv,lL,Gd hu,aj,ai,simprocAttr]
 ·obtain⟨y,H',h1,h2,h3,h4⟩:=GV (el:=77) (fU:=77) (z:=[.ah,(.int .i64 0),.ah,.ah,(.str [])]) hx ho (by decide) hl
  refine⟨y,H',UQ ?_,h2,h3,h4⟩
  have hq:∃ i o n c ex aO,x = .slice i o n c ex aO:=by
   cases hx with
   | nil=>exact absurd rfl h0
   | emp=>exact⟨_,_,_,_,_,_,rfl⟩
   | mk _ _ _ _=>exact⟨_,_,_,_,_,_,rfl⟩
  obtain⟨i,o,n,c,ex,aO,rfl⟩:=hq
  unfold Ri
  have eh:aL H [] 77 0=some (H.next,al H [] 77 0):=iy (by simp)
  simp only[Ge,lL,G0 hu,tV,eh,h1,aj,ai,simprocAttr]
theorem flat5 (bG:List RA) (aA:List (Rn × aq)):(List.zipWith cw bG aA).flatten.length<=aA.length*5:=by
 have:=xS (L:=List.zipWith cw bG aA) (es:=5) fun c hc=>by
  obtain⟨i,hi⟩:=List.mem_iff_getElem?.1 hc
  rw[adE] at hi
  split at hi
  ·cases hi;rfl
  ·cases hi
 rw[this,aeP]
 exact adY _ (aiZ _ _)
theorem fclone_c {H:Hp} {p:Nat} {a:FA} {f:Fm} (h:FL H p a f) (jP:11<=H.next) (hn:f.dO.length<=1000) (hr:f.aA.length<=1000) (hk:f.ks.length<=128) (cF:(f.ks.map (·.1)).Nodup) :
  ∃ q b H',cK (.func (.func 14) [] []) [.ptr p 0] H=some (.ptr q 0,H')/\FL H' q b f/\Out [] H H'/\(∀ j∈own q b,H.next<=j)/\∀ j∈DfK.dR b,j∈DfK.dR a:=by
 have aQ:=h.lt
 have gU:∀ j∈DfK.dR a,j<H.next:=fun j hj=>(h.dR j hj).2
 obtain⟨q,b,H1,n1,n2,n3,n4,n5⟩:=aas jP
 have mW:DfK.dR b=[]:=by unfold DfK.dR;rw[n5];rfl
 have h1:=h.aw n3
 have a0:cellAt H1 p 0=some (.int .i64 f.ck):=h1.c.cellAt rfl
 obtain⟨H2,c1,c2,c3⟩:=n2.clock f.ck
 have h2:=h1.hi c3.o aQ gU n4
 have a1:cellAt H2 p 1=some a.nx:=h2.c.cellAt rfl
 have l2:=c3.o.1
 have l1:=n3.1
 obtain⟨y,H3,y1,y2,y3,y4,_⟩:=Us h2.n.rw (fun v hv=>by obtain⟨s,_,rfl⟩:=acI.1 hv;rfl) (by rw[iP];omega)
 have qw:=c2.aw y3
 have hJ:=c2.lt
 obtain⟨H4,d1,d2,d3,d4⟩:=qw.newN (gg:=y) (l:=f.dO) y2 fun j hj=>⟨fun z=>by have:=y4 j hj;have:=hJ j z;omega,by have:=y4 j hj;omega,by rw[mW];exact fun z=>by cases z⟩
 have vn:∀ j∈own q { b with nx:=y },H.next<=j:=fun j hj=>(d4 j hj).elim (n4 j) fun z=>by have:=y4 j z;omega
 have h4:=(h2.aw y3).hi d3 aQ gU fun j hj=>n4 j (fJ (k:=0) rfl hj)
 obtain⟨H5,e1,e2,e3⟩:=h4.copyT d2 rfl (fun z=>by
  have s1:=vn _ (fJ (p:=q) (a:={ b with nx:=y }) (k:=1) rfl (.head _))
  have s2:=aQ _ (fJ (p:=p) (a:=a) (k:=1) rfl (.head _))
  have z':b.tm=a.tm:=z
  have Vx:H.next<=b.tm:=s1
  omega)
 have h5:=h4.hi e3 aQ gU fun j hj=>vn j (fJ (k:=1) rfl hj)
 have a3:cellAt H5 p 3=some a.rx:=h5.c.cellAt rfl
 obtain⟨eF,H6,r1,r2,r3,r4⟩:=cloneOne_c h5.r.1.rw h5.r.1.one (by have:=flat5 a.bG f.aA;omega)
 have hb6:=e2.aw r3
 have hbl6:=e2.lt
 have h6:=h5.aw r3
 have l45:H.next<=H5.next:=by have:=y3.1;have:=d3.1;have:=e3.1;omega
 obtain⟨H7,g1,g2,g3,g4⟩:=hb6.newR (eF:=eF) (bG:=a.bG) (aA:=f.aA) h.len ⟨r2,h5.r.2⟩ h6.v (fun j hj=>⟨fun z=>by have:=r4 j hj;have:=hbl6 j z;omega,by have:=r4 j hj;omega⟩) fun j hj=>⟨fun z=>by have:=gU j hj;have:=vn j z;omega,fun z=>by have:=gU j hj;have:=r4 j z;omega,by have:=gU j hj;have:=r3.1;omega⟩
 have qn:∀ j∈own q { b with nx:=y,rx:=eF,bG:=a.bG },H.next<=j:=fun j hj=>(g4 j hj).elim (vn j) fun z=>by have:=r4 j z;omega
 have h7:=h6.hi g3 aQ gU fun j hj=>n4 j (fJ (k:=0) rfl hj)
 have a4:cellAt H7 p 4=some (.ptr a.kp 0):=h7.c.cellAt rfl
 obtain⟨ox,H8,x1,x2,x3,x4⟩:=PW (by omega) h7.k
 have jk:=x2.rl.len (by decide)
 rw[ac7] at jk
 have hg7:=g2.lt
 obtain⟨b',H9,i1,i2,i3,i4⟩:=fclone_loop (q:=q) (g:=f) (ks:=f.ks) (ox:=ox) hk cF f.ks 0 H8 { b with nx:=y,rx:=eF,bG:=a.bG } (ab2 _) abJ x2.rl (fun j hj z=>by have:=x4 j hj;have:=hg7 j z;omega) (g2.aw x3)
 rw[show (((0:Nat):Int))=0 from rfl] at i1
 have oT:Out [] H H9:=by
  have s1:=n3.then c3.o fun j hj => .inr (n4 j hj)
  have s2:=(s1.trans y3).then d3 fun j hj => .inr (n4 j (fJ (k:=0) rfl hj))
  have s3:=s2.then e3 fun j hj => .inr (vn j (fJ (k:=1) rfl hj))
  have s4:=(s3.trans r3).then g3 fun j hj => .inr (n4 j (fJ (k:=0) rfl hj))
  exact (s4.trans x3).then i3.o fun j hj => .inr (qn j hj)
 have l8:H.next<=H8.next:=by have:=r3.1;have:=g3.1;have:=x3.1;omega
 refine⟨q,b',H9,adz ?_,i2,oT,fun j hj=>(i3.w j hj).elim (qn j) fun z=>by omega,fun j hj => ?_⟩
 ·unfold OC
  simp(disch:=(first|assumption|omega|(simp only[ag,af,simprocAttr]<;>fail)|(simp only[af];omega)|(simp only[ag,af,simprocAttr, *]<;>fail)|fail))only[n1,a0,c1,a1,y1,d1,e1,a3,r1,g1,a4,x1,jk,i1,au,ar,aj,ai,simprocAttr]
 ·unfold DfK.dR at hj ⊢
  rw[i4] at hj
  exact hj
theorem pickL {α:Type} (Q:Nat->α->Prop):∀ n,(∀ j,j<n->∃ a,Q j a)->∃ l:List α,l.length=n/\∀ (j:Nat) (a:α),l[j]? = some a->Q j a
 | 0,_=>⟨[],rfl,fun j a h=>by simp at h⟩
 | n+1,h=>by
  obtain⟨l,hl,hq⟩:=pickL Q n fun j hj=>h j (by omega)
  obtain⟨a,ha⟩:=h n (by omega)
  refine⟨l++[a],by simp[hl],fun j b hb => ?_⟩
  by_cases hj:j<l.length
  ·rw[abN hj] at hb;exact hq j b hb
  ·rw[abQ (by omega)] at hb
   have:j-l.length=0:=by
    have:=(aaK.1 hb).1
    simp at this;omega
   rw[this] at hb
   cases hb
   rw[show j=n by omega];exact ha
theorem is_i {H:Hp} {k:IntKind} {l:List AV} {d:D} (h:Is H (.int k) l d):∃ z,l=[.int k z]/\k.min<=z/\z<=k.max:=by
 cases h with
 | int k z h=>exact⟨z,rfl,h⟩
def okS (s:aq):Prop:=(∀ c∈s,c<256)/\s.length<=Go.reachBytes
theorem is_s {H:Hp} {l:List AV} {d:D} (h:Is H .str l d):∃ s,l=[.str s]/\okS s:=by
 cases h with
 | str s h hl=>exact⟨s,rfl,h,hl⟩
theorem flat_of {es:Nat}:∀ {cs:List AV} {L:List (List AV)},cs.length=L.length*es->(∀ (i:Nat) (c:List AV),L[i]? = some c->(cs.drop (i*es)).take es=c/\c.length=es)->cs=L.flatten
 | cs,[],h,_=>by
  simp at h;simp[h]
 | cs,a::L,h,hq=>by
  obtain⟨h1,h2⟩:=hq 0 a rfl
  rw[af4,abJ] at h1
  simp only[abx,aeT,ahd] at h
  have ih:=flat_of (es:=es) (cs:=cs.drop es) (L:=L) (by rw[ae1];omega) fun i c hc=>by
   obtain⟨g1,g2⟩:=hq (i+1) c hc
   refine⟨?_,g2⟩
   rw[List.drop_drop,show es+i*es=(i+1)*es by rw[aeT,ahd];omega]
   exact g1
  rw[aik,<-ih,<-h1,agx]
theorem row_of {α:Type} {H:Hp} {es:Nat} {ty:Ty} {x:AV} {d:D} (C:α->List AV) (hC:∀ a,(C a).length=es) (Q:α->Prop) (h1:∀ (l:List AV) (d:D),l.length=es->Is H ty l d->∃ a,l=C a/\Q a) (dK:0<es) (h:Is H (.slice es ty) [x] d) :
  ∃ l:List α,RL H es x (l.map C)/\∀ a∈l,Q a:=by
 cases h with
 | @slice _ _ _ cs ds hr hl hd=>
  obtain⟨l,g1,g2⟩:=pickL (fun j (a:α)=>(cs.drop (j*es)).take es=C a/\Q a) ds.length (fun j hj=>by
   have hs:=hd j _ (aaM hj)
   have hle:(j+1)*es<=ds.length*es:=adY _ hj
   rw[aeT,ahd] at hle
   exact h1 _ _ (by rw[adA,ae1];omega) hs)
  refine⟨l,⟨?_,fun c hc => ?_⟩,fun a ha => ?_⟩
  ·have:cs=(l.map C).flatten:=flat_of (by rw[ac7,g1];exact hl) fun i c hc=>by
    rw[ada,aaF] at hc
    obtain⟨a,ha,rfl⟩:=hc
    exact⟨(g2 i a ha).1,hC a⟩
   rw[<-this];exact hr
  ·obtain⟨a,_,rfl⟩:=acI.1 hc
   exact hC a
  ·obtain⟨j,hj⟩:=ac1 ha
   exact (g2 j a hj).2
abbrev EvTy:Ty := .struct 8 [(0,1,.int .i64),(1,1,.int .i64),(2,1,.int .i64),(3,1,.int .i64),(4,1,.int .i64),(5,1,.str),(6,1,.str),(7,1,.str)]
theorem eight {l:List AV} (h:l.length=8) {a b c d e f g i:AV} (h0:(l.drop 0).take 1=[a]) (h1:(l.drop 1).take 1=[b]) (h2:(l.drop 2).take 1=[c]) (h3:(l.drop 3).take 1=[d]) (h4:(l.drop 4).take 1=[e]) (h5:(l.drop 5).take 1=[f]) (h6:(l.drop 6).take 1=[g]) (h7:(l.drop 7).take 1=[i]):l=[a,b,c,d,e,f,g,i]:=by
 match l,h with
 | [x0,x1,x2,x3,x4,x5,x6,x7],_=>
  simp at h0 h1 h2 h3 h4 h5 h6 h7
  simp[h0,h1,h2,h3,h4,h5,h6,h7]
structure okE (e:Ev):Prop where
 nm:okS e.nm
 ky:okS e.ky
 dt:okS e.dt
 n : -9223372036854775808<=e.n/\e.n<=9223372036854775807
theorem ev_of {H:Hp} {l:List AV} {d:D} (hl:l.length=8) (h:Is H EvTy l d):∃ e:Ev,l=bc e/\okE e:=by
 cases h with
 | @struct _ _ _ ds _ hn hd=>
  have at':∀ j,j<8->∃ d,ds[j]? = some d:=fun j hj=>⟨_,aaM (by rw[hn];exact hj)⟩
  obtain⟨d0,e0⟩:=at' 0 (by omega)
  obtain⟨d1,e1⟩:=at' 1 (by omega)
  obtain⟨d2,e2⟩:=at' 2 (by omega)
  obtain⟨d3,e3⟩:=at' 3 (by omega)
  obtain⟨d4,e4⟩:=at' 4 (by omega)
  obtain⟨d5,e5⟩:=at' 5 (by omega)
  obtain⟨d6,e6⟩:=at' 6 (by omega)
  obtain⟨d7,e7⟩:=at' 7 (by omega)
  obtain⟨z0,f0,_⟩:=is_i (hd 0 _ _ rfl e0)
  obtain⟨z1,f1,_⟩:=is_i (hd 1 _ _ rfl e1)
  obtain⟨z2,f2,_⟩:=is_i (hd 2 _ _ rfl e2)
  obtain⟨z3,f3,_⟩:=is_i (hd 3 _ _ rfl e3)
  obtain⟨z4,f4,g4,g5⟩:=is_i (hd 4 _ _ rfl e4)
  obtain⟨s5,f5,k5⟩:=is_s (hd 5 _ _ rfl e5)
  obtain⟨s6,f6,k6⟩:=is_s (hd 6 _ _ rfl e6)
  obtain⟨s7,f7,k7⟩:=is_s (hd 7 _ _ rfl e7)
  exact⟨⟨z0,z1,z2,z3,z4,s5,s6,s7⟩,eight hl f0 f1 f2 f3 f4 f5 f6 f7,k5,k6,k7,g4,g5⟩
def evs (l:List Ev):List (List AV):=l.map bc
theorem evs_of {H:Hp} {x:AV} {d:D} (h:Is H (.slice 8 EvTy) [x] d):∃ l:List Ev,RL H 8 x (evs l)/\∀ e∈l,okE e:=
 row_of bc (fun _=>rfl) okE (fun l d hl hi=>ev_of hl hi) (by decide) h
theorem eqA_rt (a b c a' b' c':Int) (s s':aq) (H:Hp):dZ P 50 132 (.agg [.int .i64 a,.int .i64 b,.int .i64 c,.str s]) (.agg [.int .i64 a',.int .i64 b',.int .i64 c',.str s']) H=pZ (fun z:Bool=>some z) [a==a',b==b',c==c',s==s']:=by kernel_rfl
theorem eqG_rt:Program.eqGuardType P P.depth 132=false:=by kernel_rfl
theorem rt_eq (t u:RT):((t.ph==u.ph)&&((t.tr==u.tr)&&((t.jo==u.jo)&&(t.rE==u.rE))))=decide (t=u):=by
 obtain⟨a,b,c,d⟩:=t
 obtain⟨a',b',c',d'⟩:=u
 rw[aii]
 simp
theorem ne_rtG (t u:RT) (H:Hp):gA P .neq 132 false (.agg (eR t)) (.agg (eR u))=true/\eS P .neq 132 (.agg (eR t)) (.agg (eR u)) H=some (.bool (!decide (t=u))):=by
 constructor
 ·show (!(Program.eqGuardType P P.depth 132))=true
  rw[eqG_rt];rfl
 ·show (dZ P 50 132 (.agg (eR t)) (.agg (eR u)) H).map (fun b=>AV.bool !b)=_
  have h:dZ P 50 132 (.agg (eR t)) (.agg (eR u)) H=_:=eqA_rt t.ph t.tr t.jo u.ph u.tr u.jo t.rE u.rE H
  rw[h,HK,<-rt_eq]
  simp
theorem drop_at {α:Type} {m:List α} {i:Nat} {b:α} (h:m[i]? = some b):m.drop i=b::m.drop (i+1):=by
 obtain⟨w1,w2⟩:=aaK.1 h
 rw[afD w1,w2]
theorem eqrtG_loop {x y:AV} {l m:List RT} {H:Hp} (hn:l.length<=16777216) (eJ:l.length=m.length) (hx:RL H 4 x (fS l)) (hy:RL H 4 y (fS m)) (bR:K.Fn 0):∀ (r:List RT) (i:Nat),i<=l.length->l.drop i=r->
  EK JN GO cK bR x y (.int .i64 (l.length:Nat)) (.int .i64 (i:Nat)) H=if r=m.drop i then bR H else some (.bool false,H)
 | [],i,hi,h=>by
  obtain rfl:=drop_nil hi h
  have:m.drop l.length=[]:=afX (by omega)
  rw[SX]
  simp only[bl_slices_Equal___run_Task_run_Task_,fw,this,if_true,aj,ai,simprocAttr]
 | t::r,i,hi,h=>by
  obtain⟨h1,h2,h3⟩:=fC h
  have es:=fF h1 (by omega)
  obtain⟨u,hu⟩:∃ b,m[i]? = some b:=⟨_,aaM (by omega)⟩
  obtain⟨b,o,q1,q2,q3,q4,q5⟩:=hx.at (by decide) (rz h2)
  obtain⟨b',o',p1,p2,p3,p4,p5⟩:=hy.at (by decide) (rz hu)
  obtain⟨g1,g2⟩:=ne_rtG t u H
  have ih:=eqrtG_loop hn eJ hx hy bR r (i+1) h1 h3
  rw[SX,drop_at hu]
  generalize m.drop (i+1)=s at ih
  by_cases hb:t=u
  ·rw[decide_eq_true hb] at g2
   have e:(if t::r=u::s then bR H else some (.bool false,H))=if r=s then bR H else some (AV.bool false,H):=by simp[hb]
   rw[e]
   simp(disch:=(first|assumption|omega|(simp only[ag,af,simprocAttr]<;>fail)|(simp only[af];omega)|(simp only[ag,af,simprocAttr, *]<;>fail)|fail))only[bl_slices_Equal___run_Task_run_Task_,bN h1,q1,q4,p1,p4,g1,lL,g2,es,ih,au,ar,aj,ai,simprocAttr]
  ·rw[decide_eq_false hb] at g2
   have e:(if t::r=u::s then bR H else some (.bool false,H))=some (AV.bool false,H):=by simp[hb]
   rw[e]
   simp(disch:=(first|assumption|omega|(simp only[ag,af,simprocAttr]<;>fail)|(simp only[af];omega)|(simp only[ag,af,simprocAttr, *]<;>fail)|fail))only[bl_slices_Equal___run_Task_run_Task_,bN h1,q1,q4,p1,p4,g1,lL,g2,au,ar,aj,ai,simprocAttr]
theorem eqrtG_c {x y:AV} {l m:List RT} {H:Hp} (hn:l.length<=16777216) (hx:RL H 4 x (fS l)) (hy:RL H 4 y (fS m)):cK (.func (.func 73) [] []) [x,y] H=some (.bool (decide (l=m)),H):=by
 have lx:=hx.len (by decide)
 have ly:=hy.len (by decide)
 rw[Bb] at lx ly
 refine adh ?_
 unfold Sg
 by_cases eJ:l.length=m.length
 ·have i1:=fun bR=>eqrtG_loop hn eJ hx hy bR l 0 (ab2 _) abJ
  rw[show (((0:Nat):Int))=0 from rfl] at i1
  have aH:(((l.length:Nat):Int) != ((m.length:Nat):Int))=false:=by simp[eJ]
  simp(disch:=(first|assumption|omega|(simp only[ag,af,simprocAttr]<;>fail)|(simp only[af];omega)|(simp only[ag,af,simprocAttr, *]<;>fail)|fail))only[lx,ly,aH,i1,abJ,au,ar,aj,ai,simprocAttr]
  by_cases hb:l=m<;>simp[hb]
 ·have aH:(((l.length:Nat):Int) != ((m.length:Nat):Int))=true:=by simp;omega
  have hb:l≠m:=fun e=>eJ (by rw[e])
  simp only[lx,ly,aH,hb,aj,ai,simprocAttr]
theorem same1G_c {t u:Tk} {x y:AV} {H:Hp} (dq:t.after.length<=16777216) (hx:Rw H 1 x (ints t.after)) (hy:Rw H 1 y (ints u.after)) :
  ∃ H',cK (.func (.func 71) [] []) [.agg (aK t x),.agg (aK u y)] H=some (.bool (decide (t=u)),H')/\Out [] H H':=by
 have b1:=tT t x H
 have o1:=aN H (aK t x) 99 0
 have c1:=bD H (aK t x) 99 0
 have n1:(al H (aK t x) 99 0).next=H.next+1:=rfl
 generalize al H (aK t x) 99 0=H1 at *
 have b2:=tT u y H1
 have o2:=aN H1 (aK u y) 99 0
 have c2:=bD H1 (aK u y) 99 0
 rw[n1] at b2 c2
 have c1':=c1.out o2 (by simp)
 have bU:=o1.trans o2
 generalize al H1 (aK u y) 99 0=H2 at *
 obtain⟨e0,e1,e2,e3,e4,e5⟩:=sA t x
 obtain⟨g0,g1,g2,g3,g4,g5⟩:=sA u y
 have k0:=c1'.cellAt e0
 have k1:=c1'.cellAt e1
 have k2:=c1'.cellAt e2
 have k3:=c1'.cellAt e3
 have k4:=c1'.cellAt e4
 have k5:=c1'.cellAt e5
 have m0:=c2.cellAt g0
 have m1:=c2.cellAt g1
 have m2:=c2.cellAt g2
 have m3:=c2.cellAt g3
 have m4:=c2.cellAt g4
 have m5:=c2.cellAt g5
 have he:=akB (hx.aw bU) (hy.aw bU) (by omega)
 refine⟨H2,afy ?_,bU⟩
 unfold O9
 have no:∀ (P:Tk->Prop),P t->¬P u->decide (t=u)=false:=fun P h1 h2=>decide_eq_false fun e=>h2 (e▸h1)
 by_cases d1:t.after=u.after
 ·rw[decide_eq_true d1] at he
  by_cases d2:t.name=u.name
  ·have f2:(t.name==u.name)=true:=by simp[d2]
   by_cases d3:t.dG=u.dG
   ·have f3:(t.dG==u.dG)=true:=by simp[d3]
    by_cases d4:t.wait=u.wait
    ·have f4:(t.wait==u.wait)=true:=by simp[d4]
     by_cases d5:t.base=u.base
     ·have f5:(t.base==u.base)=true:=by simp[d5]
      have f6:(t.on==u.on)=decide (t=u):=by
       obtain⟨a,b,c,d,e,f⟩:=t
       obtain⟨a',b',c',d',e',f'⟩:=u
       simp only at d1 d2 d3 d4 d5
       subst d1 d2 d3 d4 d5
       rw[aii];simp
      simp(disch:=(first|assumption|omega|(simp only[ag,af,simprocAttr]<;>fail)|(simp only[af];omega)|(simp only[ag,af,simprocAttr, *]<;>fail)|fail))only[b1,b2,k0,k1,k2,k3,k4,k5,m0,m1,m2,m3,m4,m5,he,f2,f3,f4,f5,f6,au,ar,aj,ai,simprocAttr]
     ·have f5:(t.base==u.base)=false:=by simp[d5]
      rw[no (fun z=>z.base=t.base) rfl fun e=>d5 e.symm]
      simp(disch:=(first|assumption|omega|(simp only[ag,af,simprocAttr]<;>fail)|(simp only[af];omega)|(simp only[ag,af,simprocAttr, *]<;>fail)|fail))only[b1,b2,k0,k1,k2,k3,k4,k5,m0,m1,m2,m3,m4,m5,he,f2,f3,f4,f5,au,ar,aj,ai,simprocAttr]
    ·have f4:(t.wait==u.wait)=false:=by simp[d4]
     rw[no (fun z=>z.wait=t.wait) rfl fun e=>d4 e.symm]
     simp(disch:=(first|assumption|omega|(simp only[ag,af,simprocAttr]<;>fail)|(simp only[af];omega)|(simp only[ag,af,simprocAttr, *]<;>fail)|fail))only[b1,b2,k0,k1,k2,k3,k4,k5,m0,m1,m2,m3,m4,m5,he,f2,f3,f4,au,ar,aj,ai,simprocAttr]
   ·have f3:(t.dG==u.dG)=false:=by simp[d3]
    rw[no (fun z=>z.dG=t.dG) rfl fun e=>d3 e.symm]
    simp(disch:=(first|assumption|omega|(simp only[ag,af,simprocAttr]<;>fail)|(simp only[af];omega)|(simp only[ag,af,simprocAttr, *]<;>fail)|fail))only[b1,b2,k0,k1,k2,k3,k4,k5,m0,m1,m2,m3,m4,m5,he,f2,f3,au,ar,aj,ai,simprocAttr]
  ·have f2:(t.name==u.name)=false:=by simp[d2]
   rw[no (fun z=>z.name=t.name) rfl fun e=>d2 e.symm]
   simp(disch:=(first|assumption|omega|(simp only[ag,af,simprocAttr]<;>fail)|(simp only[af];omega)|(simp only[ag,af,simprocAttr, *]<;>fail)|fail))only[b1,b2,k0,k1,k2,k3,k4,k5,m0,m1,m2,m3,m4,m5,he,f2,au,ar,aj,ai,simprocAttr]
 ·rw[decide_eq_false d1] at he
  rw[no (fun z=>z.after=t.after) rfl fun e=>d1 e.symm]
  simp(disch:=(first|assumption|omega|(simp only[ag,af,simprocAttr]<;>fail)|(simp only[af];omega)|(simp only[ag,af,simprocAttr, *]<;>fail)|fail))only[b1,b2,k0,k1,k2,k3,k4,k5,m0,m1,m2,m3,m4,m5,he,au,ar,aj,ai,simprocAttr]
theorem eqfnG_loop {ts us:List Tk} {dx dy:AV} {xs ys:List AV} (hn:ts.length<=16777216) (eJ:ts.length=us.length) (dq:∀ t∈ts,t.after.length<=16777216):∀ (r:List Tk) (i:Nat) (H:Hp),i<=ts.length->ts.drop i=r->RD H dx xs ts->RD H dy ys us->
  ∃ H',(∀ aR:K.Fn 0,HA JN GO cK aR dy (.func (.func 71) [] []) dx (.int .i64 (ts.length:Nat)) (.int .i64 (i:Nat)) H=if r=us.drop i then aR H' else some (.bool false,H'))/\Out [] H H'
 | [],i,H,hi,h,hX,hY=>by
  obtain rfl:=drop_nil hi h
  have:us.drop ts.length=[]:=afX (by omega)
  refine⟨H,fun aR => ?_,Out.refl _ _⟩
  rw[O5]
  simp only[bl_slices_EqualFunc___def_Task___def_Task_def_Task_def_Task_,fw,this,if_true,aj,ai,simprocAttr]
 | t::r,i,H,hi,h,hX,hY=>by
  obtain⟨h1,h2,h3⟩:=fC h
  have es:=fF h1 (by omega)
  obtain⟨u,hu⟩:∃ b,us[i]? = some b:=⟨_,aaM (by omega)⟩
  obtain⟨x,b,o,q0,q1,q2,q3,q4,q5,q6⟩:=hX.at h2
  have s1:=wG t x q1 H
  have o1:=aN H (aK t x) 99 0
  have c1:=bD H (aK t x) 99 0
  have n1:(al H (aK t x) 99 0).next=H.next+1:=rfl
  generalize gf:al H (aK t x) 99 0=H1 at *
  obtain⟨y,b',o',p0,p1,p2,p3,p4,p5,p6⟩:=(hY.aw o1).at hu
  have s2:=wG u y p1 H1
  have o2:=aN H1 (aK u y) 99 0
  have c2:=bD H1 (aK u y) 99 0
  rw[n1] at s2 c2
  have bU:=o1.trans o2
  have c1':=c1.out o2 (by simp)
  generalize c8:al H1 (aK u y) 99 0=H2 at *
  have k1:av H2 H.next 0 6=some (aK t x):=c1'.av 6 0 (by rw[uf];omega)
  have k2:av H2 (H.next+1) 0 6=some (aK u y):=c2.av 6 0 (by rw[uf];omega)
  obtain⟨H3,f1,f2⟩:=same1G_c (dq t (aa2 h2)) (q2.aw bU) (p2.aw o2)
  have o3:=bU.trans f2
  rw[drop_at hu]
  by_cases hb:t=u
  ·obtain⟨H',i1,i2⟩:=eqfnG_loop hn eJ dq r (i+1) H3 h1 h3 (hX.aw o3) (hY.aw o3)
   generalize us.drop (i+1)=s at i1
   rw[decide_eq_true hb] at f1
   refine⟨H',fun aR => ?_,o3.trans i2⟩
   have e:(if t::r=u::s then aR H' else some (.bool false,H'))=if r=s then aR H' else some (AV.bool false,H'):=by simp[hb]
   rw[e,O5]
   simp(disch:=(first|assumption|omega|(simp only[ag,af,simprocAttr]<;>fail)|(simp only[af];omega)|(simp only[ag,af,simprocAttr, *]<;>fail)|fail))only[bl_slices_EqualFunc___def_Task___def_Task_def_Task_def_Task_,bN h1,q3,q5,s1,p3,p5,n1,s2,k1,k2,f1,es,i1,au,ar,aj,ai,simprocAttr]
  ·rw[decide_eq_false hb] at f1
   refine⟨H3,fun aR => ?_,o3⟩
   have e:(if t::r=u::us.drop (i+1) then aR H3 else some (.bool false,H3))=some (AV.bool false,H3):=by simp[hb]
   rw[e,O5]
   simp(disch:=(first|assumption|omega|(simp only[ag,af,simprocAttr]<;>fail)|(simp only[af];omega)|(simp only[ag,af,simprocAttr, *]<;>fail)|fail))only[bl_slices_EqualFunc___def_Task___def_Task_def_Task_def_Task_,bN h1,q3,q5,s1,p3,p5,n1,s2,k1,k2,f1,au,ar,aj,ai,simprocAttr]
theorem eqfnG_c {ts us:List Tk} {dx dy:AV} {xs ys:List AV} {H:Hp} (hn:ts.length<=16777216) (dq:∀ t∈ts,t.after.length<=16777216) (hX:RD H dx xs ts) (hY:RD H dy ys us) :
  ∃ H',cK (.func (.func 75) [] []) [dx,dy,.func (.func 71) [] []] H=some (.bool (decide (ts=us)),H')/\Out [] H H':=by
 have lx:=hX.aV
 have ly:=hY.aV
 by_cases eJ:ts.length=us.length
 ·obtain⟨H',i1,i2⟩:=eqfnG_loop hn eJ dq ts 0 H (ab2 _) abJ hX hY
  rw[show (((0:Nat):Int))=0 from rfl] at i1
  have aH:(((ts.length:Nat):Int) != ((us.length:Nat):Int))=false:=by simp[eJ]
  refine⟨H',ZO ?_,i2⟩
  unfold Ib
  simp(disch:=(first|assumption|omega|(simp only[ag,af,simprocAttr]<;>fail)|(simp only[af];omega)|(simp only[ag,af,simprocAttr, *]<;>fail)|fail))only[lx,ly,aH,i1,abJ,au,ar,aj,ai,simprocAttr]
  by_cases hb:ts=us<;>simp[hb]
 ·have aH:(((ts.length:Nat):Int) != ((us.length:Nat):Int))=true:=by simp;omega
  have hb:ts≠us:=fun e=>eJ (by rw[e])
  refine⟨H,ZO ?_,Out.refl _ _⟩
  unfold Ib
  simp only[lx,ly,aH,hb,decide_false,aj,ai,simprocAttr]
def sameR (R S:Rn):Bool:=(R.st==S.st)&&(decide (R.rs=S.rs)&&(decide (R.sg=S.sg)&&decide (R.ts=S.ts)))
theorem sameG_c {H:Hp} {dx tx sx dy ty sy:AV} {xs ys:List AV} {R S:Rn} (hr:R.rs.length<=16777216) (hg:R.sg.length<=16777216) (hn:R.ts.length<=16777216) (ha:∀ t∈R.ts,t.after.length<=16777216) (hX:RV H dx xs tx sx R) (hY:RV H dy ys ty sy S) :
  ∃ H',cK (.func (.func 36) [] []) [.agg (rv dx R.st tx sx),.agg (rv dy S.st ty sy)] H=some (.bool (sameR R S),H')/\Out [] H H':=by
 have b1:bx 75 (.agg (rv dx R.st tx sx)) H=some (H.next,al H (rv dx R.st tx sx) 75 0):=iE (by simp)
 have o1:=aN H (rv dx R.st tx sx) 75 0
 have c1:=bD H (rv dx R.st tx sx) 75 0
 have n1:(al H (rv dx R.st tx sx) 75 0).next=H.next+1:=rfl
 generalize al H (rv dx R.st tx sx) 75 0=H1 at *
 have b2:bx 75 (.agg (rv dy S.st ty sy)) H1=some (H.next+1,al H1 (rv dy S.st ty sy) 75 0):=by rw[<-n1];exact iE (by simp)
 have o2:=aN H1 (rv dy S.st ty sy) 75 0
 have c2:=bD H1 (rv dy S.st ty sy) 75 0
 rw[n1] at c2
 have c1':=c1.out o2 (by simp)
 have bU:=o1.trans o2
 generalize c8:al H1 (rv dy S.st ty sy) 75 0=H2 at *
 have k0:cellAt H2 H.next 0=some dx:=c1'.cellAt rfl
 have k1:cellAt H2 H.next 1=some (.int .i64 R.st):=c1'.cellAt rfl
 have k2:cellAt H2 H.next 2=some tx:=c1'.cellAt rfl
 have k3:cellAt H2 H.next 3=some sx:=c1'.cellAt rfl
 have m0:cellAt H2 (H.next+1) 0=some dy:=c2.cellAt rfl
 have m1:cellAt H2 (H.next+1) 1=some (.int .i64 S.st):=c2.cellAt rfl
 have m2:cellAt H2 (H.next+1) 2=some ty:=c2.cellAt rfl
 have m3:cellAt H2 (H.next+1) 3=some sy:=c2.cellAt rfl
 have e1:=eqrtG_c hr (hX.t.aw bU) (hY.t.aw bU)
 have e2:=alG (hX.s.aw bU) (hY.s.aw bU) hg
 obtain⟨H3,e3,o3⟩:=eqfnG_c hn ha (hX.d.aw bU) (hY.d.aw bU)
 unfold sameR
 cases d0:(R.st==S.st) with
 | false=>
  refine⟨H2,Ik ?_,bU⟩
  unfold C9
  simp(disch:=(first|assumption|omega|(simp only[ag,af,simprocAttr]<;>fail)|(simp only[af];omega)|(simp only[ag,af,simprocAttr, *]<;>fail)|fail))only[b1,n1,c8,k0,k1,k2,k3,m0,m1,m2,m3,d0,ac5,au,ar,aj,ai,simprocAttr]
 | true=>
  cases d1:decide (R.rs=S.rs) with
  | false=>
   rw[d1] at e1
   refine⟨H2,Ik ?_,bU⟩
   unfold C9
   simp(disch:=(first|assumption|omega|(simp only[ag,af,simprocAttr]<;>fail)|(simp only[af];omega)|(simp only[ag,af,simprocAttr, *]<;>fail)|fail))only[b1,n1,c8,k0,k1,k2,k3,m0,m1,m2,m3,d0,e1,ac5,ac2,au,ar,aj,ai,simprocAttr]
  | true=>
   rw[d1] at e1
   cases d2:decide (R.sg=S.sg) with
   | false=>
    rw[d2] at e2
    refine⟨H2,Ik ?_,bU⟩
    unfold C9
    simp(disch:=(first|assumption|omega|(simp only[ag,af,simprocAttr]<;>fail)|(simp only[af];omega)|(simp only[ag,af,simprocAttr, *]<;>fail)|fail))only[b1,n1,c8,k0,k1,k2,k3,m0,m1,m2,m3,d0,e1,e2,ac5,ac2,au,ar,aj,ai,simprocAttr]
   | true=>
    rw[d2] at e2
    refine⟨H3,Ik ?_,bU.trans o3⟩
    unfold C9
    simp(disch:=(first|assumption|omega|(simp only[ag,af,simprocAttr]<;>fail)|(simp only[af];omega)|(simp only[ag,af,simprocAttr, *]<;>fail)|fail))only[b1,n1,c8,k0,k1,k2,k3,m0,m1,m2,m3,d0,e1,e2,e3,ac2,au,ar,aj,ai,simprocAttr]
def allP {α:Type} (p:α->α->Bool):List α->List α->Bool
 | [],_=>true
 | _::_,[]=>true
 | a::l,b::m=>p a b&&allP p l m
theorem allP_refl {α:Type} {p:α->α->Bool}:∀ {l:List α},(∀ a∈l,p a a=true)->allP p l l=true
 | [],_=>rfl
 | a::l,h=>by
  show (p a a&&allP p l l)=true
  rw[h a (.head _),allP_refl fun b hb=>h b (.tail _ hb)];rfl
theorem eqfs_loop {fv x y:AV} {l m:List aq} {p:aq->aq->Bool} {H0:Hp} (hn:l.length<=16777216) (eJ:l.length=m.length) (hx:Rw H0 1 x (strs l)) (hy:Rw H0 1 y (strs m))
  (hp:∀ H s t,Out [] H0 H->∃ H',cK fv [.str s,.str t] H=some (.bool (p s t),H')/\Out [] H H'):∀ (r:List aq) (i:Nat) (H:Hp),i<=l.length->l.drop i=r->Out [] H0 H->
  ∃ H',(∀ aR:K.Fn 0,FM JN GO cK aR y fv x (.int .i64 (l.length:Nat)) (.int .i64 (i:Nat)) H=if allP p r (m.drop i)=true then aR H' else some (.bool false,H'))/\Out [] H0 H'
 | [],i,H,hi,h,hO=>by
  obtain rfl:=drop_nil hi h
  refine⟨H,fun aR => ?_,hO⟩
  rw[Oe]
  simp only[bl_slices_EqualFunc___string___string_string_string_,fw,allP,if_true,aj,ai,simprocAttr]
 | s::r,i,H,hi,h,hO=>by
  obtain⟨h1,h2,h3⟩:=fC h
  have es:=fF h1 (by omega)
  obtain⟨t,ht⟩:∃ b,m[i]? = some b:=⟨_,aaM (by omega)⟩
  obtain⟨q,q1,q2⟩:=(hx.aw hO).jy (tB h2) .i64
  obtain⟨u,u1,u2⟩:=(hy.aw hO).jy (tB ht) .i64
  obtain⟨H1,f1,f2⟩:=hp H s t hO
  have qH:=hO.trans f2
  rw[drop_at ht]
  cases hb:p s t with
  | true=>
   obtain⟨H',i1,i2⟩:=eqfs_loop hn eJ hx hy hp r (i+1) H1 h1 h3 qH
   generalize m.drop (i+1)=z at i1
   rw[hb] at f1
   refine⟨H',fun aR => ?_,i2⟩
   have e:allP p (s::r) (t::z)=allP p r z:=by show (p s t&&_)=_;rw[hb];rfl
   rw[e,Oe]
   simp(disch:=(first|assumption|omega|(simp only[ag,af,simprocAttr]<;>fail)|(simp only[af];omega)|(simp only[ag,af,simprocAttr, *]<;>fail)|fail))only[bl_slices_EqualFunc___string___string_string_string_,bN h1,q1,q2,u1,u2,f1,es,i1,au,ar,aj,ai,simprocAttr]
  | false=>
   rw[hb] at f1
   refine⟨H1,fun aR => ?_,qH⟩
   have e:allP p (s::r) (t::m.drop (i+1))=false:=by show (p s t&&_)=_;rw[hb];rfl
   rw[e,Oe]
   simp(disch:=(first|assumption|omega|(simp only[ag,af,simprocAttr]<;>fail)|(simp only[af];omega)|(simp only[ag,af,simprocAttr, *]<;>fail)|fail))only[bl_slices_EqualFunc___string___string_string_string_,bN h1,q1,q2,u1,u2,f1,if_neg,abD,not_false_eq_true,if_false,au,ar,aj,ai,simprocAttr]
def eqL {α:Type} (p:α->α->Bool) (l m:List α):Bool:=decide (l.length=m.length)&&allP p l m
theorem eqL_refl {α:Type} {p:α->α->Bool} {l:List α} (h:∀ a∈l,p a a=true):eqL p l l=true:=by
 unfold eqL;rw[allP_refl h,decide_eq_true rfl];rfl
theorem rw_lens {H:Hp} {x:AV} {l:List aq} (h:Rw H 1 x (strs l)):aV x=some (.int .i64 (l.length:Nat)):=by
 have:=h.kC;rwa[iP] at this
theorem eqfs_c {fv x y:AV} {l m:List aq} {p:aq->aq->Bool} {H:Hp} (hn:l.length<=16777216) (hx:Rw H 1 x (strs l)) (hy:Rw H 1 y (strs m))
  (hp:∀ H1 s t,Out [] H H1->∃ H',cK fv [.str s,.str t] H1=some (.bool (p s t),H')/\Out [] H1 H') :
  ∃ H',cK (.func (.func 37) [] []) [x,y,fv] H=some (.bool (eqL p l m),H')/\Out [] H H':=by
 have lx:=rw_lens hx
 have ly:=rw_lens hy
 unfold eqL
 by_cases eJ:l.length=m.length
 ·obtain⟨H',i1,i2⟩:=eqfs_loop hn eJ hx hy hp l 0 H (ab2 _) abJ (Out.refl _ _)
  rw[show (((0:Nat):Int))=0 from rfl] at i1
  have aH:(((l.length:Nat):Int) != ((m.length:Nat):Int))=false:=by simp[eJ]
  refine⟨H',WJ ?_,i2⟩
  unfold OY
  rw[decide_eq_true eJ,ac2]
  simp(disch:=(first|assumption|omega|(simp only[ag,af,simprocAttr]<;>fail)|(simp only[af];omega)|(simp only[ag,af,simprocAttr, *]<;>fail)|fail))only[lx,ly,aH,i1,abJ,au,ar,aj,ai,simprocAttr]
  cases hb:allP p l m<;>simp
 ·have aH:(((l.length:Nat):Int) != ((m.length:Nat):Int))=true:=by simp;omega
  refine⟨H,WJ ?_,Out.refl _ _⟩
  unfold OY
  simp only[lx,ly,aH,eJ,decide_false,ac5,aj,ai,simprocAttr]
structure Szr (R:Rn):Prop where
 a:R.rs.length<=16777216
 b:R.sg.length<=16777216
 c:R.ts.length<=16777216
 d:∀ t∈R.ts,t.after.length<=16777216
def sameO (x y:Rn × aq):Bool:=(x.2==y.2)&&sameR x.1 y.1
theorem same2_c {H:Hp} {r r':RA} {x x':Rn × aq} (hz:Szr x.1) (hX:RV H r.dx r.xs r.tx r.sx x.1) (hY:RV H r'.dx r'.xs r'.tx r'.sx x'.1) :
  ∃ H',cK (.func (.func 35) [] []) [.agg (cw r x),.agg (cw r' x')] H=some (.bool (sameO x x'),H')/\Out [] H H':=by
 have b1:bx 77 (.agg (cw r x)) H=some (H.next,al H (cw r x) 77 0):=iE (by simp[cw])
 have o1:=aN H (cw r x) 77 0
 have c1:=bD H (cw r x) 77 0
 have n1:(al H (cw r x) 77 0).next=H.next+1:=rfl
 generalize al H (cw r x) 77 0=H1 at *
 have b2:bx 77 (.agg (cw r' x')) H1=some (H.next+1,al H1 (cw r' x') 77 0):=by rw[<-n1];exact iE (by simp[cw])
 have o2:=aN H1 (cw r' x') 77 0
 have c2:=bD H1 (cw r' x') 77 0
 rw[n1] at c2
 have c1':=c1.out o2 (by simp)
 have bU:=o1.trans o2
 generalize c8:al H1 (cw r' x') 77 0=H2 at *
 have k4:cellAt H2 H.next 4=some (.str x.2):=c1'.cellAt rfl
 have m4:cellAt H2 (H.next+1) 4=some (.str x'.2):=c2.cellAt rfl
 have k0:av H2 H.next 0 4=some (rv r.dx x.1.st r.tx r.sx):=c1'.av 4 0 (by simp[cw])
 have m0:av H2 (H.next+1) 0 4=some (rv r'.dx x'.1.st r'.tx r'.sx):=c2.av 4 0 (by simp[cw])
 obtain⟨H3,e3,o3⟩:=sameG_c hz.a hz.b hz.c hz.d (hX.aw bU) (hY.aw bU)
 unfold sameO
 cases d0:(x.2==x'.2) with
 | false=>
  refine⟨H2,Yi ?_,bU⟩
  unfold MP
  simp(disch:=(first|assumption|omega|(simp only[ag,af,simprocAttr]<;>fail)|(simp only[af];omega)|(simp only[ag,af,simprocAttr, *]<;>fail)|fail))only[b1,n1,b2,k4,m4,k0,m0,d0,ac5,au,ar,aj,ai,simprocAttr]
 | true=>
  refine⟨H3,Yi ?_,bU.trans o3⟩
  unfold MP
  simp(disch:=(first|assumption|omega|(simp only[ag,af,simprocAttr]<;>fail)|(simp only[af];omega)|(simp only[ag,af,simprocAttr, *]<;>fail)|fail))only[b1,n1,b2,k4,m4,k0,m0,d0,e3,ac2,au,ar,aj,ai,simprocAttr]
theorem row_len (r:RA) (x:Rn × aq):(cw r x).length=5:=rfl
theorem st_row {r:RA} {x:Rn × aq} (hv:(cw r x).all bq=true) (H:Hp):st 5 (.ptr H.next 0) (.agg (cw r x)) (al H [.ah,(.int .i64 0),.ah,.ah,(.str [])] 77 0)=some (al H (cw r x) 77 0):=kq hv rfl rfl (by decide) rfl
theorem FL.one {H:Hp} {p:Nat} {a:FA} {f:Fm} (h:FL H p a f) {i:Nat} {r:RA} {x:Rn × aq} (hr:a.bG[i]? = some r) (hx:f.aA[i]? = some x):(cw r x).all bq=true:=h.r.one _ (aa2 (Lx hr hx))
theorem eqfo_loop {p q:Nat} {a b:FA} {f g:Fm} {H0:Hp} (hn:f.aA.length<=16777216) (eJ:f.aA.length=g.aA.length) (hF:FL H0 p a f) (hG:FL H0 q b g) (hz:∀ x∈f.aA,Szr x.1):∀ (r:List (Rn × aq)) (i:Nat) (H:Hp),i<=f.aA.length->f.aA.drop i=r->Out [] H0 H->
  ∃ H',(∀ aR:K.Fn 0,Ht JN GO cK aR b.rx (.func (.func 35) [] []) a.rx (.int .i64 (f.aA.length:Nat)) (.int .i64 (i:Nat)) H=if allP sameO r (g.aA.drop i)=true then aR H' else some (.bool false,H'))/\Out [] H0 H'
 | [],i,H,hi,h,hO=>by
  obtain rfl:=drop_nil hi h
  refine⟨H,fun aR => ?_,hO⟩
  rw[Lv]
  simp only[bl_slices_EqualFunc___flow_one___flow_one_flow_one_flow_one_,fw,allP,if_true,aj,ai,simprocAttr]
 | x::r,i,H,hi,h,hO=>by
  obtain⟨h1,h2,h3⟩:=fC h
  have es:=fF h1 (by omega)
  obtain⟨y,hy⟩:∃ b,g.aA[i]? = some b:=⟨_,aaM (by omega)⟩
  obtain⟨ra,m,o,q1,q2,q3,q4,q5,q6,q7⟩:=(hF.aw hO).at h2
  have s1:=st_row ((hF.aw hO).one q1 h2) H
  have o1:=aN H (cw ra x) 77 0
  have c1:=bD H (cw ra x) 77 0
  have n1:(al H (cw ra x) 77 0).next=H.next+1:=rfl
  generalize gf:al H (cw ra x) 77 0=H1 at *
  obtain⟨rb,m',o',p1,p2,p3,p4,p5,p6,p7⟩:=(hG.aw (hO.trans o1)).at hy
  have s2:=st_row ((hG.aw (hO.trans o1)).one p1 hy) H1
  have o2:=aN H1 (cw rb y) 77 0
  have c2:=bD H1 (cw rb y) 77 0
  rw[n1] at s2 c2
  have bU:=o1.trans o2
  have c1':=c1.out o2 (by simp)
  generalize c8:al H1 (cw rb y) 77 0=H2 at *
  have k1:av H2 H.next 0 5=some (cw ra x):=c1'.av 5 0 (by rw[row_len];omega)
  have k2:av H2 (H.next+1) 0 5=some (cw rb y):=c2.av 5 0 (by rw[row_len];omega)
  obtain⟨H3,f1,f2⟩:=same2_c (hz x (aa2 h2)) (q7.aw bU) (p7.aw o2)
  have o3:=bU.trans f2
  rw[drop_at hy]
  cases hb:sameO x y with
  | true=>
   obtain⟨H',i1,i2⟩:=eqfo_loop hn eJ hF hG hz r (i+1) H3 h1 h3 (hO.trans o3)
   generalize g.aA.drop (i+1)=z at i1
   rw[hb] at f1
   refine⟨H',fun aR => ?_,i2⟩
   have e:allP sameO (x::r) (y::z)=allP sameO r z:=by show (sameO x y&&_)=_;rw[hb];rfl
   rw[e,Lv]
   simp(disch:=(first|assumption|omega|(simp only[ag,af,simprocAttr]<;>fail)|(simp only[af];omega)|(simp only[ag,af,simprocAttr, *]<;>fail)|fail))only[bl_slices_EqualFunc___flow_one___flow_one_flow_one_flow_one_,bN h1,q2,q6,s1,p2,p6,n1,s2,k1,k2,f1,es,i1,au,ar,aj,ai,simprocAttr]
  | false=>
   rw[hb] at f1
   refine⟨H3,fun aR => ?_,hO.trans o3⟩
   have e:allP sameO (x::r) (y::g.aA.drop (i+1))=false:=by show (sameO x y&&_)=_;rw[hb];rfl
   rw[e,Lv]
   simp(disch:=(first|assumption|omega|(simp only[ag,af,simprocAttr]<;>fail)|(simp only[af];omega)|(simp only[ag,af,simprocAttr, *]<;>fail)|fail))only[bl_slices_EqualFunc___flow_one___flow_one_flow_one_flow_one_,bN h1,q2,q6,s1,p2,p6,n1,s2,k1,k2,f1,abD,if_false,au,ar,aj,ai,simprocAttr]
theorem eqfo_c {p q:Nat} {a b:FA} {f g:Fm} {H:Hp} (hn:f.aA.length<=16777216) (hF:FL H p a f) (hG:FL H q b g) (hz:∀ x∈f.aA,Szr x.1) :
  ∃ H',cK (.func (.func 38) [] []) [a.rx,b.rx,.func (.func 35) [] []] H=some (.bool (eqL sameO f.aA g.aA),H')/\Out [] H H':=by
 have lx:=hF.r.rl.len (by decide)
 have ly:=hG.r.rl.len (by decide)
 rw[aeP,hF.len,Nat.min_self] at lx
 rw[aeP,hG.len,Nat.min_self] at ly
 unfold eqL
 by_cases eJ:f.aA.length=g.aA.length
 ·obtain⟨H',i1,i2⟩:=eqfo_loop hn eJ hF hG hz f.aA 0 H (ab2 _) abJ (Out.refl _ _)
  rw[show (((0:Nat):Int))=0 from rfl] at i1
  have aH:(((f.aA.length:Nat):Int) != ((g.aA.length:Nat):Int))=false:=by simp[eJ]
  refine⟨H',SY ?_,i2⟩
  unfold Kr
  rw[decide_eq_true eJ,ac2]
  simp(disch:=(first|assumption|omega|(simp only[ag,af,simprocAttr]<;>fail)|(simp only[af];omega)|(simp only[ag,af,simprocAttr, *]<;>fail)|fail))only[lx,ly,aH,i1,abJ,au,ar,aj,ai,simprocAttr]
  cases hb:allP sameO f.aA g.aA<;>simp
 ·have aH:(((f.aA.length:Nat):Int) != ((g.aA.length:Nat):Int))=true:=by simp;omega
  refine⟨H,SY ?_,Out.refl _ _⟩
  unfold Kr
  simp only[lx,ly,aH,eJ,decide_false,ac5,aj,ai,simprocAttr]
theorem eqA_ke (a b a' b':aq) (c c':Int) (H:Hp):dZ P 50 82 (.agg [.str a,.str b,.int .i64 c]) (.agg [.str a',.str b',.int .i64 c']) H=pZ (fun z:Option Bool=>z) [pZ (fun z:Bool=>some z) [a==a',b==b'],some (c==c')]:=by kernel_rfl
theorem eqG_ke:Program.eqGuardType P P.depth 82=false:=by kernel_rfl
theorem ne_ke (x y:Ke) (H:Hp):gA P .neq 82 false (.agg (gm x)) (.agg (gm y))=true/\eS P .neq 82 (.agg (gm x)) (.agg (gm y)) H=some (.bool (!decide (x=y))):=by
 constructor
 ·show (!(Program.eqGuardType P P.depth 82))=true
  rw[eqG_ke];rfl
 ·show (dZ P 50 82 (.agg (gm x)) (.agg (gm y)) H).map (fun b=>AV.bool !b)=_
  have h:dZ P 50 82 (.agg (gm x)) (.agg (gm y)) H=_:=eqA_ke x.1.1 x.1.2 y.1.1 y.1.2 x.2 y.2 H
  rw[h]
  obtain⟨⟨a,b⟩,c⟩:=x
  obtain⟨⟨a',b'⟩,c'⟩:=y
  have e:decide ((((a,b),c):Ke)=((a',b'),c'))=((a==a')&&((b==b')&&(c==c'))):=by rw[aii];simp[and_assoc]
  rw[e]
  generalize (a==a')=x
  generalize (b==b')=y
  generalize (c==c')=z
  cases x<;>cases y<;>cases z<;>rfl
theorem kes_get {l:List Ke} {i:Nat} {x:Ke} (h:l[i]? = some x):(l.map gm)[i]? = some (gm x):=by simp[h]
theorem eqke_loop {x y:AV} {l m:List Ke} {H:Hp} (hn:l.length<=16777216) (eJ:l.length=m.length) (hx:RL H 3 x (l.map gm)) (hy:RL H 3 y (m.map gm)) (bR:K.Fn 0):∀ (r:List Ke) (i:Nat),i<=l.length->l.drop i=r->
  DV JN GO cK bR x y (.int .i64 (l.length:Nat)) (.int .i64 (i:Nat)) H=if r=m.drop i then bR H else some (.bool false,H)
 | [],i,hi,h=>by
  obtain rfl:=drop_nil hi h
  have:m.drop l.length=[]:=afX (by omega)
  rw[Zf]
  simp only[bl_slices_Equal___keys_Entry_keys_Entry_,fw,this,if_true,aj,ai,simprocAttr]
 | t::r,i,hi,h=>by
  obtain⟨h1,h2,h3⟩:=fC h
  have es:=fF h1 (by omega)
  obtain⟨u,hu⟩:∃ b,m[i]? = some b:=⟨_,aaM (by omega)⟩
  obtain⟨b,o,q1,q2,q3,q4,q5⟩:=hx.at (by decide) (kes_get h2)
  obtain⟨b',o',p1,p2,p3,p4,p5⟩:=hy.at (by decide) (kes_get hu)
  obtain⟨g1,g2⟩:=ne_ke t u H
  have ih:=eqke_loop hn eJ hx hy bR r (i+1) h1 h3
  rw[Zf,drop_at hu]
  generalize m.drop (i+1)=s at ih
  by_cases hb:t=u
  ·rw[decide_eq_true hb] at g2
   have e:(if t::r=u::s then bR H else some (.bool false,H))=if r=s then bR H else some (AV.bool false,H):=by simp[hb]
   rw[e]
   simp(disch:=(first|assumption|omega|(simp only[ag,af,simprocAttr]<;>fail)|(simp only[af];omega)|(simp only[ag,af,simprocAttr, *]<;>fail)|fail))only[bl_slices_Equal___keys_Entry_keys_Entry_,bN h1,q1,q4,p1,p4,g1,lL,g2,es,ih,au,ar,aj,ai,simprocAttr]
  ·rw[decide_eq_false hb] at g2
   have e:(if t::r=u::s then bR H else some (.bool false,H))=some (AV.bool false,H):=by simp[hb]
   rw[e]
   simp(disch:=(first|assumption|omega|(simp only[ag,af,simprocAttr]<;>fail)|(simp only[af];omega)|(simp only[ag,af,simprocAttr, *]<;>fail)|fail))only[bl_slices_Equal___keys_Entry_keys_Entry_,bN h1,q1,q4,p1,p4,g1,lL,g2,au,ar,aj,ai,simprocAttr]
theorem eqke_c {x y:AV} {l m:List Ke} {H:Hp} (hn:l.length<=16777216) (hx:RL H 3 x (l.map gm)) (hy:RL H 3 y (m.map gm)):cK (.func (.func 39) [] []) [x,y] H=some (.bool (decide (l=m)),H):=by
 have lx:=hx.len (by decide)
 have ly:=hy.len (by decide)
 rw[ac7] at lx ly
 refine ab5 ?_
 unfold Wc
 by_cases eJ:l.length=m.length
 ·have i1:=fun bR=>eqke_loop hn eJ hx hy bR l 0 (ab2 _) abJ
  rw[show (((0:Nat):Int))=0 from rfl] at i1
  have aH:(((l.length:Nat):Int) != ((m.length:Nat):Int))=false:=by simp[eJ]
  simp(disch:=(first|assumption|omega|(simp only[ag,af,simprocAttr]<;>fail)|(simp only[af];omega)|(simp only[ag,af,simprocAttr, *]<;>fail)|fail))only[lx,ly,aH,i1,abJ,au,ar,aj,ai,simprocAttr]
  by_cases hb:l=m<;>simp[hb]
 ·have aH:(((l.length:Nat):Int) != ((m.length:Nat):Int))=true:=by simp;omega
  have hb:l≠m:=fun e=>eJ (by rw[e])
  simp only[lx,ly,aH,hb,decide_false,aj,ai,simprocAttr]
def sameT (f g:Fm) (s t:aq):Bool:=(s==t)&&((jb f.gp s).getD []==(jb g.gp t).getD [])
def sameF (f g:Fm):Bool:=(f.ck==g.ck)&&(eqL (sameT f g) f.dO g.dO&&(eqL sameO f.aA g.aA&&decide (f.ks=g.ks)))
theorem sameT_c {H:Hp} {p q i j:Nat} {a b:FA} {f g:Fm} (hi:cellAt H i 0=some (.ptr p 0)) (hj:cellAt H j 0=some (.ptr q 0)) (hF:FL H p a f) (hG:FL H q b g) (s t:aq) :
  cK (.func (.func 34) [] [.ptr i 0,.ptr j 0]) [.str s,.str t] H=some (.bool (sameT f g s t),H):=by
 have k2:cellAt H p 2=some (.map a.tm):=hF.c.cellAt rfl
 have m2:cellAt H q 2=some (.map b.tm):=hG.c.cellAt rfl
 have l1:=HZ hF.t hF.pP s false
 have l2:=HZ hG.t hG.pP t false
 refine aeI ?_
 unfold S6 sameT
 cases d:(s==t) with
 | false=>simp(disch:=(first|assumption|omega|(simp only[ag,af,simprocAttr]<;>fail)|(simp only[af];omega)|(simp only[ag,af,simprocAttr, *]<;>fail)|fail))only[d,ac5,au,ar,aj,ai,simprocAttr]
 | true=>simp(disch:=(first|assumption|omega|(simp only[ag,af,simprocAttr]<;>fail)|(simp only[af];omega)|(simp only[ag,af,simprocAttr, *]<;>fail)|fail))only[d,hi,hj,k2,m2,l1,l2,cond_false,ac2,au,ar,aj,ai,simprocAttr]
structure SzF (f:Fm):Prop where
 n:f.dO.length<=1000
 r:f.aA.length<=1000
 k:f.ks.length<=1000
 z:∀ x∈f.aA,Szr x.1
theorem fsame_c {H:Hp} {p q:Nat} {a b:FA} {f g:Fm} (hF:FL H p a f) (hG:FL H q b g) (hz:SzF f) (yW:SzF g) :
  ∃ H',cK (.func (.func 15) [] []) [.ptr p 0,.ptr q 0] H=some (.bool (sameF f g),H')/\Out [] H H':=by
 have b1:bx 27 (.ptr p 0) H=some (H.next,al H [.ptr p 0] 27 0):=Fx rfl
 have o1:=aN H [.ptr p 0] 27 0
 have c1:=bD H [.ptr p 0] 27 0
 have n1:(al H [.ptr p 0] 27 0).next=H.next+1:=rfl
 generalize al H [.ptr p 0] 27 0=H1 at *
 have b2:bx 27 (.ptr q 0) H1=some (H.next+1,al H1 [.ptr q 0] 27 0):=by rw[<-n1];exact Fx rfl
 have o2:=aN H1 [.ptr q 0] 27 0
 have c2:=bD H1 [.ptr q 0] 27 0
 rw[n1] at c2
 have c1':=c1.out o2 (by simp)
 have bU:=o1.trans o2
 generalize c8:al H1 [.ptr q 0] 27 0=H2 at *
 have hF2:=hF.aw bU
 have hG2:=hG.aw bU
 have x0:cellAt H2 H.next 0=some (.ptr p 0):=c1'.cellAt rfl
 have y0:cellAt H2 (H.next+1) 0=some (.ptr q 0):=c2.cellAt rfl
 have k0:cellAt H2 p 0=some (.int .i64 f.ck):=hF2.c.cellAt rfl
 have m0:cellAt H2 q 0=some (.int .i64 g.ck):=hG2.c.cellAt rfl
 have k1:cellAt H2 p 1=some a.nx:=hF2.c.cellAt rfl
 have m1:cellAt H2 q 1=some b.nx:=hG2.c.cellAt rfl
 obtain⟨H3,e3,o3⟩:=eqfs_c (fv := .func (.func 34) [] [.ptr H.next 0,.ptr (H.next+1) 0]) (p:=sameT f g) (by have:=hz.n;omega) hF2.n.rw hG2.n.rw fun Hq s t ho=>⟨Hq,sameT_c ((c1'.out ho (by simp)).cellAt rfl) ((c2.out ho (by simp)).cellAt rfl) (hF2.aw ho) (hG2.aw ho) s t,Out.refl _ _⟩
 have hF3:=hF2.aw o3
 have wX:=hG2.aw o3
 have x3:cellAt H3 H.next 0=some (.ptr p 0):=(c1'.out o3 (by simp)).cellAt rfl
 have y3:cellAt H3 (H.next+1) 0=some (.ptr q 0):=(c2.out o3 (by simp)).cellAt rfl
 have k3:cellAt H3 p 3=some a.rx:=hF3.c.cellAt rfl
 have m3:cellAt H3 q 3=some b.rx:=wX.c.cellAt rfl
 obtain⟨H4,e4,o4⟩:=eqfo_c (by have:=hz.r;omega) hF3 wX hz.z
 have o34:=o3.trans o4
 have hF4:=hF3.aw o4
 have hG4:=wX.aw o4
 have x4:cellAt H4 H.next 0=some (.ptr p 0):=(c1'.out o34 (by simp)).cellAt rfl
 have y4:cellAt H4 (H.next+1) 0=some (.ptr q 0):=(c2.out o34 (by simp)).cellAt rfl
 have k4:cellAt H4 p 4=some (.ptr a.kp 0):=hF4.c.cellAt rfl
 have m4:cellAt H4 q 4=some (.ptr b.kp 0):=hG4.c.cellAt rfl
 have sp:∀ i,same (.ptr i 0) (.ptr i 0)=true:=fun i=>by simp[same,p9,afB]
 obtain⟨ox,H5,e5,l5,o5,r5⟩:=PW hz.k hF4.k
 have hG5:=hG4.aw o5
 have y5:cellAt H5 (H.next+1) 0=some (.ptr q 0):=(c2.out (o34.trans o5) (by simp)).cellAt rfl
 have m5:cellAt H5 q 4=some (.ptr b.kp 0):=hG5.c.cellAt rfl
 obtain⟨oy,H6,e6,l6,o6,r6⟩:=PW yW.k hG5.k
 have e7:=eqke_c (by have:=hz.k;omega) (l5.rl.aw o6) l6.rl
 have oA:=bU.trans o3
 have oB:=oA.trans o4
 unfold sameF
 cases d0:(f.ck==g.ck) with
 | false=>
  refine⟨H2,Kx ?_,bU⟩
  unfold BY
  simp(disch:=(first|assumption|omega|(simp only[ag,af,simprocAttr]<;>fail)|(simp only[af];omega)|(simp only[ag,af,simprocAttr, *]<;>fail)|fail))only[b1,n1,c8,x0,y0,k0,m0,d0,ac5,au,ar,aj,ai,simprocAttr]
 | true=>
  cases d1:eqL (sameT f g) f.dO g.dO with
  | false=>
   rw[d1] at e3
   refine⟨H3,Kx ?_,oA⟩
   unfold BY
   simp(disch:=(first|assumption|omega|(simp only[ag,af,simprocAttr]<;>fail)|(simp only[af];omega)|(simp only[ag,af,simprocAttr, *]<;>fail)|fail))only[b1,n1,c8,x0,y0,k0,m0,k1,m1,d0,e3,ac5,ac2,au,ar,aj,ai,simprocAttr]
  | true=>
   rw[d1] at e3
   cases d2:eqL sameO f.aA g.aA with
   | false=>
    rw[d2] at e4
    refine⟨H4,Kx ?_,oB⟩
    unfold BY
    simp(disch:=(first|assumption|omega|(simp only[ag,af,simprocAttr]<;>fail)|(simp only[af];omega)|(simp only[ag,af,simprocAttr, *]<;>fail)|fail))only[b1,n1,c8,x0,y0,k0,m0,k1,m1,d0,e3,x3,y3,k3,m3,e4,ac5,ac2,au,ar,aj,ai,simprocAttr]
   | true=>
    rw[d2] at e4
    refine⟨H6,Kx ?_,(oB.trans o5).trans o6⟩
    unfold BY
    simp(disch:=(first|assumption|omega|(simp only[ag,af,simprocAttr]<;>fail)|(simp only[af];omega)|(simp only[ag,af,simprocAttr, *]<;>fail)|fail))only[b1,n1,c8,x0,y0,k0,m0,k1,m1,d0,e3,x3,y3,k3,m3,e4,x4,y4,k4,m4,nH (sp q),nH (sp b.kp),e5,y5,m5,e6,e7,ac2,au,ar,aj,ai,simprocAttr]
theorem after_le {ts:List Tk} (hn:ts.length<=16) (ha:um ts):∀ t∈ts,t.after.length<=16:=fun t ht=>by
 obtain⟨i,hi⟩:=ac1 ht
 obtain⟨x1,x2⟩:=yA ha hi
 have:=Ki (n:=ts.length) (fun a h=>⟨(x1 a h).1,(x1 a h).2.1⟩) x2
 omega
def u3 (r:RT):Bool:=r.ph==3
def u3at (rs:List RT) (k:Nat):Bool:=((rs[k]?).map u3).getD false
theorem ph_u3 (rs:List RT) (a:Int):(xO rs a != 3) = !(u3at rs a.toNat):=by
 unfold xO u3at
 cases rs[a.toNat]? <;> rfl
theorem blk_congr {rs ub:List RT} (h:∀ k,u3at rs k=u3at ub k) (t:Tk):cz rs t=cz ub t:=by
 unfold cz
 refine NJ fun a _ => ?_
 rw[ph_u3,ph_u3,h]
theorem blk_mono {rs ub:List RT} (h:∀ k,u3at rs k=true->u3at ub k=true) {t:Tk} (hb:cz rs t=false):cz ub t=false:=by
 unfold cz at hb ⊢
 rw[ahh] at hb ⊢
 intro a ha
 have:=hb a ha
 rw[ph_u3] at this ⊢
 have h1:u3at rs a.toNat=true:=by simpa using this
 rw[h _ h1];simp
theorem settle_at {R:Rn} {i:Nat} {t:Tk} {r:RT} (ht:R.ts[i]? = some t) (hr:R.rs[i]? = some r):(ij R).rs[i]? = some (jW R.rs R.sg t r):=by
 unfold ij
 simp only
 rw[adE,ht,hr]
theorem settle_len {R:Rn} (h:R.rs.length=R.ts.length):(ij R).rs.length=R.rs.length:=by
 unfold ij
 simp only
 rw[aeP];omega
theorem settle_u3 {R:Rn} (h:R.rs.length=R.ts.length):(ij R).rs.map u3=R.rs.map u3:=by
 apply agM
 intro k
 rw[ada,ada]
 by_cases hk:k<R.rs.length
 ·have e1:R.rs[k]? = some R.rs[k]:=aaM hk
  have e2:R.ts[k]? = some (R.ts[k]'(by omega)):=aaM _
  rw[settle_at e2 e1,e1]
  simp only[ady]
  congr 1
  exact Nj _ _ _ _
 ·rw[afj (by rw[settle_len h];omega),afj (by omega)]
theorem u3at_map {rs ub:List RT} (h:rs.map u3=ub.map u3) (k:Nat):u3at rs k=u3at ub k:=by
 unfold u3at
 rw[<-ada,<-ada,h]
theorem cnt_map {rs ub:List RT} (h:rs.map u3=ub.map u3):rs.countP u3=ub.countP u3:=by
 have e:∀ l:List RT,l.countP u3=(l.map u3).countP id:=fun l=>by rw[List.countP_map];rfl
 rw[e,e,h]
theorem all_cnt {l:List RT}:(l.all fun r=>r.ph==3)=decide (l.countP u3=l.length):=by
 rw[aii,adn,decide_eq_true_eq,List.countP_eq_length]
 exact Iff.rfl
theorem settle_st {R:Rn}:(ij R).st=if R.rs.countP u3=R.rs.length then 1 else R.st:=by
 unfold ij
 simp only
 rw[all_cnt]
 by_cases h:R.rs.countP u3=R.rs.length
 ·rw[decide_eq_true h,if_pos rfl,if_pos h]
 ·rw[decide_eq_false h,if_neg (by simp),if_neg h]
structure Inv0 (R:Rn):Prop where
 ok:lS R
 n1:1<=R.rs.length
 n2:R.rs.length<=16
 td:∀ t∈R.ts,0<=t.dG/\t.dG<=8/\1<=t.base/\t.base<=1000
 tr:∀ (i:Nat) (t:Tk) (r:RT),R.ts[i]? = some t->R.rs[i]? = some r->0<=r.tr/\r.tr<=t.dG+1/\(r.ph=0\/r.ph=1\/r.ph=5->r.tr<=t.dG)/\(r.ph≠0->cz R.rs t=false)
def stI (R:Rn):Prop:=R.st=1 ↔ ∀ r∈R.rs,r.ph=3
structure Step (R R':Rn):Prop where
 ts:R'.ts=R.ts
 len:R'.rs.length=R.rs.length
 mono:∀ (i:Nat) (r r':RT),R.rs[i]? = some r->R'.rs[i]? = some r'->r.tr<=r'.tr/\(r.ph=3->r'=r)
 sg:R'.sg.length<=R.sg.length+1
theorem Step.refl (R:Rn):Step R R:=⟨rfl,rfl,fun i r r' h h'=>by rw[h] at h';cases h';exact⟨Int.le_refl _,fun _=>rfl⟩,by omega⟩
theorem Inv0.bd {R:Rn} (h:Inv0 R):tW R:=⟨fun t ht=>by have:=h.td t ht;omega,fun r hr=>by
 obtain⟨i,hi⟩:=ac1 hr
 have bE:=(aaK.1 hi).1
 have ht:R.ts[i]? = some (R.ts[i]'(by rw[<-h.ok.len];exact bE)):=aaM _
 have a:=h.tr i _ r ht hi
 have b:=h.td _ (aa2 ht)
 omega⟩
theorem u3_set {rs:List RT} {i:Nat} {r r1:RT} (hr:rs[i]? = some r) (h3:r.ph≠3):∀ k,u3at rs k=true->u3at (rs.set i r1) k=true:=by
 intro k hk
 by_cases e:i=k
 ·subst e
  unfold u3at at hk
  rw[hr] at hk
  have:(r.ph==3)=true:=hk
  exact absurd (by simpa using this) h3
 ·unfold u3at at hk ⊢
  rw[ahK e];exact hk
theorem set_inv {R:Rn} {i:Nat} {t:Tk} {r r1:RT} {s1:Int} (h:Inv0 R) (ht:R.ts[i]? = some t) (hr:R.rs[i]? = some r) (h3:r.ph≠3) (h0:r.ph≠0) (b1:r.tr<=r1.tr) (b2:r1.tr<=t.dG+1) (b3:r1.ph=0\/r1.ph=1\/r1.ph=5->r1.tr<=t.dG) :
  Inv0 { R with rs:=R.rs.set i r1,st:=s1 }/\Step R { R with rs:=R.rs.set i r1,st:=s1 }:=by
 have hu:=u3_set (r1:=r1) hr h3
 have bE:=(aaK.1 hr).1
 have hk:=h.ok.set i r1
 refine⟨⟨⟨⟨hk.sm.n,hk.sm.a,hk.sm.r,hk.sm.s⟩,hk.len,hk.jm⟩,by show 1<=(R.rs.set i r1).length;rw[acT];exact h.n1,by show (R.rs.set i r1).length<=16;rw[acT];exact h.n2,h.td,fun j u q iW hq => ?_⟩,rfl,acT,fun j q q' hq hq' => ?_,by show R.sg.length<=_;omega⟩
 ·have qn:(R.rs.set i r1)[j]? = some q:=hq
  have rm:R.ts[j]? = some u:=iW
  by_cases e:i=j
  ·subst e
   rw[aeS bE] at qn
   have e1:r1=q:=acy qn
   have e2:t=u:=acy (ht.symm.trans rm)
   subst e1
   subst e2
   have a:=h.tr i t r ht hr
   exact⟨by omega,b2,b3,fun _=>blk_mono hu (a.2.2.2 h0)⟩
  ·rw[ahK e] at qn
   have a:=h.tr j u q rm qn
   exact⟨a.1,a.2.1,a.2.2.1,fun z=>blk_mono hu (a.2.2.2 z)⟩
 ·have qn:(R.rs.set i r1)[j]? = some q':=hq'
  by_cases e:i=j
  ·subst e
   rw[aeS bE] at qn
   have e1:r1=q':=acy qn
   have e2:r=q:=acy (hr.symm.trans hq)
   subst e1
   subst e2
   exact⟨b1,fun z=>absurd z h3⟩
  ·rw[ahK e] at qn
   have e1:q=q':=acy (hq.symm.trans qn)
   subst e1
   exact⟨Int.le_refl _,fun _=>rfl⟩
theorem settle_inv {R:Rn} (h:Inv0 R):Inv0 (ij R)/\Step R (ij R):=by
 have hl:=h.ok.len
 have hlen:=settle_len hl
 have hb:∀ t,cz (ij R).rs t=cz R.rs t:=fun t=>blk_congr (u3at_map (settle_u3 hl)) t
 have eG:∀ (i:Nat) (r:RT),(ij R).rs[i]? = some r->∃ t r0,R.ts[i]? = some t/\R.rs[i]? = some r0/\r=jW R.rs R.sg t r0:=by
  intro i r hr
  have bE:=(aaK.1 hr).1
  rw[hlen] at bE
  have e1:R.rs[i]? = some R.rs[i]:=aaM _
  have e2:R.ts[i]? = some (R.ts[i]'(by rw[<-hl];exact bE)):=aaM _
  rw[settle_at e2 e1] at hr
  cases hr
  exact⟨_,_,e2,e1,rfl⟩
 have e1:(ij R).ts=R.ts:=rfl
 have e2:(ij R).sg=R.sg:=rfl
 refine⟨⟨⟨⟨h.ok.sm.n,h.ok.sm.a,by rw[hlen];exact h.ok.sm.r,h.ok.sm.s⟩,by rw[hlen];exact hl,h.ok.jm⟩,by rw[hlen];exact h.n1,by rw[hlen];exact h.n2,h.td,fun i t r ht hr => ?_⟩,rfl,hlen,fun i r r' hr eV => ?_,by rw[e2];omega⟩
 ·obtain⟨t',r0,k1,k2,rfl⟩:=eG i r hr
  have ht:R.ts[i]? = some t:=ht
  rw[k1] at ht
  cases ht
  have a:=h.tr i t r0 k1 k2
  rw[hb]
  unfold jW
  split
  ·rename_i hy
   unfold yx at hy
   simp only[aa9,ain,beq_iff_eq] at hy
   exact⟨a.1,a.2.1,fun _=>a.2.2.1 (.inl hy.1),fun _=>hy.2.1⟩
  ·exact a
 ·obtain⟨t',r0,k1,k2,rfl⟩:=eG i r' eV
  rw[hr] at k2
  cases k2
  unfold jW
  split
  ·rename_i hy
   unfold yx at hy
   rw[aa9,beq_iff_eq] at hy
   exact⟨Int.le_refl _,fun z=>by rw[hy.1] at z;cases z⟩
  ·exact⟨Int.le_refl _,fun _=>rfl⟩
theorem Step.trans {A B C:Rn} (h:Step A B) (k:Step B C) (hs:B.sg=A.sg\/C.sg=B.sg):Step A C:=by
 refine⟨k.ts.trans h.ts,k.len.trans h.len,fun i r r' hr eV => ?_,?_⟩
 ·have bE:=(aaK.1 hr).1
  have e:B.rs[i]? = some (B.rs[i]'(by rw[h.len];exact bE)):=aaM _
  obtain⟨a1,a2⟩:=h.mono i r _ hr e
  obtain⟨b1,b2⟩:=k.mono i _ r' e eV
  exact⟨by omega,fun z=>by rw[b2 (by rw[a2 z];exact z),a2 z]⟩
 ·have a:=h.sg
  have b:=k.sg
  rcases hs with e | e
  ·rw[e] at b;exact b
  ·rw[e];exact a
theorem stI_of {R:Rn} (h:R.rs.countP u3=R.rs.length->R.st=1) (h':R.rs.countP u3≠R.rs.length->R.st≠1):stI R:=by
 unfold stI
 constructor
 ·intro e r hr
  refine Classical.byContradiction fun q => ?_
  by_cases hc:R.rs.countP u3=R.rs.length
  ·rw[List.countP_eq_length] at hc
   have:=hc r hr
   unfold u3 at this
   exact q (by simpa using this)
  ·exact h' hc e
 ·intro e
  refine h ?_
  rw[List.countP_eq_length]
  intro r hr
  unfold u3
  rw[e r hr];rfl
theorem not_all {R:Rn} {i:Nat} {r:RT} (hr:R.rs[i]? = some r) (h3:r.ph≠3) (hs:R.st≠1):stI R:=by
 unfold stI
 exact⟨fun e=>absurd e hs,fun e=>absurd (e r (aa2 hr)) h3⟩
theorem settle_stI {R:Rn} (hl:R.rs.length=R.ts.length) (h0:R.st≠1):stI (ij R):=by
 have hc:=cnt_map (settle_u3 hl)
 have hlen:=settle_len hl
 have aD:=settle_st (R:=R)
 refine stI_of (fun e => ?_) (fun e => ?_)
 ·rw[hc,hlen] at e
  rw[aD,if_pos e]
 ·rw[hc,hlen] at e
  rw[aD,if_neg e];exact h0
def Good1 (R R':Rn) (e:Int):Prop:=e=0->Inv0 R'/\stI R'/\Step R R'
theorem lease_good {R:Rn} (h:Inv0 R) (hs:stI R) (task now:Int) (t:RT) (ht:R.rs[task.toNat]? = some t):Good1 R (oc R task (iI (t.tr+1)) now).1 (oc R task (iI (t.tr+1)) now).2:=by
 intro he
 unfold oc at he ⊢
 by_cases h0:oe R task=0
 ·obtain⟨i,u,rfl,hu,aD⟩:=HP h0
  rw[ab9] at ht
  have e0:u=t:=acy (hu.symm.trans ht)
  subst e0
  have bE:=(aaK.1 hu).1
  have hd:R.ts[i]? = some (R.ts[i]'(by rw[<-h.ok.len];exact bE)):=aaM _
  rw[if_pos h0,ab9,hu,hd] at he ⊢
  simp only at he ⊢
  by_cases h1:u.ph=1
  ·rw[if_pos h1,if_pos trivial]
   have a:=h.tr i _ u hd hu
   have b:=h.td _ (aa2 hd)
   have c:=a.2.2.1 (.inr (.inl h1))
   have ew:iI (u.tr+1)=u.tr+1:=wrap_i64 (by omega) (by omega)
   obtain⟨k1,k2⟩:=set_inv (s1:=R.st) (r1:=⟨2,iI (u.tr+1),iI (now+(R.ts[i]'(by rw[<-h.ok.len];exact bE)).wait),u.rE⟩) h hd hu (by rw[h1];decide) (by rw[h1];decide) (by show u.tr<=iI (u.tr+1);rw[ew];omega) (by show iI (u.tr+1)<=_;rw[ew];omega) (by intro z;rcases z with z | z | z<;>cases z)
   refine⟨k1,?_,k2⟩
   exact not_all (i:=i) (aeS bE) (by show (2:Int)≠3;decide) (by show R.st≠1;rw[aD];decide)
  ·rw[if_neg h1] at he;cases he
 ·rw[if_neg h0] at he;exact absurd he h0
theorem done_good {R:Rn} (h:Inv0 R) (hs:stI R) (task bH:Int) (d:aq):Good1 R (pX R task bH d).1 (pX R task bH d).2:=by
 intro he
 unfold pX at he ⊢
 by_cases h0:mN R task bH=0
 ·obtain⟨i,u,rfl,hu,aD,mC,FV⟩:=Ir h0
  have bE:=(aaK.1 hu).1
  have hd:R.ts[i]? = some (R.ts[i]'(by rw[<-h.ok.len];exact bE)):=aaM _
  rw[if_pos h0,ab9]
  have a:=h.tr i _ u hd hu
  obtain⟨k1,k2⟩:=set_inv (s1:=R.st) (r1:=⟨3,bH,0,d⟩) h hd hu (by rw[mC];decide) (by rw[mC];decide) (by show u.tr<=bH;omega) (by show bH<=_;omega) (by intro z;rcases z with z | z | z<;>cases z)
  obtain⟨m1,m2⟩:=settle_inv k1
  exact⟨m1,settle_stI k1.ok.len (by show R.st≠1;rw[aD];decide),k2.trans m2 (.inr rfl)⟩
 ·rw[if_neg h0] at he;exact absurd he h0
theorem failR_good {R:Rn} (h:Inv0 R) {i:Nat} {t:RT} {d:Tk} (hr:R.rs[i]? = some t) (hd:R.ts[i]? = some d) (aD:R.st=0) (mC:t.ph=2) (now:Int):Inv0 (mj R i t d now)/\stI (mj R i t d now)/\Step R (mj R i t d now)/\(mj R i t d now).sg=R.sg:=by
 have bE:=(aaK.1 hr).1
 have a:=h.tr i d t hd hr
 unfold mj
 split
 ·rename_i hle
  obtain⟨k1,k2⟩:=set_inv (s1:=R.st) (r1:={ t with ph:=5,jo:=iI (now+dM d.base t.tr) }) h hd hr (by rw[mC];decide) (by rw[mC];decide) (Int.le_refl _) a.2.1 (fun _=>hle)
  exact⟨k1,not_all (i:=i) (aeS bE) (by show (5:Int)≠3;decide) (by show R.st≠1;rw[aD];decide),k2,rfl⟩
 ·obtain⟨k1,k2⟩:=set_inv (s1:=2) (r1:={ t with ph:=4,jo:=0 }) h hd hr (by rw[mC];decide) (by rw[mC];decide) (Int.le_refl _) a.2.1 (by intro z;rcases z with z | z | z<;>cases z)
  exact⟨k1,not_all (i:=i) (aeS bE) (by show (4:Int)≠3;decide) (by show (2:Int)≠1;decide),k2,rfl⟩
theorem tickAt_good {R:Rn} (h:Inv0 R) (hs:stI R) (i:Nat) (now:Int):Inv0 (tickAt now R i)/\stI (tickAt now R i)/\Step R (tickAt now R i)/\(tickAt now R i).sg=R.sg:=by
 unfold tickAt
 split
 ·rename_i t d ht hd
  split
  ·exact⟨h,hs,Step.refl R,rfl⟩
  ·rename_i hn
   rw[not_or] at hn
   have aD:R.st=0:=agt.1 hn.1
   split
   ·rename_i mC
    exact failR_good h ht hd aD mC now
   ·split
    ·rename_i mC
     have bE:=(aaK.1 ht).1
     have a:=h.tr i d t hd ht
     obtain⟨k1,k2⟩:=set_inv (s1:=R.st) (r1:={ t with ph:=1,jo:=0 }) h hd ht (by rw[mC];decide) (by rw[mC];decide) (Int.le_refl _) a.2.1 (fun _=>a.2.2.1 (.inr (.inr mC)))
     exact⟨k1,not_all (i:=i) (aeS bE) (by show (1:Int)≠3;decide) (by show R.st≠1;rw[aD];decide),k2,rfl⟩
    ·exact⟨h,hs,Step.refl R,rfl⟩
 ·exact⟨h,hs,Step.refl R,rfl⟩
theorem signal_good {R:Rn} (h:Inv0 R) (hs:stI R) (name:aq) (xQ:R.sg.length<=900):Good1 R (si R name).1 (si R name).2:=by
 intro he
 unfold si at he ⊢
 by_cases h0:R.st≠0
 ·rw[if_pos h0] at he;cases he
 rw[if_neg h0] at he ⊢
 have aD:R.st=0:=agt.1 h0
 split at he
 ·cases he
 ·rename_i h5
  rw[if_neg h5]
  split at he
  ·rename_i h6
   rw[if_pos h6]
   have k1:Inv0 { R with sg:=R.sg++[name] }:=⟨⟨⟨h.ok.sm.n,h.ok.sm.a,h.ok.sm.r,by show (R.sg++[name]).length<=1000;rw[aby];simp;omega⟩,h.ok.len,h.ok.jm⟩,h.n1,h.n2,h.td,h.tr⟩
   have k2:Step R { R with sg:=R.sg++[name] }:=⟨rfl,rfl,(Step.refl R).mono,by show (R.sg++[name]).length<=_;rw[aby];simp⟩
   obtain⟨m1,m2⟩:=settle_inv k1
   exact⟨m1,settle_stI k1.ok.len (by show R.st≠1;rw[aD];decide),k2.trans m2 (.inr rfl)⟩
  ·cases he
theorem new_inv {ts:List Tk} (hg:js ts=0) (h1:1<=ts.length) (h2:ts.length<=16) (ha:um ts) (hq:∀ t∈ts,vz t=false/\tH t=false):Inv0 (cu ts).1/\stI (cu ts).1/\(cu ts).1.sg.length=0/\(cu ts).1.ts=ts/\(cu ts).2=0:=by
 unfold cu
 rw[if_pos hg]
 have dq:=after_le h2 ha
 have h0:Inv0 ⟨ts,0,List.replicate ts.length mU,[]⟩:=by
  refine⟨⟨⟨by show ts.length<=1000;omega,fun t ht=>by have:=dq t ht;omega,by show (List.replicate ts.length mU).length<=1000;rw[ad6];omega,ab2 _⟩,by show (List.replicate ts.length mU).length=ts.length;rw[ad6],fun t ht a haa => ?_⟩,by show 1<=(List.replicate ts.length mU).length;rw[ad6];exact h1,by show (List.replicate ts.length mU).length<=16;rw[ad6];exact h2,fun t ht => ?_,fun i t r ht hr => ?_⟩
  ·obtain⟨i,hi⟩:=ac1 ht
   have:=(yA ha hi).1 a haa
   exact⟨this.1,by show a<(ts.length:Int);omega⟩
  ·have:=(hq t ht).2
   unfold tH at this
   simp only[ah1,Bool.not_eq_false',aa9,decide_eq_true_eq] at this
   omega
  ·have:=aa2 hr
   have e:r=mU:=(List.mem_replicate.1 this).2
   subst e
   have ho:=(hq t (aa2 ht)).2
   unfold tH at ho
   simp only[ah1,Bool.not_eq_false',aa9,decide_eq_true_eq] at ho
   exact⟨by show (0:Int)<=0;omega,by show (0:Int)<=t.dG+1;omega,fun _=>by show (0:Int)<=t.dG;omega,fun z=>absurd rfl z⟩
 exact⟨(settle_inv h0).1,settle_stI h0.ok.len (by show (0:Int)≠1;decide),rfl,rfl,rfl⟩
structure TI (r:RT):Prop where
 ph:0<=r.ph/\r.ph<=5
 dt:r.rE.length<=64
 tl:0<=r.jo/\r.jo<=1099511691776
 tz:r.ph≠2->r.ph≠5->r.jo=0
structure RI (R:Rn):Prop where
 i0:Inv0 R
 s1:stI R
 st:0<=R.st/\R.st<=3
 ti:∀ r∈R.rs,TI r
 sn:R.sg.Nodup
 sk:∀ s∈R.sg,s≠[]/\∃ t∈R.ts,t.on=s
 wt:∀ t∈R.ts,1<=t.wait/\t.wait<=1000
theorem nodup_len:∀ (l m:List aq),l.Nodup->(∀ x∈l,x∈m)->l.length<=m.length
 | [],m,_,_=>ab2 _
 | x::l,m,hn,h=>by
  rw[agQ] at hn
  have hx:=h x (.head _)
  have ih:=nodup_len l (m.erase x) hn.2 fun y hy=>(List.mem_erase_of_ne fun q=>hn.1 (by rw[<-q];exact hy)).2 (h y (.tail _ hy))
  have:=List.length_erase_of_mem hx
  have:=List.length_pos_of_mem hx
  rw[abx];omega
theorem RI.sg {R:Rn} (h:RI R):R.sg.length<=16:=by
 have:=nodup_len R.sg (R.ts.map (·.on)) h.sn fun s hs=>by
  obtain⟨_,t,ht,rfl⟩:=h.sk s hs
  exact List.mem_map_of_mem ht
 rw[ac7,<-h.i0.ok.len] at this
 have:=h.i0.n2
 omega
theorem RI.to {R R':Rn} (h:RI R) (a:Inv0 R') (b:stI R') (ry:R'.ts=R.ts) (xQ:R'.sg=R.sg) (aD:0<=R'.st/\R'.st<=3) (hti:∀ r∈R'.rs,TI r):RI R':=
 ⟨a,b,aD,hti,by rw[xQ];exact h.sn,by rw[xQ,ry];exact h.sk,by rw[ry];exact h.wt⟩
theorem ti_set {rs:List RT} {i:Nat} {u:RT} (h:∀ r∈rs,TI r) (hu:TI u):∀ r∈rs.set i u,TI r:=fun r hr=>(mem_set hr).elim (h r) fun q=>q▸hu
theorem ti_settle {R:Rn} (h:∀ r∈R.rs,TI r):∀ r∈(ij R).rs,TI r:=by
 intro r hr
 obtain⟨i,hi⟩:=ac1 hr
 have hz:(List.zipWith (jW R.rs R.sg) R.ts R.rs)[i]? = some r:=hi
 rw[adE] at hz
 cases ht:R.ts[i]? with
 | none=>rw[ht] at hz;cases hz
 | some t=>
  cases hq:R.rs[i]? with
  | none=>rw[ht,hq] at hz;cases hz
  | some q=>
   rw[ht,hq] at hz
   have hq0:=h q (aa2 hq)
   have yW:jW R.rs R.sg t q=r:=acy hz
   subst yW
   unfold jW
   split
   ·rename_i sR
    unfold yx at sR
    rw[aa9,beq_iff_eq] at sR
    exact⟨⟨by show (0:Int)<=1;omega,by show (1:Int)<=5;omega⟩,hq0.dt,hq0.tl,fun _ _=>hq0.tz (by rw[sR.1];decide) (by rw[sR.1];decide)⟩
   ·exact hq0
theorem st_settle {R:Rn} (h:0<=R.st/\R.st<=3):0<=(ij R).st/\(ij R).st<=3:=by
 unfold ij
 simp only
 split<;>omega
theorem lease_ri {R:Rn} (h:RI R) (task bH now:Int) (h0:0<=now) (h1:now<=1099511627776) (he:(oc R task bH now).2=0):RI (oc R task bH now).1/\(oc R task bH now).1.ts=R.ts:=by
 have hm:oe R task=0:=by
  unfold oc at he
  by_cases q:oe R task=0
  ·exact q
  ·rw[if_neg q] at he;exact absurd he q
 obtain⟨i,t,rfl,ht,aD⟩:=HP hm
 have bE:=(aaK.1 ht).1
 have hd:R.ts[i]? = some (R.ts[i]'(by rw[<-h.i0.ok.len];exact bE)):=aaM _
 have FV:bH=iI (t.tr+1):=by
  unfold oc at he
  rw[if_pos hm,ab9,ht,hd] at he
  simp only at he
  by_cases q:t.ph=1
  ·rw[if_pos q] at he
   by_cases q2:bH=iI (t.tr+1)
   ·exact q2
   ·rw[if_neg q2] at he;cases he
  ·rw[if_neg q] at he;cases he
 subst FV
 obtain⟨a,b,_⟩:=lease_good h.i0 h.s1 (i:Int) now t (by rw[ab9];exact ht) he
 have hw:=h.wt _ (aa2 hd)
 have key:oc R (i:Int) (iI (t.tr+1)) now=({ R with rs:=R.rs.set i ⟨2,iI (t.tr+1),iI (now+(R.ts[i]'(by rw[<-h.i0.ok.len];exact bE)).wait),t.rE⟩ },0):=by
  unfold oc at he ⊢
  rw[if_pos hm,ab9,ht,hd] at he ⊢
  simp only at he ⊢
  by_cases q:t.ph=1
  ·rw[if_pos q,if_pos trivial]
  ·rw[if_neg q] at he;cases he
 have ry:(oc R (i:Int) (iI (t.tr+1)) now).1.ts=R.ts:=by rw[key]
 refine⟨h.to a b ry (by rw[key]) (by rw[key];exact h.st) ?_,ry⟩
 rw[key]
 refine ti_set h.ti ⟨⟨by show (0:Int)<=2;omega,by show (2:Int)<=5;omega⟩,(h.ti t (aa2 ht)).dt,?_,fun q=>absurd rfl q⟩
 show 0<=iI _/\iI _<=_
 rw[show iI (now+(R.ts[i]'(by rw[<-h.i0.ok.len];exact bE)).wait)=now+(R.ts[i]'(by rw[<-h.i0.ok.len];exact bE)).wait from wrap_i64 (by omega) (by omega)]
 omega
theorem done_ri {R:Rn} (h:RI R) (task bH:Int) (d:aq) (hd:d.length<=64) (he:(pX R task bH d).2=0):RI (pX R task bH d).1/\(pX R task bH d).1.ts=R.ts:=by
 obtain⟨a,b,_⟩:=done_good h.i0 h.s1 task bH d he
 have hm:mN R task bH=0:=by
  unfold pX at he
  by_cases q:mN R task bH=0
  ·exact q
  ·rw[if_neg q] at he;exact absurd he q
 have key:pX R task bH d=(ij { R with rs:=R.rs.set task.toNat ⟨3,bH,0,d⟩ },0):=by unfold pX;rw[if_pos hm]
 rw[key] at a b ⊢
 refine⟨h.to a b rfl rfl (st_settle h.st) (ti_settle (ti_set h.ti ⟨⟨by show (0:Int)<=3;omega,by show (3:Int)<=5;omega⟩,hd,⟨by show (0:Int)<=0;omega,by show (0:Int)<=_;omega⟩,fun _ _=>rfl⟩)),rfl⟩
theorem dM_le (b t:Int):0<=dM b t/\dM b t<=64000:=by
 unfold dM
 have h1:=ajJ b.toNat t.toNat
 omega
theorem failR_ri {R:Rn} (h:RI R) {i:Nat} {t:RT} {d:Tk} (ht:R.rs[i]? = some t) (hd:R.ts[i]? = some d) (aD:R.st=0) (mC:t.ph=2) {now:Int} (h0:0<=now) (h1:now<=1099511627776):RI (mj R i t d now)/\(mj R i t d now).ts=R.ts:=by
 obtain⟨a,b,_⟩:=failR_good h.i0 ht hd aD mC now
 have hT:=h.ti t (aa2 ht)
 have hb:=dM_le d.base t.tr
 unfold mj at a b ⊢
 by_cases hle:t.tr<=d.dG
 ·rw[if_pos hle] at a b ⊢
  refine⟨h.to a b rfl rfl h.st (ti_set h.ti ⟨⟨by show (0:Int)<=5;omega,by show (5:Int)<=5;omega⟩,hT.dt,?_,fun _ q=>absurd rfl q⟩),rfl⟩
  show 0<=iI _/\iI _<=_
  rw[show iI (now+dM d.base t.tr)=now+dM d.base t.tr from wrap_i64 (by omega) (by omega)]
  omega
 ·rw[if_neg hle] at a b ⊢
  exact⟨h.to a b rfl rfl ⟨by show (0:Int)<=2;omega,by show (2:Int)<=3;omega⟩ (ti_set h.ti ⟨⟨by show (0:Int)<=4;omega,by show (4:Int)<=5;omega⟩,hT.dt,⟨by show (0:Int)<=0;omega,by show (0:Int)<=_;omega⟩,fun _ _=>rfl⟩),rfl⟩
theorem fail_ri {R:Rn} (h:RI R) (task bH now:Int) (h0:0<=now) (h1:now<=1099511627776) (he:(uX R task bH now).2=0):RI (uX R task bH now).1/\(uX R task bH now).1.ts=R.ts:=by
 unfold uX at he ⊢
 by_cases q:mN R task bH=0
 ·obtain⟨i,u,rfl,hu,aD,mC,FV⟩:=Ir q
  have bE:=(aaK.1 hu).1
  have hd:R.ts[i]? = some (R.ts[i]'(by rw[<-h.i0.ok.len];exact bE)):=aaM _
  rw[if_pos q,ab9,hu,hd]
  exact failR_ri h hu hd aD mC h0 h1
 ·rw[if_neg q] at he;exact absurd he q
theorem tickAt_ri {R:Rn} (h:RI R) (i:Nat) {now:Int} (h0:0<=now) (h1:now<=1099511627776):RI (tickAt now R i)/\(tickAt now R i).ts=R.ts:=by
 obtain⟨a,b,_⟩:=tickAt_good h.i0 h.s1 i now
 unfold tickAt at a b ⊢
 split
 ·rename_i t d ht hd
  rw[ht,hd] at a b
  simp only at a b
  by_cases hn:R.st≠0\/now<t.jo
  ·rw[if_pos hn];exact⟨h,rfl⟩
  ·rw[if_neg hn] at a b ⊢
   rw[not_or] at hn
   by_cases hp:t.ph=2
   ·rw[if_pos hp];exact failR_ri h ht hd (agt.1 hn.1) hp h0 h1
   ·rw[if_neg hp] at a b ⊢
    by_cases h5:t.ph=5
    ·rw[if_pos h5] at a b ⊢
     exact⟨h.to a b rfl rfl h.st (ti_set h.ti ⟨⟨by show (0:Int)<=1;omega,by show (1:Int)<=5;omega⟩,(h.ti t (aa2 ht)).dt,⟨by show (0:Int)<=0;omega,by show (0:Int)<=_;omega⟩,fun _ _=>rfl⟩),rfl⟩
    ·rw[if_neg h5];exact⟨h,rfl⟩
 ·exact⟨h,rfl⟩
theorem tickN_ri {now:Int} (h0:0<=now) (h1:now<=1099511627776):∀ (m i:Nat) (R:Rn),RI R->RI (tickN now m i R)/\(tickN now m i R).ts=R.ts
 | 0,i,R,h=>⟨h,rfl⟩
 | m+1,i,R,h=>by
  obtain⟨a,b⟩:=tickAt_ri h i h0 h1
  obtain⟨c,d⟩:=tickN_ri h0 h1 m (i+1) _ a
  exact⟨c,d.trans b⟩
theorem signal_ri {R:Rn} (h:RI R) (name:aq) (he:(si R name).2=0):RI (si R name).1/\(si R name).1.ts=R.ts:=by
 obtain⟨a,b,_⟩:=signal_good h.i0 h.s1 name (by have:=h.sg;omega) he
 unfold si at he a b ⊢
 by_cases h0:R.st≠0
 ·rw[if_pos h0] at he;cases he
 rw[if_neg h0] at he a b ⊢
 by_cases h5:R.sg.any (fun s=>name==s)=true
 ·rw[if_pos h5] at he;cases he
 rw[if_neg h5] at he a b ⊢
 by_cases h6:Ew R.ts name=true
 ·rw[if_pos h6] at a b ⊢
  have hno:name∉R.sg:=fun q=>h5 (List.any_eq_true.2 ⟨name,q,by simp⟩)
  unfold Ew at h6
  rw[List.any_eq_true] at h6
  obtain⟨t,ht,hq⟩:=h6
  simp at hq
  refine⟨⟨a,b,st_settle h.st,ti_settle h.ti,?_,?_,h.wt⟩,rfl⟩
  ·show (R.sg++[name]).Nodup
   rw[aem]
   refine⟨h.sn,by simp,fun x hx y hy q => ?_⟩
   simp at hy
   subst hy;subst q
   exact hno hx
  ·intro s hs
   have ur:s∈R.sg++[name]:=hs
   rcases abP.1 ur with q | q
   ·exact h.sk s q
   ·rw[aan] at q
    subst q
    exact⟨hq.2,t,ht,hq.1⟩
 ·rw[if_neg h6] at he;cases he
theorem cancel_ri {R:Rn} (h:RI R) (he:(cancelM R).2=0):RI (cancelM R).1/\(cancelM R).1.ts=R.ts:=by
 unfold cancelM at he ⊢
 by_cases h0:R.st≠0
 ·rw[if_pos h0] at he;cases he
 rw[if_neg h0]
 have aD:R.st=0:=agt.1 h0
 refine⟨h.to ⟨⟨⟨h.i0.ok.sm.n,h.i0.ok.sm.a,h.i0.ok.sm.r,h.i0.ok.sm.s⟩,h.i0.ok.len,h.i0.ok.jm⟩,h.i0.n1,h.i0.n2,h.i0.td,h.i0.tr⟩ ⟨fun q => ?_,fun q => ?_⟩ rfl rfl ⟨by show (0:Int)<=3;omega,by show (3:Int)<=3;omega⟩ h.ti,rfl⟩
 ·have:(3:Int)=1:=q
  omega
 ·have:=h.s1.2 q
  omega
theorem new_ri {text:aq} (h:(aS text).2=0):RI (cu (aS text).1).1/\(cu (aS text).1).1.ts=(aS text).1/\(cu (aS text).1).2=0:=by
 obtain⟨g1,g2,g3,g4,g5,g6⟩:=Mg h
 obtain⟨a,b,c,d,e⟩:=new_inv g1 g2 g3 g4 g6
 have h0:TI mU:=⟨⟨by show (0:Int)<=0;omega,by show (0:Int)<=5;omega⟩,ab2 _,⟨by show (0:Int)<=0;omega,by show (0:Int)<=_;omega⟩,fun _ _=>rfl⟩
 refine⟨?_,d,e⟩
 have xQ:(cu (aS text).1).1.sg=[]:=List.length_eq_zero_iff.1 c
 refine⟨a,b,?_,?_,by rw[xQ];exact aiu,fun s hs=>by (rw[xQ] at hs;cases hs),?_⟩
 ·unfold cu
  rw[if_pos g1]
  exact st_settle ⟨by show (0:Int)<=0;omega,by show (0:Int)<=3;omega⟩
 ·unfold cu
  rw[if_pos g1]
  refine ti_settle fun r hr => ?_
  rw[(List.mem_replicate.1 hr).2];exact h0
 ·rw[d]
  intro t ht
  have:=(g6 t ht).2
  unfold tH at this
  simp only[ah1,Bool.not_eq_false',aa9,decide_eq_true_eq] at this
  omega
structure FI (f:Fm):Prop where
 run:∀ x∈f.aA,RI x.1/\∃ t,jb f.gp x.2=some t/\(aS t).1=x.1.ts
 nr:f.aA.length<=64
 nn:f.dO.length<=16
 nt:f.gp.map (·.1)=f.dO
 tx:∀ x∈f.gp,vl x.1=true/\(aS x.2).2=0/\po (aS x.2).1=x.2
 nd:f.dO.Nodup
 nk:f.ks.length<=f.aA.length
 kk:∀ x∈f.ks,1<=x.2/\x.2<=f.aA.length/\(∃ y,f.aA[(x.2-1).toNat]? = some y/\y.2=x.1.1)/\x.1.2≠[]/\x.1.2.length<=16
 kd:(f.ks.map (·.1)).Nodup
 ck:0<=f.ck/\f.ck<=1099511627776
theorem FI.ok {f:Fm} (h:FI f):Fok f:=⟨fun x hx=>⟨(h.run x hx).1.i0.ok,(h.run x hx).1.i0.bd,by have:=(h.run x hx).1.sg;omega⟩,h.nr,h.nn,by have:=h.nk;have:=h.nr;omega⟩
theorem fi0:FI tE:=⟨fun x hx=>(by cases hx),ab2 _,ab2 _,rfl,fun x hx=>(by cases hx),aiu,ab2 _,fun x hx=>(by cases hx),aiu,by show (0:Int)<=0;omega,by show (0:Int)<=_;omega⟩
theorem goodE_f {e:Ev} (h:xU e=true) {c:Nat} (hc:c∈fieldsM e.kd):rO e c=true:=by
 unfold xU at h
 rw[aa9,aa9] at h
 exact adn.1 h.2.2 c hc
theorem getT_snoc {l:List (aq × aq)} {s t u:aq} (h:jb l s=some t) (x:aq × aq):jb (l++[x]) s=some t:=by
 unfold jb at h ⊢
 rw[aaF] at h
 obtain⟨y,h1,h2⟩:=h
 rw[List.find?_append,h1,Option.some_or,ady,h2]
theorem getT_mem {l:List (aq × aq)} {s t:aq} (h:jb l s=some t):(s,t)∈l:=by
 obtain⟨a,b,rfl,_⟩:=TB h
 simp
theorem define_fi {f:Fm} (h:FI f) {s t:aq} (hs:vl s=true):FI (Dd f s t).1:=by
 unfold Dd
 cases hg:jb f.gp s with
 | some u=>rw[if_pos (show (some u).isSome=true from rfl)];exact h
 | none=>
  rw[if_neg (by simp)]
  by_cases hp:(aS t).2≠0
  ·rw[if_pos hp];exact h
  rw[if_neg hp]
  have hp:=agt.1 hp
  by_cases bM:f.dO.length=16
  ·rw[if_pos bM];exact h
  rw[if_neg bM]
  obtain⟨_,_,_,_,_,_,la⟩:=SD hp
  have hno:=KR hg
  refine⟨fun x hx => ?_,h.nr,by show (f.dO++[s]).length<=16;rw[aby];have:=h.nn;simp;omega,by show (f.gp++[(s,po (aS t).1)]).map (·.1)=f.dO++[s];rw[adu,h.nt];rfl,fun x hx => ?_,?_,h.nk,h.kk,h.kd,h.ck⟩
  ·obtain⟨a,u,b,c⟩:=h.run x hx
   exact⟨a,u,getT_snoc (u:=u) b _,c⟩
  ·rcases abP.1 hx with q | q
   ·exact h.tx x q
   ·rw[aan] at q
    subst q
    exact⟨hs,by show (aS (po (aS t).1)).2=0;rw[la],by show po (aS (po (aS t).1)).1=_;rw[la]⟩
  ·show (f.dO++[s]).Nodup
   rw[aem]
   refine⟨h.nd,by simp,fun x hx y hy q => ?_⟩
   simp at hy
   subst hy;subst q
   rw[<-h.nt] at hx
   obtain⟨z,hz,rfl⟩:=acI.1 hx
   exact hno z hz rfl
theorem start_fi {f:Fm} (h:FI f) {e:Ev} (hk:e.ky.length<=16):FI (startM f e).1:=by
 unfold startM
 split
 ·exact h
 ·rename_i t hg
  split
  ·exact h
  rename_i It
  split
  ·exact h
  rename_i oD
  split
  ·exact h
  rename_i tP
  have tP:=agt.1 tP
  have hm:=getT_mem hg
  obtain⟨_,hp,_⟩:=h.tx _ hm
  obtain⟨a,b,c⟩:=new_ri hp
  rw[if_neg (by simp[c])]
  have Ia:∀ {i:Nat} {y:Rn × aq},f.aA[i]? = some y->(f.aA++[((cu (aS t).1).1,e.nm)])[i]? = some y:=fun {i y} q=>by
   rw[abN (aaK.1 q).1];exact q
  have hkk':∀ x∈f.ks,1<=x.2/\x.2<=((f.aA++[((cu (aS t).1).1,e.nm)]).length:Int)/\(∃ y,(f.aA++[((cu (aS t).1).1,e.nm)])[(x.2-1).toNat]? = some y/\y.2=x.1.1)/\x.1.2≠[]/\x.1.2.length<=16:=by
   intro x hx
   obtain⟨q1,q2,⟨y,q3,q4⟩,q5⟩:=h.kk x hx
   refine⟨q1,by rw[aby];simp;omega,⟨y,Ia q3,q4⟩,q5⟩
  have CI:(f.aA++[((cu (aS t).1).1,e.nm)]).length<=64:=by rw[aby];have:=h.nr;simp;omega
  refine⟨fun x hx => ?_,CI,h.nn,h.nt,h.tx,h.nd,?_,?_,?_,h.ck⟩
  ·rcases abP.1 hx with q | q
   ·exact h.run x q
   ·rw[aan] at q
    subst q
    exact⟨a,t,hg,b.symm⟩
  ·show (if e.ky=[] then f.ks else f.ks++[((e.nm,e.ky),e.rn)]).length<=(f.aA++[((cu (aS t).1).1,e.nm)]).length
   have:=h.nk
   split<;>simp<;>omega
  ·show ∀ x∈(if e.ky=[] then f.ks else f.ks++[((e.nm,e.ky),e.rn)]),_
   split
   ·exact hkk'
   ·rename_i aH
    intro x hx
    rcases abP.1 hx with q | q
    ·exact hkk' x q
    ·rw[aan] at q
     subst q
     refine⟨by show 1<=e.rn;omega,by show e.rn<=_;rw[aby];simp;omega,⟨((cu (aS t).1).1,e.nm),?_,rfl⟩,aH,hk⟩
     show (f.aA++[((cu (aS t).1).1,e.nm)])[(e.rn-1).toNat]? = _
     rw[show (e.rn-1).toNat=f.aA.length by omega,abQ (abe _),agi];rfl
  ·show ((if e.ky=[] then f.ks else f.ks++[((e.nm,e.ky),e.rn)]).map (·.1)).Nodup
   split
   ·exact h.kd
   ·rename_i aH
    rw[adu,aem]
    refine⟨h.kd,by simp,fun x hx y hy q => ?_⟩
    simp at hy
    subst hy;subst q
    obtain⟨z,hz,AI⟩:=acI.1 hx
    cases hgk:me f.ks (e.nm,e.ky) with
    | none=>exact FW hgk z hz AI
    | some id=>exact It ⟨aH,by rw[hgk];rfl⟩
theorem tick_fi {f:Fm} (h:FI f) {now:Int} (h0:0<=now) (h1:now<=1099511627776):FI (tickF f now).1:=by
 unfold tickF
 split
 ·exact h
 refine⟨fun x hx => ?_,by show (f.aA.map (tkx now)).length<=64;rw[ac7];exact h.nr,h.nn,h.nt,h.tx,h.nd,by show _<=(f.aA.map (tkx now)).length;rw[ac7];exact h.nk,fun x hx => ?_,h.kd,h0,h1⟩
 ·obtain⟨y,hy,rfl⟩:=acI.1 hx
  obtain⟨a,t,b,c⟩:=h.run y hy
  obtain⟨d,e⟩:=tickN_ri h0 h1 y.1.rs.length 0 y.1 a
  exact⟨d,t,b,c.trans e.symm⟩
 ·obtain⟨q1,q2,⟨y,q3,q4⟩,q5⟩:=h.kk x hx
  refine⟨q1,by show x.2<=((f.aA.map (tkx now)).length:Int);rw[ac7];exact q2,⟨tkx now y,?_,q4⟩,q5⟩
  show (f.aA.map (tkx now))[(x.2-1).toNat]? = _
  rw[ada,q3];rfl
theorem op_ri {R:Rn} (h:RI R) {e:Ev} {ck:Int} (h0:0<=ck) (h1:ck<=1099511627776) (hd:e.kd=4->e.dt.length<=64) (he:(opM R e ck).2=0):RI (opM R e ck).1/\(opM R e ck).1.ts=R.ts:=by
 unfold opM at he ⊢
 split
 ·rename_i q;rw[if_pos q] at he;exact lease_ri h _ _ _ h0 h1 he
 ·rename_i q3
  rw[if_neg q3] at he
  split
  ·rename_i q;rw[if_pos q] at he;exact done_ri h _ _ _ (hd q) he
  ·rename_i q4
   rw[if_neg q4] at he
   split
   ·rename_i q;rw[if_pos q] at he;exact fail_ri h _ _ _ h0 h1 he
   ·rename_i q5
    rw[if_neg q5] at he
    split
    ·rename_i q;rw[if_pos q] at he;exact signal_ri h _ he
    ·rename_i q7
     rw[if_neg q7] at he
     exact cancel_ri h he
theorem change_fi {f:Fm} (h:FI f) {e:Ev} (hd:e.kd=4->e.dt.length<=64):FI (changeM f e).1:=by
 unfold changeM
 split
 ·exact h
 ·rename_i x hx
  split
  ·rename_i he
   have hm:=aa2 hx
   have bE:=(aaK.1 hx).1
   obtain⟨a,t,b,c⟩:=h.run x hm
   obtain⟨d,g⟩:=op_ri a h.ck.1 h.ck.2 hd he
   refine⟨fun y hy => ?_,by show (f.aA.set _ _).length<=64;rw[acT];exact h.nr,h.nn,h.nt,h.tx,h.nd,by show _<=(f.aA.set _ _).length;rw[acT];exact h.nk,fun y hy => ?_,h.kd,h.ck⟩
   ·rcases afK hy with q | rfl
    ·exact h.run y q
    ·exact⟨d,t,b,c.trans g.symm⟩
   ·obtain⟨q1,q2,⟨z,q3,q4⟩,q5⟩:=h.kk y hy
    refine⟨q1,by show y.2<=((f.aA.set _ _).length:Int);rw[acT];exact q2,?_,q5⟩
    show ∃ w,(f.aA.set (e.rn-1).toNat ((opM x.1 e f.ck).1,x.2))[(y.2-1).toNat]? = some w/\w.2=y.1.1
    rw[afp]
    by_cases hq:(e.rn-1).toNat=(y.2-1).toNat
    ·rw[if_pos hq,if_pos bE]
     refine⟨_,rfl,?_⟩
     rw[<-hq] at q3
     have:=acy (hx.symm.trans q3)
     rw[this];exact q4
    ·rw[if_neg hq];exact⟨z,q3,q4⟩
  ·exact h
theorem apply_fi {f:Fm} (h:FI f) (e:Ev):FI (applyM f e).1:=by
 unfold applyM
 by_cases hg:xU e=true
 ·rw[if_pos hg]
  split
  ·rename_i hk
   have:=goodE_f hg (c:=77) (by rw[hk];simp[fieldsM])
   unfold rO at this
   simp at this
   exact define_fi h this
  split
  ·rename_i tD hk
   have:=goodE_f hg (c:=75) (by rw[hk];simp[fieldsM])
   unfold rO at this
   simp at this
   exact start_fi h this
  split
  ·rename_i tD fV hk
   have:=goodE_f hg (c:=78) (by rw[hk];simp[fieldsM])
   unfold rO vi at this
   rw[if_neg (by decide),if_neg (by decide),if_neg (by decide),if_pos rfl,if_neg (by omega)] at this
   simp at this
   exact tick_fi h (by omega) this.2
  split
  ·exact h
  split
  ·exact h
  ·refine change_fi h fun hk => ?_
   have:=goodE_f hg (c:=68) (by rw[hk];simp[fieldsM])
   unfold rO at this
   rw[if_neg (by decide),if_neg (by decide),if_neg (by decide),if_neg (by decide),if_neg (by decide),if_neg (by decide),if_neg (by omega)] at this
   simpa using this
 ·rw[if_neg hg];exact h
theorem FI.sz {f:Fm} (h:FI f):SzF f:=
 ⟨by have:=h.nn;omega,by have:=h.nr;omega,by have:=h.nk;have:=h.nr;omega,fun x hx=>by
  obtain⟨hr,_⟩:=h.run x hx
  have hs:=hr.i0.ok.sm
  exact⟨by have:=hs.r;omega,by have:=hs.s;omega,by have:=hs.n;omega,fun t ht=>by have:=hs.a t ht;omega⟩⟩
theorem sameR_refl (R:Rn):sameR R R=true:=by unfold sameR;simp
theorem sameF_refl (f:Fm):sameF f f=true:=by
 unfold sameF
 rw[eqL_refl fun s _=>by simp[sameT],eqL_refl fun x _=>by simp[sameO,sameR_refl]]
 simp
noncomputable def allM:Fm->List Ev->Fm
 | f,[]=>f
 | f,e::r=>allM (applyM f e).1 r
theorem all_fi:∀ {l:List Ev} {f:Fm},FI f->FI (allM f l)
 | [],f,h=>h
 | e::r,f,h=>all_fi (l:=r) (apply_fi h e)
theorem st_ev (e:Ev) (H:Hp):st 8 (.ptr H.next 0) (.agg (bc e)) (al H zE 26 0)=some (al H (bc e) 26 0):=kq rfl rfl rfl (by decide) rfl
theorem evs_get {l:List Ev} {i:Nat} {e:Ev} (h:l[i]? = some e):(evs l)[i]? = some (bc e):=by unfold evs;rw[ada,h];rfl
theorem evs_len {H:Hp} {x:AV} {l:List Ev} (h:RL H 8 x (evs l)):aV x=some (.int .i64 (l.length:Nat)):=by
 have:=h.len (by decide);unfold evs at this;rwa[ac7] at this
theorem all_loop {p:Nat} {x:AV} {l:List Ev} (hl:l.length<=1000):∀ (r:List Ev) (i:Nat) (H:Hp) (a:FA) (f:Fm),i<=l.length->l.drop i=r->RL H 8 x (evs l)->(∀ j∈ak x,j∉own p a)->FL H p a f->FI f->Gl H->
  ∃ a' H',(∀ j4:K.Fn 1,Eo JN GO cK j4 (.ptr p 0) x (.int .i64 (l.length:Nat)) (.int .i64 (i:Nat)) H=j4 (.ptr p 0) H')/\FL H' p a' (allM f r)/\FSt H H' p a a'
 | [],i,H,a,f,hi,h,hx,hd,hF,hI,hg=>by
  obtain rfl:=drop_nil hi h
  refine⟨a,H,fun j4 => ?_,hF,FSt.same (Out.refl _ _) p a⟩
  rw[UU]
  simp only[bl_flow_All,fw,aj,ai,simprocAttr]
 | e::r,i,H,a,f,hi,h,hx,hd,hF,hI,hg=>by
  obtain⟨h1,h2,h3⟩:=fC h
  have es:=fF h1 (by omega)
  obtain⟨b,o,q1,q2,q3,q4,q5⟩:=hx.at (by decide) (evs_get h2)
  have hz:=st_ev e H
  have o1:=aN H (bc e) 26 0
  have c1:=bD H (bc e) 26 0
  generalize gf:al H (bc e) 26 0=H1 at *
  have ek:av H1 H.next 0 8=some (bc e):=c1.av 8 0 (by rw[pE];omega)
  obtain⟨a',H2,u1,u2,u3⟩:=apply_c (hF.aw o1) (hg.aw o1) hI.ok e
  have eC:=hx.1.lt
  obtain⟨a2,H',i1,i2,i3⟩:=all_loop hl r (i+1) H2 a' (applyM f e).1 h1 h3 ((hx.aw o1).out u3.o fun j hj z=>hd j hj z) (fun j hj z=>(u3.w j z).elim (hd j hj) fun z=>by have:=eC j hj;have:=o1.1;omega) u2 (apply_fi hI e) ((hg.aw o1).out u3.o hF.lo)
  refine⟨a2,H',fun j4 => ?_,i2,((FSt.same o1 p a).trans u3).trans i3⟩
  rw[UU]
  simp(disch:=(first|assumption|omega|(simp only[ag,af,simprocAttr]<;>fail)|(simp only[af];omega)|(simp only[ag,af,simprocAttr, *]<;>fail)|fail))only[bl_flow_All,bN h1,q1,q4,hz,gf,ek,u1,es,i1,au,ar,aj,ai,simprocAttr]
theorem all_c {x:AV} {l:List Ev} {H:Hp} (hl:l.length<=1000) (hg:Gl H) (jP:11<=H.next) (hx:RL H 8 x (evs l)) :
  ∃ p a H',cK (.func (.func 13) [] []) [x] H=some (.ptr p 0,H')/\FL H' p a (allM tE l)/\Out [] H H'/\(∀ j∈own p a,H.next<=j)/\∀ j∈DfK.dR a,H.next<=j:=by
 obtain⟨p,a,H1,n1,n2,n3,n4,n5⟩:=aas jP
 have eC:=hx.1.lt
 have oa:=evs_len hx
 obtain⟨a',H',i1,i2,i3⟩:=all_loop hl l 0 H1 a tE (ab2 _) abJ (hx.aw n3) (fun j hj z=>by have:=eC j hj;have:=n4 j z;omega) n2 fi0 (hg.aw n3)
 rw[show (((0:Nat):Int))=0 from rfl] at i1
 have l1:=n3.1
 refine⟨p,a',H',agH ?_,i2,n3.then i3.o fun j hj => .inr (n4 j hj),fun j hj=>(i3.w j hj).elim (n4 j) fun z=>by omega,fun j hj=>(i3.i j hj).elim (fun z=>by unfold DfK.dR at z;rw[n5] at z;cases z) fun z=>by omega⟩
 unfold Zm
 simp(disch:=(first|assumption|omega|(simp only[ag,af,simprocAttr]<;>fail)|(simp only[af];omega)|(simp only[ag,af,simprocAttr, *]<;>fail)|fail))only[n1,oa,i1,au,ar,aj,ai,simprocAttr]
theorem heavy_c (e:Ev) (H:Hp):∃ b H',cK (.func (.func 12) [] []) [.agg (bc e)] H=some (.bool b,H')/\Out [] H H':=by
 have b1:bx 26 (.agg (bc e)) H=some (H.next,al H (bc e) 26 0):=iE (by rw[pE];omega)
 have o1:=aN H (bc e) 26 0
 have c1:=bD H (bc e) 26 0
 generalize al H (bc e) 26 0=H1 at *
 have k5:cellAt H1 H.next 5=some (.str e.nm):=c1.cellAt rfl
 have k6:cellAt H1 H.next 6=some (.str e.ky):=c1.cellAt rfl
 have k7:cellAt H1 H.next 7=some (.str e.dt):=c1.cellAt rfl
 cases d1:decide ((40:Int)<(e.nm.length:Int)) with
 | true=>
  refine⟨true,H1,Rj ?_,o1⟩
  unfold Lu
  simp(disch:=(first|assumption|omega|(simp only[ag,af,simprocAttr]<;>fail)|(simp only[af];omega)|(simp only[ag,af,simprocAttr, *]<;>fail)|fail))only[b1,k5,k6,k7,d1,au,ar,aj,ai,simprocAttr]
 | false=>
  cases d2:decide ((40:Int)<(e.ky.length:Int)) with
  | true=>
   refine⟨true,H1,Rj ?_,o1⟩
   unfold Lu
   simp(disch:=(first|assumption|omega|(simp only[ag,af,simprocAttr]<;>fail)|(simp only[af];omega)|(simp only[ag,af,simprocAttr, *]<;>fail)|fail))only[b1,k5,k6,k7,d1,d2,au,ar,aj,ai,simprocAttr]
  | false=>
   refine⟨decide ((950:Int)<(e.dt.length:Int)),H1,Rj ?_,o1⟩
   unfold Lu
   simp(disch:=(first|assumption|omega|(simp only[ag,af,simprocAttr]<;>fail)|(simp only[af];omega)|(simp only[ag,af,simprocAttr, *]<;>fail)|fail))only[b1,k5,k6,k7,d1,d2,au,ar,aj,ai,simprocAttr]
theorem apart0_loop {x y:AV} {l:List Ev} (hl:l.length<=1000) {H0:Hp}:∀ (r:List Ev) (i:Nat) (H:Hp),i<=l.length->l.drop i=r->RL H0 8 x (evs l)->Out [] H0 H->
  (∃ H',∀ gH:K.Fn 2,Cv JN GO cK gH x y (.int .i64 (i:Nat)) H=some (.bool true,H'))\/∃ H',(∀ gH:K.Fn 2,Cv JN GO cK gH x y (.int .i64 (i:Nat)) H=gH x y H')/\Out [] H0 H'
 | [],i,H,hi,h,hx,hO=>by
  obtain rfl:=drop_nil hi h
  have oa:=evs_len (hx.aw hO)
  refine .inr ⟨H,fun gH => ?_,hO⟩
  rw[KC]
  simp only[bl_outriderlaw18_FlowApart,oa,fw,aj,ai,simprocAttr]
 | e::r,i,H,hi,h,hx,hO=>by
  obtain⟨h1,h2,h3⟩:=fC h
  have es:=fF h1 (by omega)
  have oa:=evs_len (hx.aw hO)
  obtain⟨b,o,q1,q2,q3,q4,q5⟩:=(hx.aw hO).at (by decide) (evs_get h2)
  obtain⟨v,H1,u1,u2⟩:=heavy_c e H
  cases v with
  | true=>
   refine .inl ⟨H1,fun gH => ?_⟩
   rw[KC]
   simp(disch:=(first|assumption|omega|(simp only[ag,af,simprocAttr]<;>fail)|(simp only[af];omega)|(simp only[ag,af,simprocAttr, *]<;>fail)|fail))only[bl_outriderlaw18_FlowApart,oa,bN h1,q1,q4,u1,au,ar,aj,ai,simprocAttr]
  | false=>
   rcases apart0_loop (y:=y) hl r (i+1) H1 h1 h3 hx (hO.trans u2) with⟨H',i1⟩ | ⟨H',i1,i2⟩
   ·refine .inl ⟨H',fun gH => ?_⟩
    rw[KC]
    simp(disch:=(first|assumption|omega|(simp only[ag,af,simprocAttr]<;>fail)|(simp only[af];omega)|(simp only[ag,af,simprocAttr, *]<;>fail)|fail))only[bl_outriderlaw18_FlowApart,oa,bN h1,q1,q4,u1,es,i1,au,ar,aj,ai,simprocAttr]
   ·refine .inr ⟨H',fun gH => ?_,i2⟩
    rw[KC]
    simp(disch:=(first|assumption|omega|(simp only[ag,af,simprocAttr]<;>fail)|(simp only[af];omega)|(simp only[ag,af,simprocAttr, *]<;>fail)|fail))only[bl_outriderlaw18_FlowApart,oa,bN h1,q1,q4,u1,es,i1,au,ar,aj,ai,simprocAttr]
theorem apart1_loop {x y z:AV} {p N:Nat} {l:List Ev} (hl:l.length<=1000) {H0:Hp} (hx:RL H0 8 x (evs l)) (hN:H0.next<=N):∀ (r:List Ev) (i:Nat) (H:Hp) (a:FA) (f:Fm),i<=l.length->l.drop i=r->Out [] H0 H->N<=H.next->FL H p a f->FI f->Gl H->(∀ j∈own p a,N<=j)->
  (∃ H',∀ mK:K.Fn 2,Cc JN GO cK mK x y z (.ptr p 0) (.int .i64 (i:Nat)) H=some (.bool true,H'))\/
  ∃ H' S,(∀ mK:K.Fn 2,Cc JN GO cK mK x y z (.ptr p 0) (.int .i64 (i:Nat)) H=mK y z H')/\Out S H H'/\∀ j∈S,N<=j
 | [],i,H,a,f,hi,h,hO,hNH,hF,hI,hg,ho=>by
  obtain rfl:=drop_nil hi h
  have oa:=evs_len (hx.aw hO)
  refine .inr ⟨H,[],fun mK => ?_,Out.refl _ _,fun j hj=>by cases hj⟩
  rw[JS]
  simp only[bl_outriderlaw18_FlowApart1,oa,fw,aj,ai,simprocAttr]
 | e::r,i,H,a,f,hi,h,hO,hNH,hF,hI,hg,ho=>by
  obtain⟨h1,h2,h3⟩:=fC h
  have es:=fF h1 (by omega)
  have oa:=evs_len (hx.aw hO)
  obtain⟨b,o,q1,q2,q3,q4,q5⟩:=(hx.aw hO).at (by decide) (evs_get h2)
  obtain⟨v,H1,u1,u2⟩:=heavy_c e H
  have qH:=hO.trans u2
  obtain⟨b',o',p1,p2,p3,p4,p5⟩:=(hx.aw qH).at (by decide) (evs_get h2)
  cases (q1 .i64).symm.trans (p1 .i64)
  cases v with
  | true=>
   refine .inl ⟨H1,fun mK => ?_⟩
   rw[JS]
   simp(disch:=(first|assumption|omega|(simp only[ag,af,simprocAttr]<;>fail)|(simp only[af];omega)|(simp only[ag,af,simprocAttr, *]<;>fail)|fail))only[bl_outriderlaw18_FlowApart1,oa,bN h1,q1,q4,u1,au,ar,aj,ai,simprocAttr]
  | false=>
   obtain⟨a',H2,w1,w2,w3⟩:=apply_c (hF.aw u2) (hg.aw u2) hI.ok e
   have yp:Out [] H0 H2:=qH.then w3.o fun j hj => .inr (by have:=ho j hj;omega)
   have fA:∀ j∈own p a',N<=j:=fun j hj=>(w3.w j hj).elim (ho j) fun z=>by have:=u2.1;omega
   have mR:=w3.o.1
   have V3:=u2.1
   rcases apart1_loop (y:=y) (z:=z) hl hx hN r (i+1) H2 a' (applyM f e).1 h1 h3 yp (by omega) w2 (apply_fi hI e) ((hg.aw u2).out w3.o hF.lo) fA with⟨H',i1⟩ | ⟨H',S,i1,i2,i3⟩
   ·refine .inl ⟨H',fun mK => ?_⟩
    rw[JS]
    simp(disch:=(first|assumption|omega|(simp only[ag,af,simprocAttr]<;>fail)|(simp only[af];omega)|(simp only[ag,af,simprocAttr, *]<;>fail)|fail))only[bl_outriderlaw18_FlowApart1,oa,bN h1,q1,q4,u1,p4,w1,es,i1,au,ar,aj,ai,simprocAttr]
   ·refine .inr ⟨H',own p a++S,fun mK => ?_,((u2.mono fun j hj=>by cases hj).trans (w3.o.mono fun j hj=>abG _ hj)).trans (i2.mono fun j hj=>abB _ hj),fun j hj=>(abP.1 hj).elim (ho j) (i3 j)⟩
    rw[JS]
    simp(disch:=(first|assumption|omega|(simp only[ag,af,simprocAttr]<;>fail)|(simp only[af];omega)|(simp only[ag,af,simprocAttr, *]<;>fail)|fail))only[bl_outriderlaw18_FlowApart1,oa,bN h1,q1,q4,u1,p4,w1,es,i1,au,ar,aj,ai,simprocAttr]
theorem flowApart_c {x y:AV} {l m:List Ev} {H:Hp} (hx:RL H 8 x (evs l)) (hy:RL H 8 y (evs m)) (hT:y9 H mJ) (jP:11<=H.next):∃ H',cK (.func (.func 3) [] []) [x,y] H=some (.bool true,H'):=by
 have hg:=Gl.of hT jP
 have haw:=al5 an hT jP
 have lx:=evs_len hx
 have ly:=evs_len hy
 by_cases h1:l.length<=30
 rotate_left
 ·have d1:decide ((30:Int)<(l.length:Int))=true:=decide_eq_true (by omega)
  refine⟨H,HE ?_⟩
  unfold AZ
  simp(disch:=(first|assumption|omega|(simp only[ag,af,simprocAttr]<;>fail)|(simp only[af];omega)|(simp only[ag,af,simprocAttr, *]<;>fail)|fail))only[haw,lx,d1,au,ar,aj,ai,simprocAttr]
 have d1:decide ((30:Int)<(l.length:Int))=false:=decide_eq_false (by omega)
 by_cases h2:m.length<=20
 rotate_left
 ·have d2:decide ((20:Int)<(m.length:Int))=true:=decide_eq_true (by omega)
  refine⟨H,HE ?_⟩
  unfold AZ
  simp(disch:=(first|assumption|omega|(simp only[ag,af,simprocAttr]<;>fail)|(simp only[af];omega)|(simp only[ag,af,simprocAttr, *]<;>fail)|fail))only[haw,lx,ly,d1,d2,au,ar,aj,ai,simprocAttr]
 have d2:decide ((20:Int)<(m.length:Int))=false:=decide_eq_false (by omega)
 rcases apart0_loop (y:=y) (by omega) l 0 H (ab2 _) abJ hx (Out.refl _ _) with⟨H1,i1⟩ | ⟨H1,i1,o1⟩
 ·rw[show (((0:Nat):Int))=0 from rfl] at i1
  refine⟨H1,HE ?_⟩
  unfold AZ
  simp(disch:=(first|assumption|omega|(simp only[ag,af,simprocAttr]<;>fail)|(simp only[af];omega)|(simp only[ag,af,simprocAttr, *]<;>fail)|fail))only[haw,lx,ly,d1,d2,i1,au,ar,aj,ai,simprocAttr]
 rw[show (((0:Nat):Int))=0 from rfl] at i1
 have kg:=o1.1
 have hF0:FI (allM tE l):=all_fi fi0
 obtain⟨p,a,H2,f1,f2,f3,f4,f5⟩:=all_c (by omega) (hg.aw o1) (by omega) (hx.aw o1)
 have gT:=f3.1
 have o2:=o1.trans f3
 obtain⟨q,b,H3,g1,g2,g3,g4,g5⟩:=all_c (by omega) (hg.aw o2) (by omega) (hx.aw o2)
 have zg:=g3.1
 have o3:=o2.trans g3
 have ug:=f2.aw g3
 obtain⟨r,c,H4,k1,k2,k3,k4,k5⟩:=fclone_c ug (by omega) (by have:=hF0.nn;omega) (by have:=hF0.nr;omega) (by have:=hF0.nk;have:=hF0.nr;omega) hF0.kd
 have o4:=o3.trans k3
 have ZV:=k3.1
 obtain⟨H5,s1,s2⟩:=fsame_c k2 (ug.aw k3) hF0.sz hF0.sz
 rw[sameF_refl] at s1
 have o5:=o4.trans s2
 have hn5:=s2.1
 have hP5:=(ug.aw k3).aw s2
 have hQ5:=(g2.aw k3).aw s2
 have lB:=ug.lt
 have S5:=g2.lt
 rcases apart1_loop (y := .ptr p 0) (z := .ptr q 0) (p:=r) (N:=H3.next) (by omega) hy (by omega) m 0 H5 c _ (ab2 _) abJ o5 (by omega) (k2.aw s2) hF0 (hg.aw o5) k4 with⟨H6,i2⟩ | ⟨H6,S,i2,i3,i4⟩
 ·rw[show (((0:Nat):Int))=0 from rfl] at i2
  refine⟨H6,HE ?_⟩
  unfold AZ
  simp(disch:=(first|assumption|omega|(simp only[ag,af,simprocAttr]<;>fail)|(simp only[af];omega)|(simp only[ag,af,simprocAttr, *]<;>fail)|fail))only[haw,lx,ly,d1,d2,i1,f1,g1,k1,s1,i2,au,ar,aj,ai,simprocAttr]
 rw[show (((0:Nat):Int))=0 from rfl] at i2
 have hP6:=hP5.hi i3 lB (fun j hj=>(ug.dR j hj).2) i4
 have hQ6:=hQ5.hi i3 S5 (fun j hj=>(g2.dR j hj).2) i4
 obtain⟨H7,t1,t2⟩:=fsame_c hP6 hQ6 hF0.sz hF0.sz
 rw[sameF_refl] at t1
 refine⟨H7,HE ?_⟩
 unfold AZ
 simp(disch:=(first|assumption|omega|(simp only[ag,af,simprocAttr]<;>fail)|(simp only[af];omega)|(simp only[ag,af,simprocAttr, *]<;>fail)|fail))only[haw,lx,ly,d1,d2,i1,f1,g1,k1,s1,i2,t1,au,ar,aj,ai,simprocAttr]
theorem apart_top {H:Hp} {aY:List AV} {ds:List D} (h:DL H [.slice 8 EvTy,.slice 8 EvTy] aY ds) (hT:y9 H mJ) (hn:11<=H.next):∃ H',cK (.func (.func 3) [] []) aY H=some (.bool true,H'):=by
 cases h with
 | cons h0 h=>
 cases h with
 | cons h1 h=>
 cases h
 obtain⟨l,hl,_⟩:=evs_of (aah h0)
 obtain⟨m,hm,_⟩:=evs_of (aah h1)
 exact flowApart_c hl hm hT hn
end Go.Proofs.YtodfajmihkagnaaGreatDoor.DfK
namespace Go.Proofs.YtodfajmihkagnaaGreatDoor.Hand
open Go
theorem size_open {P:Program} {w:World} (h:w.ShapedOpen P) {g:Nat} (hg:g+1=P.globals.size) (hr:(((begin P (fun _ _=>0) default).world.heap[g]?).bind Obj.row?).isSome=true):P.globals.size<=w.heap.size:=by
 obtain⟨⟨zero,t⟩,hr⟩:=agu.1 hr
 obtain⟨cs,hc,_⟩:=h.1 g zero t (by omega) hr
 have:=(ab6.1 hc).1
 omega
variable {H:Type} {enc:TypeId × Value->H}
theorem handed {a:Assume} {C:Checked} {os:Os} {f:FuncId} {fn:Func} {s:ChangeSpec} {conds:List PathCond} {apart fresh handsOn again:Bool} {X:World->Array Value->Prop} {g:Nat}
  (hg:g+1=C.prog.globals.size) (hr:(((begin C.prog (fun _ _=>0) default).world.heap[g]?).bind Obj.row?).isSome=true)
  (hX:∀ (w w':World) (args:Array Value),w.heap=w'.heap->X w args->X w' args)
  (own:ownKnob C.prog.godebug=none) (started:os.Started) (noInit:C.prog.inits.idxOf? f=none) (vc:C.prog.funcs[f]? = some fn)
  (witness:∃ (w:World) (tape:Tape) (i:Input),w.os=os/\(w.forCall tape i).Shaped C.prog/\i.vars=[]/\Input.okWide C.prog (w.forCall tape i) .any w.heap.size f i/\
   ((s.pre enc C.prog fn conds apart (w.forCall tape i).memory i.args/\X (w.forCall tape i).memory i.args)/\sizedMet enc C.prog fn (OpenSpec.ofChange s) apart (w.forCall tape i).memory i.args)/\a.holds C.prog (lone (Frame.enter C.prog f i.args .normal) [] (w.forCall tape i)))
  (contract:∀ (W:World) (base:Nat) (args:Array Value) (ds gs:List (DataW H)) (before:List MemPlace),C.prog.globals.size<=W.heap.size->
   (∀ (j:Nat) t v,fn.params[j]? = some t->args[j]? = some v->Value.okWide C.prog W .any base t v)->
   DataW.Whole enc C.prog fn.params.toList s.vars apart W args.toList ds gs before->
   conds.all (PathCond.test C.prog ⟨fn.params.toList,ds,s.plain.varTypes C.prog,gs⟩)=true->
   (DataW.weightsEach C.prog (fn.params.toList++s.plain.varTypes C.prog) (ds++gs)).all (·<=reachBytes)=true->X W args->
   a.holds C.prog (lone (Frame.enter C.prog f args .normal) [] W)->
   Calls C.prog f args W fun e W'=>∃ v,e = .returned v/\s.post enc C.prog fn apart fresh handsOn again W args v W') :
  ReturnsInHanded a C os f .any (fun w args=>(s.pre enc C.prog fn conds apart w args/\X w args)/\sizedMet enc C.prog fn (OpenSpec.ofChange s) apart w args) (s.post enc C.prog fn apart fresh handsOn again):=
 returnsInHanded_of_calls own started noInit witness fun w tape i _ pU _ zt hpre hholds=>by
  obtain⟨_,_,_,fn',hfn',_,_,_,_,AX⟩:=zt
  obtain rfl:fn'=fn:=acy (hfn'.symm.trans vc)
  obtain⟨⟨⟨ds,gs,before,hw,hc⟩,hx⟩,hz⟩:=hpre
  refine (contract (w.forCall tape i) w.heap.size i.args ds gs before (size_open pU hg hr) AX (DataW.Whole.of_heap (w':=w.forCall tape i) (by rfl) hw) hc (hz.weights hw) (hX _ _ _ (by rfl) hx) hholds).mono fun e W' hp => ?_
  obtain⟨v,rfl,hp⟩:=hp
  exact ChangeSpec.post_blind hp
end Go.Proofs.YtodfajmihkagnaaGreatDoor.Hand
