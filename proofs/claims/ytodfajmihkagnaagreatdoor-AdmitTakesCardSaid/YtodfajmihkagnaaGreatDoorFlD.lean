/- Laws that the proof uses. -/
import Derived.Test.YtodfajmihkagnaaGreatDoorDfD6
import Derived.Test.YtodfajmihkagnaaGreatDoorDfKb
import Derived.Handed
import Derived.Test.YtodfajmihkagnaaGreatDoorProg
set_option linter.unusedVariables false
set_option linter.unusedSimpArgs false
set_option maxRecDepth 100000
set_option maxHeartbeats 4000000
namespace Go.Proofs.YtodfajmihkagnaaGreatDoor.DfK
open Go Am Am.K jY me jQ nY
theorem parse_c0 {text:aq}{H:Hp}(hg:Gl H):∃ dx xs H',cK (.func (.func 53) [] []) [.str text] H=some (.tuple [dv dx,.int .i64 (aN text).2],H')/\RD H' dx xs (aN text).1/\Out [] H H'/\∀ j∈lD dx xs,H.next<=j:=by
 by_cases hl:text.length<=4294967296
 ·exact als hg hl
 have o1:=aJ H [.ah] 72 0
 have d:decide ((1024:Int)<(text.length:Int))=true:=decide_eq_true (by omega)
 have aC:st 1 (.ptr H.next 0) (.agg [.ah]) (al H [.ah] 72 0)=some (al H [.ah] 72 0):=iV rfl rfl rfl (by decide) rfl
 unfold aN
 rw[if_pos (by omega)]
 refine⟨.ah,[],al H [.ah] 72 0,Eu ?_,RD.nil _,o1,fun j hj=>by cases hj⟩
 unfold Bj
 simp(disch:=first|exact zqz|fail)only[d,aC,ar,au,aj,ai,simprocAttr]
theorem aja (i:Nat):same (.map i) (.map i)=true:=by simp[same,n0,ahj]
def rW:Fm:=⟨0,[],[],[],[]⟩
theorem Mv {H:Hp}(hn:11<=H.next):∃ p a H',cK (.func (.func 18) [] []) [] H=some (.ptr p 0,H')/\FL H' p a rW/\Out [] H H'/\(∀ j∈own p a,H.next<=j)/\a.ras=[]:=by
 obtain⟨H1,m1,m2,m3,m4⟩:=KK H
 obtain⟨kp,km,H2,k1,k2,k3,k4,k5⟩:=aoS H1
 have jF:=k2.lt
 have hf:fl [(.int .i64 0),.ah,.ja,.ah,.fB] [(2,1,.map H.next),(4,1,.ptr kp 0)]=some (fv ⟨H.next,kp,km,.ah,.ah,.ah,[]⟩ rW):=rfl
 have aW:bx 67 (.agg (fv ⟨H.next,kp,km,.ah,.ah,.ah,[]⟩ rW)) H2=some (H2.next,al H2 (fv ⟨H.next,kp,km,.ah,.ah,.ah,[]⟩ rW) 67 0):=iW (by simp)
 have o3:=aJ H2 (fv ⟨H.next,kp,km,.ah,.ah,.ah,[]⟩ rW) 67 0
 have c3:=bo H2 (fv ⟨H.next,kp,km,.ah,.ah,.ah,[]⟩ rW) 67 0
 have l1:=jF kp (.head _)
 have l2:=jF km (.tail _ (.head _))
 have n2:=k3.1
 have Vb:∀ j∈own H2.next ⟨H.next,kp,km,.ah,.ah,.ah,[]⟩,H.next<=j:=by
  intro j hj
  simp[own,gQ,ak] at hj
  omega
 refine⟨H2.next,⟨H.next,kp,km,.ah,.ah,.ah,[]⟩,al H2 (fv ⟨H.next,kp,km,.ah,.ah,.ah,[]⟩ rW) 67 0,ajE ?_,⟨c3,.nil,⟨[],0,rfl,(m2.out k3 (by simp)).out o3 (by simp)⟩,by simp[rW],OL.nil _ _ _,fun i r x hr=>by simp at hr,rfl,k2.out0 o3,?_,fun j hj => ?_,fun j hj=>by simp[dB] at hj⟩,(m3.trans k3).trans o3,Vb,rfl⟩
 ·unfold XF
  simp only[m1,k1,hf,aW,aj,ai,simprocAttr]
 ·have KU:=k2.d1
  simp[gQ,Dj,ak]
  omega
 ·have:=Vb j hj;omega
theorem FL.Ac {H:Hp}{p:Nat}{a:FA}{f:Fm}(h:FL H p a f):bq a.rx=some (.int .i64 (f.az.length:Nat)):=by
 have:=h.r.rl.len (by decide)
 rw[agy,h.len,Nat.min_self] at this
 exact this
theorem Un {H:Hp}{p:Nat}{a:FA}{f:Fm}(h:FL H p a f):cK (.func (.func 29) [] []) [.ptr p 0] H=some (.int .i64 (f.az.length:Nat),H):=by
 have k3:cellAt H p 3=some a.rx:=h.c.cellAt rfl
 refine ahC ?_
 unfold SY
 simp(disch:=first|exact zqz|fail)only[k3,h.Ac,ar,au,aj,ai,simprocAttr]
theorem VT {H:Hp}{p:Nat}{a:FA}{f:Fm}(h:FL H p a f)(s t:aq):∃ H',cK (.func (.func 45) [] []) [.ptr p 0,.str s,.str t] H=some (.tuple [.int .i64 ((iT f.ks (s,t)).getD 0),.bool (iT f.ks (s,t)).isSome],H')/\Out [] H H':=by
 have k4:cellAt H p 4=some (.ptr a.kp 0):=h.c.cellAt rfl
 have hf:fl [(.str []),(.str [])] [(0,1,.str s),(1,1,.str t)]=some (cn (s,t)):=rfl
 obtain⟨H',g1,g2⟩:=acJ h.k (s,t)
 refine⟨H',amn ?_,g2⟩
 unfold aaT
 simp(disch:=first|exact zqz|fail)only[k4,hf,g1,ar,au,aj,ai,simprocAttr]
noncomputable def QB (f:Fm)(s:aq):List Tk:=match ju f.txs s with | none=>[] | some t=>(aN t).1
theorem adj {H:Hp}{p:Nat}{a:FA}{f:Fm}(h:FL H p a f)(hg:Gl H)(s:aq) :
  ∃ dx xs H',cK (.func (.func 56) [] []) [.ptr p 0,.str s] H=some (.tuple [dv dx,.bool (ju f.txs s).isSome],H')/\RD H' dx xs (QB f s)/\Out [] H H'/\∀ j∈lD dx xs,H.next<=j:=by
 have o1:=aJ H [.ah] 72 0
 have c1:=bo H [.ah] 72 0
 have n1:(al H [.ah] 72 0).next=H.next+1:=rfl
 generalize dq:al H [.ah] 72 0=H1 at *
 have h1:=h.out0 o1
 have k2:cellAt H1 p 2=some (.map a.tm):=h1.c.cellAt rfl
 have lk:=YF h1.t h1.rP s true
 unfold QB
 cases hs:ju f.txs s with
 | none=>
  rw[hs] at lk
  obtain⟨H2,t1,t2,t3,t4⟩:=fN (n:=1) (vs:=[.ah]) c1 rfl rfl rfl
  have k3:av H2 H.next 0 1=some [.ah]:=t2.av 1 0 (by simp)
  refine⟨.ah,[],H2,W3 ?_,RD.nil _,gF o1 t3 (kf (aaH _)),fun j hj=>by cases hj⟩
  unfold QW
  simp(disch:=first|exact zqz|fail)only[dq,k2,lk,Option.getD_none,afk,cond_true,t1,k3,ar,au,aj,ai,simprocAttr]
 | some t=>
  rw[hs] at lk
  obtain⟨dx,xs,H2,p1,p2,p3,p4⟩:=parse_c0 (text:=t) (hg.out0 o1)
  have gp:=p2.row.one
  have n2:=p3.nx
  have o3:=aJ H2 [dx] 72 0
  have c3:=bo H2 [dx] 72 0
  have aC:st 1 (.ptr H2.next 0) (.agg [dx]) (al H2 [.ah] 72 0)=some (al H2 [dx] 72 0):=iV (by simp[gp]) rfl rfl (by decide) rfl
  generalize mn:al H2 [dx] 72 0=H3 at *
  have k4:av H3 H2.next 0 1=some [dx]:=c3.av 1 0 (by simp)
  have cR:=(c1.out p3 (by simp)).out o3 (by simp)
  obtain⟨H4,t1,t2,t3,t4⟩:=fN (n:=1) (vs:=[dx]) cR rfl rfl (by simp[gp])
  have k5:av H4 H.next 0 1=some [dx]:=t2.av 1 0 (by simp)
  refine⟨dx,xs,H4,W3 ?_,((p2.out0 o3).out t3 fun j hj=>by rw[No];have:=p4 j hj;omega),gF ((o1.trans p3).trans o3) t3 (kf (aaH _)),fun j hj=>by have:=p4 j hj;omega⟩
  unfold QW
  simp(disch:=first|exact zqz|fail)only[dq,k2,lk,afI,af7,cond_true,p1,aC,k4,t1,k5,ar,au,aj,ai,simprocAttr]
noncomputable def Dz (f:Fm)(s t:aq):Fm × Int:=
 if (ju f.txs s).isSome then (f,5) else if (aN t).2≠0 then (f,(aN t).2) else if f.nms.length=16 then (f,6) else
  ({ f with nms:=f.nms++[s],txs:=f.txs++[(s,o8 (aN t).1)] },0)
theorem FSt.end {H H1 H2:Hp}{p:Nat}{a b:FA}(h:Out [] H H1)(k:FSt H1 H2 p a b):FSt H H2 p a b:=(FSt.same h p a).trans k
theorem alu {H:Hp}{p:Nat}{a:FA}{f:Fm}(h:FL H p a f)(hg:Gl H)(hn:f.nms.length<=16)(s t:aq) :
  ∃ a' H',cK (.func (.func 40) [] []) [.ptr p 0,.str s,.str t] H=some (.int .i64 (Dz f s t).2,H')/\FL H' p a' (Dz f s t).1/\FSt H H' p a a':=by
 have k2:cellAt H p 2=some (.map a.tm):=h.c.cellAt rfl
 have lk:=YF h.t h.rP s true
 unfold Dz
 cases hs:ju f.txs s with
 | some t0=>
  rw[hs] at lk
  rw[if_pos (show (some t0).isSome=true from rfl)]
  refine⟨a,H,JY ?_,h,FSt.same (Out.refl _ _) p a⟩
  unfold BG
  simp(disch:=first|exact zqz|fail)only[k2,lk,afI,af7,cond_true,ar,au,aj,ai,simprocAttr]
 | none=>
  rw[hs] at lk
  rw[if_neg (by simp)]
  obtain⟨dx,xs,H2,p1,p2,p3,p4⟩:=parse_c0 (text:=t) hg
  have gp:=p2.row.one
  have o3:=aJ H2 [dx] 72 0
  have c3:=bo H2 [dx] 72 0
  have n3:(al H2 [dx] 72 0).next=H2.next+1:=rfl
  have aC:st 1 (.ptr H2.next 0) (.agg [dx]) (al H2 [.ah] 72 0)=some (al H2 [dx] 72 0):=iV (by simp[gp]) rfl rfl (by decide) rfl
  have Dn:st 1 (.ptr H2.next 0) (dv dx) (al H2 [.ah] 72 0)=some (al H2 [dx] 72 0):=aC
  generalize mn:al H2 [dx] 72 0=H3 at *
  have gW:=p3.trans o3
  have h3:=h.out0 gW
  by_cases hp:(aN t).2=0
  ·have dp:((aN t).2 != 0)=false:=by simp[hp]
   rw[if_neg (by simp[hp])]
   have k1:cellAt H3 p 1=some a.nx:=h3.c.cellAt rfl
   have eY:=h3.n.rw.mZ
   rw[ji] at eY
   by_cases bE:f.nms.length=16
   ·have d16:(((f.nms.length:Nat):Int)==16)=true:=by simp[bE]
    rw[if_pos bE]
    refine⟨a,H3,JY ?_,h3,FSt.same gW p a⟩
    unfold BG
    simp(disch:=first|exact zqz|fail)only[k2,lk,Option.getD_none,afk,cond_true,p1,aC,Dn,dp,k1,eY,d16,ar,au,aj,ai,simprocAttr]
   ·have d16:(((f.nms.length:Nat):Int)==16)=false:=by rw[beq_eq_false_iff_ne];omega
    rw[if_neg bE]
    obtain⟨fX,H4,H5,a1,a2,a3,a4,a5⟩:=h3.anJ s (by omega)
    have DZ:=a1 H3.next rfl
    have hf:fl [(.str [])] [(0,1,.str s)]=some [.str s]:=rfl
    have dN:aE H3 [.str s] 9 0=some (H3.next,al H3 [.str s] 9 0):=gB (by simp)
    have aef:H2.next∉own p a:=fun q=>by have:=h.lt _ q;have:=p3.1;omega
    have c5:Cs H5 H2.next [dx] 72 0:=c3.out a4.o aef
    have k5:av H5 H2.next 0 1=some [dx]:=c5.av 1 0 (by simp)
    have kq:=We hp
    have amE:RD H5 dx xs (aN t).1:=(p2.out0 o3).out a4.o fun j hj q=>by have:=p4 j hj;have:=h.lt _ q;omega
    have hg5:Gl H5:=(hg.out0 gW).out a4.o h.lo
    obtain⟨H6,s1,s2⟩:=ae0 hg5 kq.2.1 kq.2.2.1 kq.2.2.2.1 kq.1 amE
    have h6:=a3.out0 s2
    obtain⟨H7,u1,u2,u3⟩:=h6.ajI (s:=s) (by simpa using hs) (o8 (aN t).1)
    have k6:cellAt H5 p 2=some (.map a.tm):=a3.c.cellAt rfl
    have k7:cellAt H6 p 2=some (.map a.tm):=h6.c.cellAt rfl
    refine⟨{ a with nx:=fX },H7,JY ?_,u2,FSt.end gW (a4.trans ((FSt.same s2 p _).trans u3))⟩
    unfold BG
    simp(disch:=first|exact zqz|fail)only[k2,lk,Option.getD_none,afk,cond_true,p1,aC,Dn,dp,k1,eY,d16,hf,dN,DZ,a2,k5,k6,k7,s1,u1,lK (aja _),ar,au,aj,ai,simprocAttr]
  ·have dp:((aN t).2 != 0)=true:=by simp[hp]
   rw[if_pos hp]
   refine⟨a,H3,JY ?_,h3,FSt.same gW p a⟩
   unfold BG
   simp(disch:=first|exact zqz|fail)only[k2,lk,Option.getD_none,afk,cond_true,p1,aC,Dn,dp,ar,au,aj,ai,simprocAttr]
theorem parse_bad {text:aq}(h:(aN text).2≠0):(aN text).1=[]:=by
 unfold aN at h ⊢
 by_cases h1:1024<text.length
 ·rw[if_pos h1]
 ·rw[if_neg h1] at h ⊢
  cases qJ:nq ((cx 59 text).map oD) (cx 59 text) with
  | none=>rfl
  | some ts=>
   rw[qJ] at h
   by_cases h2:jc ts=0
   ·simp only[if_pos h2] at h;exact absurd rfl h
   ·simp only[if_neg h2]
theorem parse_bd (text:aq):(aN text).1.length<=16/\∀ t∈(aN text).1,t.after.length<=16:=by
 by_cases h:(aN text).2=0
 ·obtain⟨g1,g2,g3,g4,g5,g6⟩:=LU h
  exact⟨g3,WZ g3 g4⟩
 ·rw[parse_bad h]
  exact⟨ac4 _,fun t ht=>by cases ht⟩
noncomputable def startM (f:Fm)(e:Ev):Fm × Int:=
 match ju f.txs e.nm with
 | none=>(f,4)
 | some t=>if e.ky≠[]/\(iT f.ks (e.nm,e.ky)).isSome=true then (f,5) else if f.az.length=64 then (f,6) else if e.rn≠(f.az.length:Int)+1 then (f,1) else
  if (bX (aN t).1).2≠0 then (f,(bX (aN t).1).2) else
  ({ f with az:=f.az++[((bX (aN t).1).1,e.nm)],ks:=if e.ky=[] then f.ks else f.ks++[((e.nm,e.ky),e.rn)] },0)
theorem start_c {H:Hp}{p:Nat}{a:FA}{f:Fm}(h:FL H p a f)(hg:Gl H)(hk:f.ks.length<128)(hr:f.az.length<=64)(e:Ev) :
  ∃ a' H',cK (.func (.func 41) [] []) [.ptr p 0,.agg (aG e)] H=some (.int .i64 (startM f e).2,H')/\FL H' p a' (startM f e).1/\FSt H H' p a a':=by
 have aW:bx 26 (.agg (aG e)) H=some (H.next,al H (aG e) 26 0):=iW (by rw[nf];omega)
 have o1:=aJ H (aG e) 26 0
 have c1:=bo H (aG e) 26 0
 have n1:(al H (aG e) 26 0).next=H.next+1:=rfl
 generalize al H (aG e) 26 0=H1 at *
 have h1:=h.out0 o1
 have E1:cellAt H1 H.next 1=some (.int .i64 e.rn):=c1.cellAt rfl
 have E5:cellAt H1 H.next 5=some (.str e.nm):=c1.cellAt rfl
 have E6:cellAt H1 H.next 6=some (.str e.ky):=c1.cellAt rfl
 obtain⟨dx,xs,H2,p1,p2,p3,p4⟩:=adj h1 (hg.out0 o1) e.nm
 have gp:=p2.row.one
 have o3:=aJ H2 [dx] 72 0
 have c3:=bo H2 [dx] 72 0
 have n3:(al H2 [dx] 72 0).next=H2.next+1:=rfl
 have aC:st 1 (.ptr H2.next 0) (dv dx) (al H2 [.ah] 72 0)=some (al H2 [dx] 72 0):=iV (by simp[gp]) rfl rfl (by decide) rfl
 generalize mn:al H2 [dx] 72 0=H3 at *
 have h3:=(h1.out0 p3).out0 o3
 have gW:=(o1.trans p3).trans o3
 have cE3:=(c1.out p3 (by simp)).out o3 (by simp)
 obtain⟨H4,q1,q2⟩:=VT h3 e.nm e.ky
 have h4:=h3.out0 q2
 have mL:=gW.trans q2
 have cE4:=cE3.out q2 (by simp)
 have F5:cellAt H3 H.next 5=some (.str e.nm):=cE3.cellAt rfl
 have F6:cellAt H3 H.next 6=some (.str e.ky):=cE3.cellAt rfl
 have G1:cellAt H4 H.next 1=some (.int .i64 e.rn):=cE4.cellAt rfl
 have G6:cellAt H4 H.next 6=some (.str e.ky):=cE4.cellAt rfl
 have k3:cellAt H4 p 3=some a.rx:=h4.c.cellAt rfl
 have ff:=h4.Ac
 unfold startM
 unfold QB at p2
 cases hs:ju f.txs e.nm with
 | none=>
  rw[hs] at p1
  refine⟨a,H4,vf ?_,h4,FSt.same mL p a⟩
  unfold sO
  simp(disch:=first|exact zqz|fail)only[aW,E5,p1,aC,F5,F6,q1,afk,ar,au,aj,ai,simprocAttr]
 | some t=>
  rw[hs] at p1 p2
  simp only at p2 ⊢
  by_cases hky:e.ky=[]
  ·have b1:(!(e.ky==[]))=false:=by simp[hky]
   rw[if_neg (by simp[hky])]
   by_cases tR:f.az.length=64
   ·have b2:(((f.az.length:Nat):Int)==64)=true:=by simp[tR]
    rw[if_pos tR]
    refine⟨a,H4,vf ?_,h4,FSt.same mL p a⟩
    unfold sO
    simp(disch:=first|exact zqz|fail)only[aW,E5,p1,aC,F5,F6,q1,af7,G6,b1,k3,ff,b2,ar,au,aj,ai,simprocAttr]
   ·have b2:(((f.az.length:Nat):Int)==64)=false:=by rw[beq_eq_false_iff_ne];omega
    rw[if_neg tR]
    have hw:IntKind.wrap .i64 (((f.az.length:Nat):Int)+1)=((f.az.length:Nat):Int)+1:=wrap_i64 (by omega) (by omega)
    by_cases tQ:e.rn=(f.az.length:Int)+1
    ·have b3:(e.rn != ((f.az.length:Nat):Int)+1)=false:=by simp[tQ]
     rw[if_neg (by simp[tQ])]
     have hb:=parse_bd t
     have k5:av H4 H2.next 0 1=some [dx]:=(c3.out q2 (by simp)).av 1 0 (by simp)
     obtain⟨aw,bh,ay,aB,H5,r1,r2,r3,r4⟩:=Vz ((p2.out0 o3).out0 q2) (by have:=hb.1;omega) (fun u hu=>by have:=hb.2 u hu;omega)
     have o6:=aJ H5 (rv aw (bX (aN t).1).1.st ay aB) 75 0
     have c6:=bo H5 (rv aw (bX (aN t).1).1.st ay aB) 75 0
     have n6:(al H5 (rv aw (bX (aN t).1).1.st ay aB) 75 0).next=H5.next+1:=rfl
     have hst4:st 4 (.ptr H5.next 0) (.agg (rv aw (bX (aN t).1).1.st ay aB)) (al H5 [.ah,(.int .i64 0),.ah,.ah] 75 0)=some (al H5 (rv aw (bX (aN t).1).1.st ay aB) 75 0):=iV (by simp[r2.v.d.row.one,r2.t.rl.one,r2.s.jO,kA]) rfl rfl (by decide) rfl
     generalize hA6:al H5 (rv aw (bX (aN t).1).1.st ay aB) 75 0=H6 at *
     have h6:=(h4.out0 r3).out0 o6
     have o16:=(mL.trans r3).trans o6
     by_cases he:(bX (aN t).1).2=0
     ·have b4:((bX (aN t).1).2 != 0)=false:=by simp[he]
      rw[if_neg (by simp[he]),if_pos hky]
      have m3:cellAt H6 p 3=some a.rx:=h6.c.cellAt rfl
      have m4:av H6 H5.next 0 4=some (rv aw (bX (aN t).1).1.st ay aB):=c6.av 4 0 (by simp)
      have cE6:=(cE4.out r3 (by simp)).out o6 (by simp)
      have m5:cellAt H6 H.next 5=some (.str e.nm):=cE6.cellAt rfl
      have hRV:RV H6 aw bh ay aB (bX (aN t).1).1:=r2.v.out0 o6
      have wz:∀ j∈(RA.mk aw bh ay aB).fp,j∉own p a:=fun j hj q=>by have:=r4 j hj;have:=h4.lt j q;omega
      obtain⟨eI,H7,H8,a1,a2,a3,a4,a5,a6,a7⟩:=h6.TU (r':=⟨aw,bh,ay,aB⟩) (x:=((bX (aN t).1).1,e.nm)) hRV wz (by omega)
      have DZ:=a1 H6.next rfl
      have f1:fl [.ah,(.int .i64 0),.ah,.ah,(.str [])] [(0,4,.agg (rv aw (bX (aN t).1).1.st ay aB)),(4,1,.str e.nm)]=some (dI ⟨aw,bh,ay,aB⟩ ((bX (aN t).1).1,e.nm)):=by
       rw[zT (l:=rv aw (bX (aN t).1).1.st ay aB) (n:=4) rfl (by simp),GY rfl (by simp),tP];rfl
      have f2:fl [.ah,(.int .i64 0),.ah,.ah,(.str [])] [(0,5,.agg (dI ⟨aw,bh,ay,aB⟩ ((bX (aN t).1).1,e.nm)))]=some (dI ⟨aw,bh,ay,aB⟩ ((bX (aN t).1).1,e.nm)):=by
       rw[zT (l:=dI ⟨aw,bh,ay,aB⟩ ((bX (aN t).1).1,e.nm)) (n:=5) rfl (by simp),tP];rfl
      have dN:aE H6 (dI ⟨aw,bh,ay,aB⟩ ((bX (aN t).1).1,e.nm)) 77 0=some (H6.next,al H6 (dI ⟨aw,bh,ay,aB⟩ ((bX (aN t).1).1,e.nm)) 77 0):=gB (by simp[dI])
      have m6:cellAt (al H6 (dI ⟨aw,bh,ay,aB⟩ ((bX (aN t).1).1,e.nm)) 77 0) p 3=some a.rx:=by rw[tw h6.c.1];exact m3
      have mJ:=Df h6.r.1.rw
      have hEo:H.next∉own p a:=fun q=>by have:=h.lt _ q;omega
      have m8:cellAt H8 H.next 6=some (.str e.ky):=(cE6.out a4 hEo).cellAt rfl
      have hFS:FSt H H8 p a { a with rx:=eI,ras:=a.ras++[⟨aw,bh,ay,aB⟩] }:=by
       have:=mL.1;have:=o16.1
       exact⟨(o16.mono fun j hj=>by cases hj).trans a4,fun j hj=>(a5 j hj).imp (fun q=>q) fun q=>by omega,fun j hj=>(a6 j hj).imp (fun q=>q) fun q=>by have:=r4 j q;omega⟩
      refine⟨_,H8,vf ?_,a3,hFS⟩
      unfold sO
      simp(disch:=first|exact zqz|fail)only[aW,E5,p1,aC,F5,F6,q1,af7,G6,b1,k3,ff,b2,G1,hw,b3,k5,r1,hst4,b4,m3,m4,m5,f1,f2,dN,DZ,a2,m6,lK mJ,m8,ar,au,aj,ai,simprocAttr]
     ·have b4:((bX (aN t).1).2 != 0)=true:=by simp[he]
      rw[if_pos he]
      refine⟨a,H6,vf ?_,h6,FSt.same o16 p a⟩
      unfold sO
      simp(disch:=first|exact zqz|fail)only[aW,E5,p1,aC,F5,F6,q1,af7,G6,b1,k3,ff,b2,G1,hw,b3,k5,r1,hst4,b4,ar,au,aj,ai,simprocAttr]
    ·have b3:(e.rn != ((f.az.length:Nat):Int)+1)=true:=by simp[tQ]
     rw[if_pos tQ]
     refine⟨a,H4,vf ?_,h4,FSt.same mL p a⟩
     unfold sO
     simp(disch:=first|exact zqz|fail)only[aW,E5,p1,aC,F5,F6,q1,af7,G6,b1,k3,ff,b2,G1,hw,b3,ar,au,aj,ai,simprocAttr]
  ·have b1:(!(e.ky==[]))=true:=by simp[hky]
   cases hgk:iT f.ks (e.nm,e.ky) with
   | some had=>
    rw[if_pos ⟨hky,rfl⟩]
    rw[hgk] at q1
    refine⟨a,H4,vf ?_,h4,FSt.same mL p a⟩
    unfold sO
    simp(disch:=first|exact zqz|fail)only[aW,E5,p1,aC,F5,F6,q1,af7,afI,G6,b1,ar,au,aj,ai,simprocAttr]
   | none=>
   rw[if_neg (by simp)]
   rw[hgk] at q1
   by_cases tR:f.az.length=64
   ·have b2:(((f.az.length:Nat):Int)==64)=true:=by simp[tR]
    rw[if_pos tR]
    refine⟨a,H4,vf ?_,h4,FSt.same mL p a⟩
    unfold sO
    simp(disch:=first|exact zqz|fail)only[aW,E5,p1,aC,F5,F6,q1,af7,afk,G6,b1,k3,ff,b2,ar,au,aj,ai,simprocAttr]
   ·have b2:(((f.az.length:Nat):Int)==64)=false:=by rw[beq_eq_false_iff_ne];omega
    rw[if_neg tR]
    have hw:IntKind.wrap .i64 (((f.az.length:Nat):Int)+1)=((f.az.length:Nat):Int)+1:=wrap_i64 (by omega) (by omega)
    by_cases tQ:e.rn=(f.az.length:Int)+1
    ·have b3:(e.rn != ((f.az.length:Nat):Int)+1)=false:=by simp[tQ]
     rw[if_neg (by simp[tQ])]
     have hb:=parse_bd t
     have k5:av H4 H2.next 0 1=some [dx]:=(c3.out q2 (by simp)).av 1 0 (by simp)
     obtain⟨aw,bh,ay,aB,H5,r1,r2,r3,r4⟩:=Vz ((p2.out0 o3).out0 q2) (by have:=hb.1;omega) (fun u hu=>by have:=hb.2 u hu;omega)
     have o6:=aJ H5 (rv aw (bX (aN t).1).1.st ay aB) 75 0
     have c6:=bo H5 (rv aw (bX (aN t).1).1.st ay aB) 75 0
     have n6:(al H5 (rv aw (bX (aN t).1).1.st ay aB) 75 0).next=H5.next+1:=rfl
     have hst4:st 4 (.ptr H5.next 0) (.agg (rv aw (bX (aN t).1).1.st ay aB)) (al H5 [.ah,(.int .i64 0),.ah,.ah] 75 0)=some (al H5 (rv aw (bX (aN t).1).1.st ay aB) 75 0):=iV (by simp[r2.v.d.row.one,r2.t.rl.one,r2.s.jO,kA]) rfl rfl (by decide) rfl
     generalize hA6:al H5 (rv aw (bX (aN t).1).1.st ay aB) 75 0=H6 at *
     have h6:=(h4.out0 r3).out0 o6
     have o16:=(mL.trans r3).trans o6
     by_cases he:(bX (aN t).1).2=0
     ·have b4:((bX (aN t).1).2 != 0)=false:=by simp[he]
      rw[if_neg (by simp[he]),if_neg hky]
      have m3:cellAt H6 p 3=some a.rx:=h6.c.cellAt rfl
      have m4:av H6 H5.next 0 4=some (rv aw (bX (aN t).1).1.st ay aB):=c6.av 4 0 (by simp)
      have cE6:=(cE4.out r3 (by simp)).out o6 (by simp)
      have m5:cellAt H6 H.next 5=some (.str e.nm):=cE6.cellAt rfl
      have hRV:RV H6 aw bh ay aB (bX (aN t).1).1:=r2.v.out0 o6
      have wz:∀ j∈(RA.mk aw bh ay aB).fp,j∉own p a:=fun j hj q=>by have:=r4 j hj;have:=h4.lt j q;omega
      obtain⟨eI,H7,H8,a1,a2,a3,a4,a5,a6,a7⟩:=h6.TU (r':=⟨aw,bh,ay,aB⟩) (x:=((bX (aN t).1).1,e.nm)) hRV wz (by omega)
      have DZ:=a1 H6.next rfl
      have f1:fl [.ah,(.int .i64 0),.ah,.ah,(.str [])] [(0,4,.agg (rv aw (bX (aN t).1).1.st ay aB)),(4,1,.str e.nm)]=some (dI ⟨aw,bh,ay,aB⟩ ((bX (aN t).1).1,e.nm)):=by
       rw[zT (l:=rv aw (bX (aN t).1).1.st ay aB) (n:=4) rfl (by simp),GY rfl (by simp),tP];rfl
      have f2:fl [.ah,(.int .i64 0),.ah,.ah,(.str [])] [(0,5,.agg (dI ⟨aw,bh,ay,aB⟩ ((bX (aN t).1).1,e.nm)))]=some (dI ⟨aw,bh,ay,aB⟩ ((bX (aN t).1).1,e.nm)):=by
       rw[zT (l:=dI ⟨aw,bh,ay,aB⟩ ((bX (aN t).1).1,e.nm)) (n:=5) rfl (by simp),tP];rfl
      have dN:aE H6 (dI ⟨aw,bh,ay,aB⟩ ((bX (aN t).1).1,e.nm)) 77 0=some (H6.next,al H6 (dI ⟨aw,bh,ay,aB⟩ ((bX (aN t).1).1,e.nm)) 77 0):=gB (by simp[dI])
      have m6:cellAt (al H6 (dI ⟨aw,bh,ay,aB⟩ ((bX (aN t).1).1,e.nm)) 77 0) p 3=some a.rx:=by rw[tw h6.c.1];exact m3
      have mJ:=Df h6.r.1.rw
      have hEo:H.next∉own p a:=fun q=>by have:=h.lt _ q;omega
      have m8:cellAt H8 H.next 6=some (.str e.ky):=(cE6.out a4 hEo).cellAt rfl
      have hFS:FSt H H8 p a { a with rx:=eI,ras:=a.ras++[⟨aw,bh,ay,aB⟩] }:=by
       have:=mL.1;have:=o16.1
       exact⟨(o16.mono fun j hj=>by cases hj).trans a4,fun j hj=>(a5 j hj).imp (fun q=>q) fun q=>by omega,fun j hj=>(a6 j hj).imp (fun q=>q) fun q=>by have:=r4 j q;omega⟩
      have m1:cellAt H8 H.next 1=some (.int .i64 e.rn):=(cE6.out a4 hEo).cellAt rfl
      have m9:cellAt H8 H.next 5=some (.str e.nm):=(cE6.out a4 hEo).cellAt rfl
      have m0:cellAt H8 p 4=some (.ptr a.kp 0):=a3.c.cellAt rfl
      have f3:fl [(.str []),(.str [])] [(0,1,.str e.nm),(1,1,.str e.ky)]=some (cn (e.nm,e.ky)):=rfl
      obtain⟨tN,H9,y1,y2,y3⟩:=a3.gE hk hgk e.rn
      have y1':cK (.func (.func 33) [] []) [.ptr a.kp 0,.agg (cn (e.nm,e.ky)),.int .i64 e.rn] H8=some (.tuple [.int .i64 e.rn,.bool true],H9):=y1
      refine⟨_,H9,vf ?_,y2,hFS.trans y3⟩
      unfold sO
      simp(disch:=first|exact zqz|fail)only[aW,E5,p1,aC,F5,F6,q1,af7,afk,G6,b1,k3,ff,b2,G1,hw,b3,k5,r1,hst4,b4,m3,m4,m5,f1,f2,dN,DZ,a2,m6,lK mJ,m8,m1,m9,m0,f3,y1',ar,au,aj,ai,simprocAttr]
     ·have b4:((bX (aN t).1).2 != 0)=true:=by simp[he]
      rw[if_pos he]
      refine⟨a,H6,vf ?_,h6,FSt.same o16 p a⟩
      unfold sO
      simp(disch:=first|exact zqz|fail)only[aW,E5,p1,aC,F5,F6,q1,af7,afk,G6,b1,k3,ff,b2,G1,hw,b3,k5,r1,hst4,b4,ar,au,aj,ai,simprocAttr]
    ·have b3:(e.rn != ((f.az.length:Nat):Int)+1)=true:=by simp[tQ]
     rw[if_pos tQ]
     refine⟨a,H4,vf ?_,h4,FSt.same mL p a⟩
     unfold sO
     simp(disch:=first|exact zqz|fail)only[aW,E5,p1,aC,F5,F6,q1,af7,afk,G6,b1,k3,ff,b2,G1,hw,b3,ar,au,aj,ai,simprocAttr]
def tickAt (now:Int)(R:Rn)(i:Nat):Rn:=match R.rs[i]?,R.ts[i]? with
 | some t,some d=>if R.st≠0\/now<t.kC then R else if t.ph=2 then lI R i t d now else if t.ph=5 then { R with rs:=R.rs.set i { t with ph:=1,kC:=0 } } else R
 | _,_=>R
def tickN (now:Int):Nat->Nat->Rn->Rn
 | 0,_,R=>R
 | m+1,i,R=>tickN now m (i+1) (tickAt now R i)
def tickM (R:Rn)(now:Int):Rn:=tickN now R.rs.length 0 R
theorem mem_set {rs:List RT}{i:Nat}{u v:RT}(h:v∈rs.set i u):v∈rs\/v=u:=agY h
theorem failR_keep {R:Rn}{i:Nat}{t:RT}{d:Tk}{now:Int}(ht:R.rs[i]? = some t)(hk:lX R)(hb:sS R):lX (lI R i t d now)/\sS (lI R i t d now)/\(lI R i t d now).ts=R.ts/\(lI R i t d now).sg=R.sg/\(lI R i t d now).rs.length=R.rs.length:=by
 have hbt:=hb.t t (aaF ht)
 unfold lI
 split
 ·refine⟨hk.set i _,⟨hb.d,fun u hu => ?_⟩,rfl,rfl,adM⟩
  rcases mem_set hu with hu | rfl
  ·exact hb.t u hu
  ·exact hbt
 ·have h1:=hk.set i { t with ph:=4,kC:=0 }
  refine⟨⟨⟨h1.sm.n,h1.sm.a,h1.sm.r,h1.sm.s⟩,h1.len,h1.jn⟩,⟨hb.d,fun u hu => ?_⟩,rfl,rfl,adM⟩
  rcases mem_set hu with hu | rfl
  ·exact hb.t u hu
  ·exact hbt
theorem tickAt_keep {R:Rn}{i:Nat}{now:Int}(hk:lX R)(hb:sS R):lX (tickAt now R i)/\sS (tickAt now R i)/\(tickAt now R i).ts=R.ts/\(tickAt now R i).sg=R.sg/\(tickAt now R i).rs.length=R.rs.length:=by
 unfold tickAt
 split
 ·rename_i t d ht hd
  split
  ·exact⟨hk,hb,rfl,rfl,rfl⟩
  ·split
   ·exact failR_keep ht hk hb
   ·split
    ·refine⟨hk.set i _,⟨hb.d,fun u hu => ?_⟩,rfl,rfl,adM⟩
     rcases mem_set hu with hu | rfl
     ·exact hb.t u hu
     ·exact hb.t t (aaF ht)
    ·exact⟨hk,hb,rfl,rfl,rfl⟩
 ·exact⟨hk,hb,rfl,rfl,rfl⟩
theorem tick_loop {dx tx sx bJ:AV}{xs:List AV}{P n:Nat}{now:Int}(hn:n<=1000)(hp:P∉mG dx xs tx sx):∀ (m i:Nat) (H:Hp) (R:Rn),i+m=n->R.rs.length=n->Cs H P (rv dx R.st tx sx) 75 0->RO H dx xs tx sx R->lX R->sS R->
  ∃ H',(∀ cH:K.Fn 2,xZ JN GO cK cH (.int .i64 now) (.ptr P 0) bJ (.int .i64 (n:Nat)) (.int .i64 (i:Nat)) H=cH (.ptr P 0) bJ H')/\Cs H' P (rv dx (tickN now m i R).st tx sx) 75 0/\RO H' dx xs tx sx (tickN now m i R)/\Out (P::ak tx) H H'
 | 0,i,H,R,hm,hl,hC,hO,hk,hb=>by
  obtain rfl:i=n:=by omega
  refine⟨H,fun cH => ?_,hC,hO,Out.refl _ _⟩
  rw[DF]
  simp only[bl__run_Run_Tick,fZ,aj,ai,simprocAttr]
 | m+1,i,H,R,hm,hl,hC,hO,hk,hb=>by
  have h1:i<n:=by omega
  have es:=gq h1 (by omega)
  have ht:R.rs[i]? = some (R.rs[i]'(by omega)):=aau _
  have aI:R.ts.length=n:=by rw[<-hk.len];exact hl
  have hd:R.ts[i]? = some (R.ts[i]'(by omega)):=aau _
  have kp:=tickAt_keep (i:=i) (now:=now) hk hb
  have hA:tickAt now R i=(if R.st≠0\/now<(R.rs[i]'(by omega)).kC then R else if (R.rs[i]'(by omega)).ph=2 then lI R i (R.rs[i]'(by omega)) (R.ts[i]'(by omega)) now else if (R.rs[i]'(by omega)).ph=5 then { R with rs:=R.rs.set i { (R.rs[i]'(by omega)) with ph:=1,kC:=0 } } else R):=by
   unfold tickAt;rw[ht,hd]
  generalize R.rs[i]'(by omega)=t at *
  generalize R.ts[i]'(by omega)=d at *
  have c1:cellAt H P 1=some (.int .i64 R.st):=hC.cellAt rfl
  have c2:cellAt H P 2=some tx:=hC.cellAt rfl
  obtain⟨b,o,q1,q2,q3,q4,q5⟩:=hO.v.t.at (by decide) (qw ht)
  have r0:cellAt H b o=some (.int .i64 t.ph):=by have:=q5 0 _ (yl t).1;rwa[aem] at this
  have r2:cellAt H b (o+2)=some (.int .i64 t.kC):=q5 2 _ (yl t).2.2.1
  have bu:=(aas.1 ht).1
  show ∃ H',(∀ cH:K.Fn 2,_)/\Cs H' P (rv dx (tickN now m (i+1) (tickAt now R i)).st tx sx) 75 0/\RO H' dx xs tx sx (tickN now m (i+1) (tickAt now R i))/\Out (P::ak tx) H H'
  have go:∀ (H1:Hp),Cs H1 P (rv dx (tickAt now R i).st tx sx) 75 0->RO H1 dx xs tx sx (tickAt now R i)->Out (P::ak tx) H H1->(∀ H':Hp,(∀ cH:K.Fn 2,xZ JN GO cK cH (.int .i64 now) (.ptr P 0) bJ (.int .i64 (n:Nat)) (.int .i64 ((i+1:Nat):Int)) H1=cH (.ptr P 0) bJ H')->∀ cH:K.Fn 2,xZ JN GO cK cH (.int .i64 now) (.ptr P 0) bJ (.int .i64 (n:Nat)) (.int .i64 (i:Nat)) H=cH (.ptr P 0) bJ H')->
    ∃ H',(∀ cH:K.Fn 2,xZ JN GO cK cH (.int .i64 now) (.ptr P 0) bJ (.int .i64 (n:Nat)) (.int .i64 (i:Nat)) H=cH (.ptr P 0) bJ H')/\Cs H' P (rv dx (tickN now m (i+1) (tickAt now R i)).st tx sx) 75 0/\RO H' dx xs tx sx (tickN now m (i+1) (tickAt now R i))/\Out (P::ak tx) H H':=by
   intro H1 a1 a2 a3 a4
   obtain⟨H',i1,i2,i3,i4⟩:=tick_loop (bJ:=bJ) hn hp m (i+1) H1 (tickAt now R i) (by omega) (kp.2.2.2.2.trans hl) a1 a2 kp.1 kp.2.1
   exact⟨H',a4 H' i1,i2,i3,a3.trans i4⟩
  clear kp
  by_cases h0:R.st=0
  ·have d0:(R.st != 0)=false:=by simp[h0]
   by_cases h2:now<t.kC
   ·have d2:decide (now<t.kC)=true:=decide_eq_true h2
    rw[if_pos (.inr h2)] at hA
    rw[hA] at go ⊢
    refine go H hC hO (Out.refl _ _) fun H' i1 cH => ?_
    rw[DF]
    simp(disch:=first|exact zqz|fail)only[bl__run_Run_Tick,bH h1,c1,c2,q1,d0,r2,d2,es,i1,ar,au,aj,ai,simprocAttr]
   ·have d2:decide (now<t.kC)=false:=decide_eq_false h2
    rw[if_neg (fun q=>q.elim (fun z=>z h0) h2)] at hA
    by_cases h3:t.ph=2
    ·have d3:(t.ph==2)=true:=by simp[h3]
     rw[if_pos h3] at hA
     rw[hA] at go ⊢
     have bd:=hb.d d (aaF hd)
     have bt:=hb.t t (aaF ht)
     obtain⟨H1,f1,f2,f3,f4⟩:=T8 hC hO hp ht hd bd.1 bd.2 bt.1 bt.2 now
     refine go H1 f2 f3 f4 fun H' i1 cH => ?_
     rw[DF]
     simp(disch:=first|exact zqz|fail)only[bl__run_Run_Tick,bH h1,c1,c2,q1,d0,r2,d2,r0,d3,f1,es,i1,ar,au,aj,ai,simprocAttr]
    ·have d3:(t.ph==2)=false:=by simp[h3]
     rw[if_neg h3] at hA
     by_cases h5:t.ph=5
     ·have d5:(t.ph==5)=true:=by simp[h5]
      rw[if_pos h5] at hA
      rw[hA] at go ⊢
      obtain⟨H2,w1,w2,w3,w4⟩:=hO.t.fG (k:=0) (v := .int .i64 1) (qw ht) q1 rfl (by decide)
      have e2:((gz R.rs).set i ((eG t).set 0 (.int .i64 1)))[i]? = some ((eG t).set 0 (.int .i64 1)):=afz (by rw[yG];exact bu)
      obtain⟨H3,v1,v2,v3,v4⟩:=w2.fG (k:=2) (v := .int .i64 0) e2 q1 rfl (by decide)
      rw[List.set_set] at v2
      have fh:((eG t).set 0 (.int .i64 1)).set 2 (.int .i64 0)=eG { t with ph:=1,kC:=0 }:=rfl
      rw[fh,LK] at v2
      rw[aem] at w1
      have o3:=w3.trans v3
      have xe:P∉ak tx:=fun z=>hp (abx _ (abA _ z))
      refine go H3 (hC.out o3 xe) (hO.bO v2 o3) (o3.mono fun j hj => .tail _ hj) fun H' i1 cH => ?_
      rw[DF]
      simp(disch:=first|exact zqz|fail)only[bl__run_Run_Tick,bH h1,c1,c2,q1,d0,r2,d2,r0,d3,d5,w1,v1,es,i1,ar,au,aj,ai,simprocAttr]
     ·have d5:(t.ph==5)=false:=by simp[h5]
      rw[if_neg h5] at hA
      rw[hA] at go ⊢
      refine go H hC hO (Out.refl _ _) fun H' i1 cH => ?_
      rw[DF]
      simp(disch:=first|exact zqz|fail)only[bl__run_Run_Tick,bH h1,c1,c2,q1,d0,r2,d2,r0,d3,d5,es,i1,ar,au,aj,ai,simprocAttr]
  ·have d0:(R.st != 0)=true:=by simp[h0]
   rw[if_pos (.inl h0)] at hA
   rw[hA] at go ⊢
   refine go H hC hO (Out.refl _ _) fun H' i1 cH => ?_
   rw[DF]
   simp(disch:=first|exact zqz|fail)only[bl__run_Run_Tick,bH h1,c1,c2,q1,d0,es,i1,ar,au,aj,ai,simprocAttr]
theorem tick_c {H:Hp}{dx tx sx:AV}{xs:List AV}{R:Rn}(h:RV H dx xs tx sx R)(hk:lX R)(hb:sS R)(now:Int) :
  ∃ aw bh ay aB H',cK (.func (.func 77) [] []) [.agg (rv dx R.st tx sx),.int .i64 now] H=some (.agg (rv aw (tickM R now).st ay aB),H')/\RO H' aw bh ay aB (tickM R now)/\Out [] H H'/\∀ j∈mG aw bh ay aB,H.next<=j:=by
 have aW:bx 75 (.agg (rv dx R.st tx sx)) H=some (H.next,al H (rv dx R.st tx sx) 75 0):=iW (by simp)
 have o1:=aJ H (rv dx R.st tx sx) 75 0
 have c1:=bo H (rv dx R.st tx sx) 75 0
 have n1:(al H (rv dx R.st tx sx) 75 0).next=H.next+1:=rfl
 generalize al H (rv dx R.st tx sx) 75 0=H1 at *
 have o2:=aJ H1 zR 75 0
 have c2:=bo H1 zR 75 0
 have n2:(al H1 zR 75 0).next=H.next+2:=by rw[bI,n1]
 rw[n1] at c2
 generalize dh:al H1 zR 75 0=H2 at *
 have dW:=o1.trans o2
 have jv:=c1.out o2 (by simp)
 have k1:av H2 H.next 0 4=some (rv dx R.st tx sx):=jv.av 4 0 (by simp)
 obtain⟨aw,bh,ay,aB,H4,r1,r2,r3,r4⟩:=yn (h.out0 dW) hk.sm
 have n4:=r3.nx
 have ones:∀ z:Int,(rv aw z ay aB).all ba=true:=fun z=>by simp[r2.v.d.row.one,r2.t.rl.one,r2.s.jO,kA]
 obtain⟨H5,s1,s2,s3,s4⟩:=fN (n:=4) (vs:=rv aw R.st ay aB) (jv.out r3 (by simp)) rfl rfl (ones _)
 have fr:∀ m,m<H.next+2->∀ j∈mG aw bh ay aB,j∉[m]:=fun m hm j hj=>by rw[No];have:=r4 j hj;omega
 have R5:=r2.out s3 (fr _ (by omega))
 have wj:∀ m,m<H.next+2->m∉ak ay:=fun m hm z=>by have:=r4 m (abx _ (abA _ z));omega
 have hr:=hk.sm.r
 obtain⟨H7,t1,t2,t3,t4⟩:=tick_loop (bJ := .ptr (H.next+1) 0) (P:=H.next) (now:=now) hr (fun z=>by have:=r4 _ z;omega) R.rs.length 0 H5 R (by omega) rfl s2 R5 hk hb
 rw[show (((0:Nat):Int))=0 from rfl] at t1
 have ht2:Cs H7 H.next (rv aw (tickM R now).st ay aB) 75 0:=t2
 have Ls:RO H7 aw bh ay aB (tickM R now):=t3
 have Gu:∀ m,m<H.next+2->m≠H.next->m∉H.next::ak ay:=fun m hm aO z=>(aaY.1 z).elim aO (wj m hm)
 have Hu:=((c2.out r3 (by simp)).out s3 (by rw[No];omega)).out t4 (Gu _ (by omega) (by omega))
 have k5:cellAt H5 H.next 2=some ay:=s2.cellAt rfl
 have tl:=R5.v.Z9
 have k7:av H7 H.next 0 4=some (rv aw (tickM R now).st ay aB):=ht2.av 4 0 (by simp)
 obtain⟨H8,w1,w2,w3,w4⟩:=fN (n:=4) (vs:=rv aw (tickM R now).st ay aB) Hu rfl rfl (ones _)
 have k8:av H8 (H.next+1) 0 4=some (rv aw (tickM R now).st ay aB):=w2.av 4 0 (by simp)
 have qB:∀ j∈ak ay,H.next<=j:=fun j hj=>by have:=r4 j (abx _ (abA _ hj));omega
 have out:=gF (gF (gF (dW.trans r3) s3 (kf (aaH _))) t4 (fun j hj=>(aaY.1 hj).elim (fun e=>by omega) (qB j))) w3 (kf (afu _))
 refine⟨aw,bh,ay,aB,H8,amS ?_,Ls.out w3 (fr _ (by omega)),out,fun j hj=>by have:=r4 j hj;omega⟩
 unfold MV
 simp(disch:=first|exact zqz|fail)only[aW,n1,dh,k1,r1,s1,k5,tl,t1,k7,w1,k8,ar,au,aj,ai,simprocAttr]
def cancelM (R:Rn):Rn × Int:=if R.st≠0 then (qT,9) else ({ R with st:=3 },0)
theorem cancel_c {H:Hp}{dx tx sx:AV}{xs:List AV}{R:Rn}(h:RV H dx xs tx sx R)(hk:lX R) :
  mU (.func (.func 82) [] []) [.agg (rv dx R.st tx sx)] H (cancelM R).1 (cancelM R).2:=by
 have aW:bx 75 (.agg (rv dx R.st tx sx)) H=some (H.next,al H (rv dx R.st tx sx) 75 0):=iW (by simp)
 have o1:=aJ H (rv dx R.st tx sx) 75 0
 have c1:=bo H (rv dx R.st tx sx) 75 0
 have n1:(al H (rv dx R.st tx sx) 75 0).next=H.next+1:=rfl
 generalize al H (rv dx R.st tx sx) 75 0=H1 at *
 have o2:=aJ H1 zR 75 0
 have c2:=bo H1 zR 75 0
 have n2:(al H1 zR 75 0).next=H.next+2:=by rw[bI,n1]
 rw[n1] at c2
 generalize dh:al H1 zR 75 0=H2 at *
 have dW:=o1.trans o2
 have jv:=c1.out o2 (by simp)
 have k1:cellAt H2 H.next 1=some (.int .i64 R.st):=jv.cellAt rfl
 have k4:av H2 H.next 0 4=some (rv dx R.st tx sx):=jv.av 4 0 (by simp)
 unfold cancelM
 by_cases h0:R.st=0
 ·have d0:(R.st != 0)=false:=by simp[h0]
  rw[if_neg (by simp[h0])]
  obtain⟨aw,bh,ay,aB,H3,r1,r2,r3,r4⟩:=yn (h.out0 dW) hk.sm
  obtain⟨H4,s1,s2,s3,s4⟩:=fN (n:=4) (vs:=rv aw R.st ay aB) (jv.out r3 (by simp)) rfl rfl (by simp[r2.v.d.row.one,r2.t.rl.one,r2.s.jO,kA])
  obtain⟨H5,t1,t2,t3,t4⟩:=fG s2 (by decide) (o:=1) (by simp) (v := .int .i64 3) rfl
  have fh:(rv aw R.st ay aB).set 1 (.int .i64 3)=rv aw 3 ay aB:=rfl
  rw[fh] at t2
  have k5:av H5 H.next 0 4=some (rv aw 3 ay aB):=t2.av 4 0 (by simp)
  have aO:H.next+1∉[H.next]:=by rw[No];omega
  have cQ:=((c2.out r3 (by simp)).out s3 aO).out t3 aO
  obtain⟨H6,u1,u2,u3,u4⟩:=fN (n:=4) (vs:=rv aw 3 ay aB) cQ rfl rfl (by simp[r2.v.d.row.one,r2.t.rl.one,r2.s.jO,kA])
  have k6:av H6 (H.next+1) 0 4=some (rv aw 3 ay aB):=u2.av 4 0 (by simp)
  have fr:∀ m,m<H.next+2->∀ j∈mG aw bh ay aB,j∉[m]:=fun m hm j hj=>by rw[No];have:=r4 j hj;omega
  have R6:=((r2.out s3 (fr _ (by omega))).out t3 (fr _ (by omega))).out u3 (fr _ (by omega))
  have out:=gF (gF (gF (dW.trans r3) s3 (kf (aaH _))) t3 (kf (aaH _))) u3 (kf (afu _))
  refine⟨aw,bh,ay,aB,H6,Va ?_,⟨⟨R6.v.d,R6.v.t,R6.v.s⟩,R6.t,R6.s,R6.dt,R6.ds⟩,out,fun j hj=>by have:=r4 j hj;omega⟩
  unfold OP
  simp(disch:=first|exact zqz|fail)only[aW,n1,dh,k1,d0,k4,r1,s1,t1,k5,u1,k6,ar,au,aj,ai,simprocAttr]
 ·have d0:(R.st != 0)=true:=by simp[h0]
  rw[if_pos h0]
  have k5:av H2 (H.next+1) 0 4=some zR:=c2.av 4 0 (by simp)
  refine mU.err (H1:=H2) (m:=H.next+1) (Va (?_:_=some (_,H2))) dW (Out.refl _ _) (afu _)
  have hz:st 4 (.ptr (H.next+1) 0) (.agg zR) (al H1 zR 75 0)=some H2:=by rw[<-dh];exact iV rfl rfl n1.symm (by decide) rfl
  rw[dh] at hz
  unfold OP
  simp(disch:=first|exact zqz|fail)only[aW,n1,dh,k1,d0,hz,k5,ar,au,aj,ai,simprocAttr]
def tkx (now:Int)(x:Rn × aq):Rn × aq:=(tickM x.1 now,x.2)
def tickF (f:Fm)(now:Int):Fm × Int:=if now<=f.ck then (f,10) else ({ f with ck:=now,az:=f.az.map (tkx now) },0)
def tkd (f:Fm)(now:Int)(i:Nat):Fm:={ f with ck:=now,az:=(f.az.take i).map (tkx now)++f.az.drop i }
theorem tkd_at {f:Fm}{now:Int}{i:Nat}{x:Rn × aq}(h:f.az[i]? = some x):(tkd f now i).az[i]? = some x:=by
 have hi:=(aas.1 h).1
 show ((f.az.take i).map (tkx now)++f.az.drop i)[i]? = _
 rw[ab7 (by rw[adV,ael];omega),adV,ael,afT,Nat.min_eq_left (by omega),ahF,aem]
 exact h
theorem tkd_set {f:Fm}{now:Int}{i:Nat}{x:Rn × aq}(h:f.az[i]? = some x):(tkd f now i).az.set i (tkx now x)=(tkd f now (i+1)).az:=by
 have hi:=(aas.1 h).1
 show ((f.az.take i).map (tkx now)++f.az.drop i).set i (tkx now x)=(f.az.take (i+1)).map (tkx now)++f.az.drop (i+1)
 have hd:f.az.drop i=x::f.az.drop (i+1):=by
  rw[ajb hi]
  rw[aau hi] at h
  rw[adw h]
 rw[ajU _ _ (by rw[adV,ael];omega),adV,ael,Nat.min_eq_left (by omega),ahF,hd,ahw,h,List.set_cons_zero,ad8,ae9]
 rfl
theorem FL.at {H:Hp}{p:Nat}{a:FA}{f:Fm}(h:FL H p a f){i:Nat}{x:Rn × aq}(hx:f.az[i]? = some x) :
  ∃ r b o,a.ras[i]? = some r/\(∀ kd,ia 5 a.rx (.int kd i)=some (.ptr b o))/\b∈ak a.rx/\b<H.next/\av H b o 4=some (rv r.dx x.1.st r.tx r.sx)/\av H b o 5=some (dI r x)/\RV H r.dx r.xs r.tx r.sx x.1:=by
 have bu:=(aas.1 hx).1
 have hr:a.ras[i]? = some (a.ras[i]'(by rw[h.len];exact bu)):=aau _
 obtain⟨b,o,q1,q2,q3,q4,q5⟩:=h.r.rl.at (by decide) (RU hr hx)
 refine⟨_,b,o,hr,q1,q2,q3,?_,q4,h.v i _ x hr hx⟩
 have e0:=q5 0 _ rfl
 have e1:=q5 1 _ rfl
 have e2:=q5 2 _ rfl
 have e3:=q5 3 _ rfl
 rw[aem] at e0
 simp only[av,e0,e1,e2,e3,acX,adu]
 rfl
theorem ftick_loop {p:Nat}{f:Fm}{now:Int}(hr:f.az.length<=64)(wA:∀ x∈f.az,lX x.1/\sS x.1):∀ (r:List (Rn × aq)) (i:Nat) (H:Hp) (a:FA),i<=f.az.length->f.az.drop i=r->FL H p a (tkd f now i)->
  ∃ a' H',(∀ cu:K.Fn 0,Hq JN GO cK cu (.ptr p 0) (.int .i64 now) (.int .i64 (f.az.length:Nat)) (.int .i64 (i:Nat)) H=cu H')/\FL H' p a' (tkd f now f.az.length)/\FSt H H' p a a'
 | [],i,H,a,hi,h,hF=>by
  obtain rfl:=drop_nil hi h
  refine⟨a,H,fun cu => ?_,hF,FSt.same (Out.refl _ _) p a⟩
  rw[Wp]
  simp only[bl_flow_Flow_tick,fZ,aj,ai,simprocAttr]
 | x::r,i,H,a,hi,h,hF=>by
  obtain⟨g1,g2,g3⟩:=gy h
  have es:=gq g1 (by omega)
  have k3:cellAt H p 3=some a.rx:=hF.c.cellAt rfl
  obtain⟨ra,b,o,q1,q2,q3,q4,q5,q6,q7⟩:=hF.at (tkd_at (now:=now) g2)
  obtain⟨xS,ok2⟩:=wA x (aaF g2)
  obtain⟨aw,bh,ay,aB,H1,t1,t2,t3,t4⟩:=tick_c q7 xS ok2 now
  have hF1:=hF.out0 t3
  have wz:∀ j∈(RA.mk aw bh ay aB).fp,j∉own p a:=fun j hj q=>by have:=t4 j hj;have:=hF.lt j q;omega
  obtain⟨H2,s1,s2,s3,s4⟩:=hF1.Vi (tkd_at (now:=now) g2) q2 (r':=⟨aw,bh,ay,aB⟩) t2.v wz
  have AM:cellAt H1 p 3=some a.rx:=hF1.c.cellAt rfl
  have hFS:FSt H H2 p a { a with ras:=a.ras.set i ⟨aw,bh,ay,aB⟩ }:=⟨(t3.mono fun j hj=>by cases hj).trans (s3.mono fun j hj=>fL (k:=5) rfl hj),fun j hj => .inl hj,fun j hj=>(s4 j hj).imp (fun q=>q) fun q=>t4 j q⟩
  have hF2:FL H2 p { a with ras:=a.ras.set i ⟨aw,bh,ay,aB⟩ } (tkd f now (i+1)):=by
   have:=tkd_set (now:=now) g2
   have e:{ tkd f now i with az:=(tkd f now i).az.set i (tickM x.1 now,x.2) }=tkd f now (i+1):=by
    show ({ ck:=now,nms:=f.nms,txs:=f.txs,az:=_,ks:=f.ks }:Fm)=_
    rw[show (tickM x.1 now,x.2)=tkx now x from rfl,this];rfl
   rw[e] at s2
   exact s2
  obtain⟨a',H',i1,i2,i3⟩:=ftick_loop hr wA r (i+1) H2 _ g1 g3 hF2
  refine⟨a',H',fun cu => ?_,i2,hFS.trans i3⟩
  rw[Wp]
  simp(disch:=first|exact zqz|fail)only[bl_flow_Flow_tick,bH g1,k3,q2,q5,t1,s1,AM,lK (Df hF.r.1.rw),es,i1,ar,au,aj,ai,simprocAttr]
theorem ftick_c {H:Hp}{p:Nat}{a:FA}{f:Fm}(h:FL H p a f)(hr:f.az.length<=64)(wA:∀ x∈f.az,lX x.1/\sS x.1)(now:Int) :
  ∃ a' H',cK (.func (.func 42) [] []) [.ptr p 0,.int .i64 now] H=some (.int .i64 (tickF f now).2,H')/\FL H' p a' (tickF f now).1/\FSt H H' p a a':=by
 have k0:cellAt H p 0=some (.int .i64 f.ck):=h.c.cellAt rfl
 unfold tickF
 by_cases hn:now<=f.ck
 ·have d:decide (now<=f.ck)=true:=decide_eq_true hn
  rw[if_pos hn]
  refine⟨a,H,Ue ?_,h,FSt.same (Out.refl _ _) p a⟩
  unfold LV
  simp(disch:=first|exact zqz|fail)only[k0,d,ar,au,aj,ai,simprocAttr]
 ·have d:decide (now<=f.ck)=false:=decide_eq_false hn
  rw[if_neg hn]
  obtain⟨H1,s1,s2,s3⟩:=h.clock now
  have s2':FL H1 p a (tkd f now 0):=s2
  have k3:cellAt H1 p 3=some a.rx:=s2.c.cellAt rfl
  have ff:=s2.Ac
  obtain⟨a',H',i1,i2,i3⟩:=ftick_loop hr wA f.az 0 H1 a (ac4 _) ada s2'
  rw[show (((0:Nat):Int))=0 from rfl] at i1
  have e:tkd f now f.az.length={ f with ck:=now,az:=f.az.map (tkx now) }:=by
   unfold tkd
   rw[List.take_length,List.drop_length,ahD]
  rw[e] at i2
  refine⟨a',H',Ue ?_,i2,s3.trans i3⟩
  unfold LV
  simp(disch:=first|exact zqz|fail)only[k0,d,s1,k3,ff,i1,ar,au,aj,ai,simprocAttr]
noncomputable def opM (R:Rn)(e:Ev)(ck:Int):Rn × Int:=
 if e.kd=3 then nO R e.tk e.ty ck else if e.kd=4 then qh R e.tk e.ty e.dt else if e.kd=5 then vR R e.tk e.ty ck else if e.kd=7 then rU R e.nm else cancelM R
noncomputable def changeM (f:Fm)(e:Ev):Fm × Int:=match f.az[(e.rn-1).toNat]? with
 | none=>(f,0)
 | some x=>if (opM x.1 e f.ck).2=0 then ({ f with az:=f.az.set (e.rn-1).toNat ((opM x.1 e f.ck).1,x.2) },0) else (f,(opM x.1 e f.ck).2)
theorem change_c {H:Hp}{p:Nat}{a:FA}{f:Fm}(h:FL H p a f)(hr:f.az.length<=64)(wA:∀ x∈f.az,lX x.1/\sS x.1/\x.1.sg.length<=900)(e:Ev)(h1:1<=e.rn)(h2:e.rn<=f.az.length) :
  ∃ a' H',cK (.func (.func 43) [] []) [.ptr p 0,.agg (aG e)] H=some (.int .i64 (changeM f e).2,H')/\FL H' p a' (changeM f e).1/\FSt H H' p a a':=by
 obtain⟨i,hi⟩:∃ i:Nat,e.rn=(i:Int)+1:=⟨(e.rn-1).toNat,by omega⟩
 have bu:i<f.az.length:=by omega
 have hx:f.az[i]? = some (f.az[i]'bu):=aau _
 generalize f.az[i]'bu=x at hx
 obtain⟨xS,ok2,ok3⟩:=wA x (aaF hx)
 have mW:(e.rn-1).toNat=i:=by omega
 have hw:IntKind.wrap .i64 (e.rn-1)=((i:Nat):Int):=by rw[hi,wrap_i64 (by omega) (by omega)];omega
 have aW:bx 26 (.agg (aG e)) H=some (H.next,al H (aG e) 26 0):=iW (by rw[nf];omega)
 have o1:=aJ H (aG e) 26 0
 have c1:=bo H (aG e) 26 0
 have n1:(al H (aG e) 26 0).next=H.next+1:=rfl
 generalize al H (aG e) 26 0=H1 at *
 have F1:=h.out0 o1
 have k3:cellAt H1 p 3=some a.rx:=F1.c.cellAt rfl
 have E1:cellAt H1 H.next 1=some (.int .i64 e.rn):=c1.cellAt rfl
 have dN:aE H1 zR 75 0=some (H.next+1,al H1 zR 75 0):=by rw[<-n1];exact gB (by simp)
 have o2:=aJ H1 zR 75 0
 have c2:=bo H1 zR 75 0
 have n2:(al H1 zR 75 0).next=H.next+2:=by rw[bI,n1]
 rw[n1] at c2
 generalize dh:al H1 zR 75 0=H2 at *
 have F2:=F1.out0 o2
 have dW:=o1.trans o2
 have cE:=c1.out o2 (by simp)
 have E0:cellAt H2 H.next 0=some (.int .i64 e.kd):=cE.cellAt rfl
 have E2:cellAt H2 H.next 2=some (.int .i64 e.tk):=cE.cellAt rfl
 have E3:cellAt H2 H.next 3=some (.int .i64 e.ty):=cE.cellAt rfl
 have E5:cellAt H2 H.next 5=some (.str e.nm):=cE.cellAt rfl
 have E7:cellAt H2 H.next 7=some (.str e.dt):=cE.cellAt rfl
 have k0:cellAt H2 p 0=some (.int .i64 f.ck):=F2.c.cellAt rfl
 obtain⟨ra,b,o,q1,q2,q3,q4,q5,q6,q7⟩:=F2.at hx
 unfold changeM
 rw[mW,hx]
 simp only
 have fin:∀ (fv:AV) (args:List AV) (R':Rn) (err:Int),mU fv args H2 R' err->∃ (aw:AV) (bh:List AV) (ay aB:AV) (H3 H4:Hp) (a':FA) (H5:Hp),cK fv args H2=some (.tuple [.agg (rv aw R'.st ay aB),.int .i64 err],H3)/\st 4 (.ptr (H.next+1) 0) (.agg (rv aw R'.st ay aB)) H3=some H4/\
   (err=0->av H4 (H.next+1) 0 4=some (rv aw R'.st ay aB)/\st 4 (.ptr b o) (.agg (rv aw R'.st ay aB)) H4=some H5/\FL H5 p a' { f with az:=f.az.set i (R',x.2) }/\FSt H H5 p a a')/\(err≠0->H5=H4/\a'=a/\FL H4 p a f/\FSt H H4 p a a):=by
  rintro fv args R' err ⟨aw,bh,ay,aB,H3,r1,r2,r3,r4⟩
  obtain⟨H4,s1,s2,s3,s4⟩:=fN (n:=4) (vs:=rv aw R'.st ay aB) (c2.out r3 (by simp)) rfl rfl (by simp[r2.v.d.row.one,r2.t.rl.one,r2.s.jO,kA])
  have o4:Out [] H H4:=gF (dW.trans r3) s3 (kf (afu _))
  have F4:=h.out0 o4
  by_cases he:err=0
  ·have hRV:RV H4 aw bh ay aB R':=r2.v.out s3 fun j hj=>by rw[No];have:=r4 j hj;omega
   have wz:∀ j∈(RA.mk aw bh ay aB).fp,j∉own p a:=fun j hj q=>by have:=r4 j hj;have:=h.lt j q;omega
   obtain⟨H5,t1,t2,t3,t4⟩:=F4.Vi hx q2 (r':=⟨aw,bh,ay,aB⟩) hRV wz
   exact⟨aw,bh,ay,aB,H3,H4,_,H5,r1,s1,fun _=>⟨s2.av 4 0 (by simp),t1,t2,(o4.mono fun j hj=>by cases hj).trans (t3.mono fun j hj=>fL (k:=5) rfl hj),fun j hj => .inl hj,fun j hj=>(t4 j hj).imp (fun q=>q) fun q=>by have:=r4 j q;omega⟩,fun q=>absurd he q⟩
  ·exact⟨aw,bh,ay,aB,H3,H4,a,H4,r1,s1,fun q=>absurd q he,fun _=>⟨rfl,rfl,F4,FSt.same o4 p a⟩⟩
 have done:∀ (R':Rn) (err:Int),opM x.1 e f.ck=(R',err)->(∃ (aw:AV) (bh:List AV) (ay aB:AV) (H3 H4:Hp) (a':FA) (H5:Hp),cK (.func (.func 43) [] []) [.ptr p 0,.agg (aG e)] H=some (.int .i64 err,H5)/\
   (err=0->av H4 (H.next+1) 0 4=some (rv aw R'.st ay aB)/\st 4 (.ptr b o) (.agg (rv aw R'.st ay aB)) H4=some H5/\FL H5 p a' { f with az:=f.az.set i (R',x.2) }/\FSt H H5 p a a')/\(err≠0->H5=H4/\a'=a/\FL H4 p a f/\FSt H H4 p a a)/\H3=H3)->
   ∃ a' H',cK (.func (.func 43) [] []) [.ptr p 0,.agg (aG e)] H=some (.int .i64 (if (opM x.1 e f.ck).2=0 then ({ f with az:=f.az.set i ((opM x.1 e f.ck).1,x.2) },0) else (f,(opM x.1 e f.ck).2):Fm × Int).2,H')/\FL H' p a' (if (opM x.1 e f.ck).2=0 then ({ f with az:=f.az.set i ((opM x.1 e f.ck).1,x.2) },0) else (f,(opM x.1 e f.ck).2):Fm × Int).1/\FSt H H' p a a':=by
  rintro R' err ho ⟨aw,bh,ay,aB,H3,H4,a',H5,w1,w2,w3,_⟩
  rw[ho]
  by_cases he:err=0
  ·obtain⟨_,_,z3,z4⟩:=w2 he
   rw[if_pos he]
   subst he
   exact⟨a',H5,w1,z3,z4⟩
  ·obtain⟨rfl,rfl,z3,z4⟩:=w3 he
   rw[if_neg he]
   exact⟨a',H5,w1,z3,z4⟩
 by_cases b3:e.kd=3
 ·obtain⟨aw,bh,ay,aB,H3,H4,a',H5,w1,w2,w3,w4⟩:=fin _ _ _ _ (ac8 q7 xS e.tk e.ty f.ck)
  refine done _ _ (by unfold opM;rw[if_pos b3]) ⟨aw,bh,ay,aB,H3,H4,a',H5,GM ?_,w3,w4,rfl⟩
  have d3:(e.kd==3)=true:=by simp[b3]
  unfold zM
  by_cases he:(nO x.1 e.tk e.ty f.ck).2=0
  ·obtain⟨z1,z2,_⟩:=w3 he
   simp(disch:=first|exact zqz|fail)only[aW,k3,E1,hw,q2,n1,dh,E0,E2,E3,k0,q5,w1,w2,d3,he,z1,z2,ar,au,aj,ai,simprocAttr]
  ·obtain⟨rfl,_⟩:=w4 he
   have dn:((nO x.1 e.tk e.ty f.ck).2==0)=false:=by simp[he]
   simp(disch:=first|exact zqz|fail)only[aW,k3,E1,hw,q2,n1,dh,E0,E2,E3,k0,q5,w1,w2,d3,dn,ar,au,aj,ai,simprocAttr]
 have d3:(e.kd==3)=false:=by simp[b3]
 by_cases b4:e.kd=4
 ·obtain⟨aw,bh,ay,aB,H3,H4,a',H5,w1,w2,w3,w4⟩:=fin _ _ _ _ (ahv q7 xS e.tk e.ty e.dt)
  refine done _ _ (by unfold opM;rw[if_neg b3,if_pos b4]) ⟨aw,bh,ay,aB,H3,H4,a',H5,GM ?_,w3,w4,rfl⟩
  have d4:(e.kd==4)=true:=by simp[b4]
  unfold zM
  by_cases he:(qh x.1 e.tk e.ty e.dt).2=0
  ·obtain⟨z1,z2,_⟩:=w3 he
   simp(disch:=first|exact zqz|fail)only[aW,k3,E1,hw,q2,n1,dh,E0,E2,E3,E7,q5,w1,w2,d3,d4,he,z1,z2,ar,au,aj,ai,simprocAttr]
  ·obtain⟨rfl,_⟩:=w4 he
   have dn:((qh x.1 e.tk e.ty e.dt).2==0)=false:=by simp[he]
   simp(disch:=first|exact zqz|fail)only[aW,k3,E1,hw,q2,n1,dh,E0,E2,E3,E7,q5,w1,w2,d3,d4,dn,ar,au,aj,ai,simprocAttr]
 have d4:(e.kd==4)=false:=by simp[b4]
 by_cases b5:e.kd=5
 ·obtain⟨aw,bh,ay,aB,H3,H4,a',H5,w1,w2,w3,w4⟩:=fin _ _ _ _ (afm q7 xS ok2 e.tk e.ty f.ck)
  refine done _ _ (by unfold opM;rw[if_neg b3,if_neg b4,if_pos b5]) ⟨aw,bh,ay,aB,H3,H4,a',H5,GM ?_,w3,w4,rfl⟩
  have d5:(e.kd==5)=true:=by simp[b5]
  unfold zM
  by_cases he:(vR x.1 e.tk e.ty f.ck).2=0
  ·obtain⟨z1,z2,_⟩:=w3 he
   simp(disch:=first|exact zqz|fail)only[aW,k3,E1,hw,q2,n1,dh,E0,E2,E3,k0,q5,w1,w2,d3,d4,d5,he,z1,z2,ar,au,aj,ai,simprocAttr]
  ·obtain⟨rfl,_⟩:=w4 he
   have dn:((vR x.1 e.tk e.ty f.ck).2==0)=false:=by simp[he]
   simp(disch:=first|exact zqz|fail)only[aW,k3,E1,hw,q2,n1,dh,E0,E2,E3,k0,q5,w1,w2,d3,d4,d5,dn,ar,au,aj,ai,simprocAttr]
 have d5:(e.kd==5)=false:=by simp[b5]
 by_cases b7:e.kd=7
 ·obtain⟨aw,bh,ay,aB,H3,H4,a',H5,w1,w2,w3,w4⟩:=fin _ _ _ _ (aoK q7 xS ok3 e.nm)
  refine done _ _ (by unfold opM;rw[if_neg b3,if_neg b4,if_neg b5,if_pos b7]) ⟨aw,bh,ay,aB,H3,H4,a',H5,GM ?_,w3,w4,rfl⟩
  have d7:(e.kd==7)=true:=by simp[b7]
  unfold zM
  by_cases he:(rU x.1 e.nm).2=0
  ·obtain⟨z1,z2,_⟩:=w3 he
   simp(disch:=first|exact zqz|fail)only[aW,k3,E1,hw,q2,n1,dh,E0,E5,q5,w1,w2,d3,d4,d5,d7,he,z1,z2,ar,au,aj,ai,simprocAttr]
  ·obtain⟨rfl,_⟩:=w4 he
   have dn:((rU x.1 e.nm).2==0)=false:=by simp[he]
   simp(disch:=first|exact zqz|fail)only[aW,k3,E1,hw,q2,n1,dh,E0,E5,q5,w1,w2,d3,d4,d5,d7,dn,ar,au,aj,ai,simprocAttr]
 have d7:(e.kd==7)=false:=by simp[b7]
 obtain⟨aw,bh,ay,aB,H3,H4,a',H5,w1,w2,w3,w4⟩:=fin _ _ _ _ (cancel_c q7 xS)
 refine done _ _ (by unfold opM;rw[if_neg b3,if_neg b4,if_neg b5,if_neg b7]) ⟨aw,bh,ay,aB,H3,H4,a',H5,GM ?_,w3,w4,rfl⟩
 unfold zM
 by_cases he:(cancelM x.1).2=0
 ·obtain⟨z1,z2,_⟩:=w3 he
  simp(disch:=first|exact zqz|fail)only[aW,k3,E1,hw,q2,n1,dh,E0,q5,w1,w2,d3,d4,d5,d7,he,z1,z2,ar,au,aj,ai,simprocAttr]
 ·obtain⟨rfl,_⟩:=w4 he
  have dn:((cancelM x.1).2==0)=false:=by simp[he]
  simp(disch:=first|exact zqz|fail)only[aW,k3,E1,hw,q2,n1,dh,E0,q5,w1,w2,d3,d4,d5,d7,dn,ar,au,aj,ai,simprocAttr]
structure Fok (f:Fm):Prop where
 run:∀ x∈f.az,lX x.1/\sS x.1/\x.1.sg.length<=900
 nr:f.az.length<=64
 nn:f.nms.length<=16
 nk:f.ks.length<128
noncomputable def applyM (f:Fm)(e:Ev):Fm × Int:=
 if uW e=true then (if e.kd=1 then Dz f e.nm e.dt else if e.kd=2 then startM f e else if e.kd=6 then tickF f e.n else if e.kd=9 then (f,0) else if (f.az.length:Int)<e.rn then (f,4) else changeM f e) else (f,1)
theorem good_rn {e:Ev}(h:uW e=true)(h1:e.kd≠1)(h6:e.kd≠6)(h9:e.kd≠9):1<=e.rn/\e.rn<=64:=by
 unfold uW at h
 rw[aaG,aaG] at h
 obtain⟨g1,_,g2⟩:=h
 have hm:(82:Nat)∈fieldsM e.kd:=by
  unfold fieldsM at g1 ⊢
  rw[if_neg h1] at g1 ⊢
  by_cases h2:e.kd=2
  ·rw[if_pos h2];simp
  rw[if_neg h2] at g1 ⊢
  by_cases h3:e.kd=3\/e.kd=5
  ·rw[if_pos h3];simp
  rw[if_neg h3] at g1 ⊢
  by_cases h4:e.kd=4
  ·rw[if_pos h4];simp
  rw[if_neg h4,if_neg (by omega)] at g1 ⊢
  by_cases h7:e.kd=7
  ·rw[if_pos h7];simp
  rw[if_neg h7] at g1 ⊢
  by_cases h8:e.kd=8
  ·rw[if_pos h8];simp
  rw[if_neg h8] at g1
  simp at g1
 have:=adY.1 g2 82 hm
 unfold rE vD at this
 simp at this
 exact this
theorem apply_c {H:Hp}{p:Nat}{a:FA}{f:Fm}(h:FL H p a f)(hg:Gl H)(hk:Fok f)(e:Ev) :
  ∃ a' H',cK (.func (.func 16) [] []) [.ptr p 0,.agg (aG e)] H=some (.int .i64 (applyM f e).2,H')/\FL H' p a' (applyM f e).1/\FSt H H' p a a':=by
 have aW:bx 26 (.agg (aG e)) H=some (H.next,al H (aG e) 26 0):=iW (by rw[nf];omega)
 have o1:=aJ H (aG e) 26 0
 have c1:=bo H (aG e) 26 0
 generalize al H (aG e) 26 0=H1 at *
 have k8:av H1 H.next 0 8=some (aG e):=c1.av 8 0 (by rw[nf];omega)
 obtain⟨H2,g1,g2⟩:=ab1 e H1
 have o2:=o1.trans g2
 have c2:=c1.out g2 (by simp)
 have F2:=h.out0 o2
 have jy:=hg.out0 o2
 have E0:cellAt H2 H.next 0=some (.int .i64 e.kd):=c2.cellAt rfl
 have E1:cellAt H2 H.next 1=some (.int .i64 e.rn):=c2.cellAt rfl
 have E4:cellAt H2 H.next 4=some (.int .i64 e.n):=c2.cellAt rfl
 have E5:cellAt H2 H.next 5=some (.str e.nm):=c2.cellAt rfl
 have E7:cellAt H2 H.next 7=some (.str e.dt):=c2.cellAt rfl
 have k82:av H2 H.next 0 8=some (aG e):=c2.av 8 0 (by rw[nf];omega)
 unfold applyM
 cases qB:uW e with
 | false=>
  rw[qB] at g1
  rw[if_neg (by simp)]
  refine⟨a,H2,Be ?_,F2,FSt.same o2 p a⟩
  unfold xU
  simp(disch:=first|exact zqz|fail)only[aW,k8,g1,ar,au,aj,ai,simprocAttr]
 | true=>
  rw[qB] at g1
  rw[if_pos rfl]
  by_cases b1:e.kd=1
  ·obtain⟨a',H3,d1,d2,d3⟩:=alu F2 jy hk.nn e.nm e.dt
   rw[if_pos b1]
   refine⟨a',H3,Be ?_,d2,FSt.end o2 d3⟩
   have q1:(e.kd==1)=true:=by simp[b1]
   unfold xU
   simp(disch:=first|exact zqz|fail)only[aW,k8,g1,E0,E5,E7,q1,d1,ar,au,aj,ai,simprocAttr]
  have q1:(e.kd==1)=false:=by simp[b1]
  rw[if_neg b1]
  by_cases b2:e.kd=2
  ·obtain⟨a',H3,d1,d2,d3⟩:=start_c F2 jy hk.nk hk.nr e
   rw[if_pos b2]
   refine⟨a',H3,Be ?_,d2,FSt.end o2 d3⟩
   have q2:(e.kd==2)=true:=by simp[b2]
   unfold xU
   simp(disch:=first|exact zqz|fail)only[aW,k8,g1,E0,k82,q1,q2,d1,ar,au,aj,ai,simprocAttr]
  have q2:(e.kd==2)=false:=by simp[b2]
  rw[if_neg b2]
  by_cases b6:e.kd=6
  ·obtain⟨a',H3,d1,d2,d3⟩:=ftick_c F2 hk.nr (fun x hx=>⟨(hk.run x hx).1,(hk.run x hx).2.1⟩) e.n
   rw[if_pos b6]
   refine⟨a',H3,Be ?_,d2,FSt.end o2 d3⟩
   have q6:(e.kd==6)=true:=by simp[b6]
   unfold xU
   simp(disch:=first|exact zqz|fail)only[aW,k8,g1,E0,E4,q1,q2,q6,d1,ar,au,aj,ai,simprocAttr]
  have q6:(e.kd==6)=false:=by simp[b6]
  rw[if_neg b6]
  by_cases b9:e.kd=9
  ·rw[if_pos b9]
   refine⟨a,H2,Be ?_,F2,FSt.same o2 p a⟩
   have q9:(e.kd==9)=true:=by simp[b9]
   unfold xU
   simp(disch:=first|exact zqz|fail)only[aW,k8,g1,E0,q1,q2,q6,q9,ar,au,aj,ai,simprocAttr]
  have q9:(e.kd==9)=false:=by simp[b9]
  rw[if_neg b9]
  have k3:cellAt H2 p 3=some a.rx:=F2.c.cellAt rfl
  have ff:=F2.Ac
  by_cases aI:(f.az.length:Int)<e.rn
  ·have d:decide (((f.az.length:Nat):Int)<e.rn)=true:=decide_eq_true aI
   rw[if_pos aI]
   refine⟨a,H2,Be ?_,F2,FSt.same o2 p a⟩
   unfold xU
   simp(disch:=first|exact zqz|fail)only[aW,k8,g1,E0,E1,q1,q2,q6,q9,k3,ff,d,ar,au,aj,ai,simprocAttr]
  ·have d:decide (((f.az.length:Nat):Int)<e.rn)=false:=decide_eq_false aI
   rw[if_neg aI]
   obtain⟨a',H3,d1,d2,d3⟩:=change_c F2 hk.nr hk.run e (good_rn qB b1 b6 b9).1 (by omega)
   refine⟨a',H3,Be ?_,d2,FSt.end o2 d3⟩
   unfold xU
   simp(disch:=first|exact zqz|fail)only[aW,k8,g1,E0,E1,q1,q2,q6,q9,k3,ff,d,k82,d1,ar,au,aj,ai,simprocAttr]
noncomputable def anR:An->An
 | .sq _ _ b=>b
 | x=>x
noncomputable def anC:An:=anR (anR (anR (anR (anR (an 14)))))
theorem anC_eq:an 14 = .sq none .nl (.sq none .nl (.sq (some [0,3]) .nl (.sq (some [0,3]) .nl (.sq (some [0,3]) (.pr [0,3] (Qf 2 3 0)) anC)))):=by kernel_rfl
theorem anF:Py.filter (fun p => !p.2.plain)=[(14,an 14)]:=by kernel_rfl
theorem anOK:wh P an:=by
 refine To fun p hp => ?_
 cases hb:p.2.plain with
 | true=>exact .inl rfl
 | false=>
  right
  intro fn b h1 h2
  have hm:p∈Py.filter (fun p => !p.2.plain):=List.mem_filter.2 ⟨hp,by rw[hb];rfl⟩
  rw[anF,No] at hm
  subst hm
  have QG:b=Cw.body:=by unfold Cw.body;rw[h1];show b=(fn.body).getD .skip;rw[h2];rfl
  have hn:fn.ntmps=69:=by
   have:(P.funcs[14]?).map (·.ntmps)=some 69:=by kernel_rfl
   rw[h1] at this
   exact adw this
  rw[hn,QG,Cw.body_eq]
  show jM P 69 _ (an 14)
  rw[anC_eq]
  exact⟨jM.plain P 69 _ _ rfl,jM.plain P 69 _ _ rfl,jM.plain P 69 _ _ rfl,jM.plain P 69 _ _ rfl,Cw.copyOne,jM.plain P 69 _ _ (by kernel_rfl)⟩
theorem dj_setD {L:List (List Nat)}{k:Nat}{l l':List Nat}(h:L.Pairwise Dj)(hk:L[k]? = some l)(hl:∀ j∈l',∀ m∈L,j∉m):(L.set k l').Pairwise Dj:=by
 rw[List.pairwise_iff_getElem] at h ⊢
 intro i j hi hj ng x hx hy
 rw[adM] at hi hj
 rw[List.getElem_set] at hx hy
 by_cases h1:k=i
 ·rw[if_pos h1] at hx
  rw[if_neg (by omega)] at hy
  exact hl x hx _ (List.getElem_mem hj) hy
 ·rw[if_neg h1] at hx
  by_cases h2:k=j
  ·rw[if_pos h2] at hy
   exact hl x hy _ (List.getElem_mem hi) hx
  ·rw[if_neg h2] at hy
   exact h i j hi hj ng x hx hy
theorem own_setD {p k:Nat}{a a':FA}{l':List Nat}(hs:gQ p a'=(gQ p a).set k l'):∀ j∈own p a',j∈own p a\/j∈l':=by
 intro j hj
 obtain⟨m,hm,hj⟩:=ahl.1 hj
 rw[hs] at hm
 rcases agY hm with q | rfl
 ·exact .inl (ahl.2 ⟨m,q,hj⟩)
 ·exact .inr hj
theorem FL.newN {H:Hp}{p:Nat}{a:FA}{f:Fm}(h:FL H p a f){fX:AV}{l:List aq}(hw:Ow H 9 1 fX (strs l))(hd:∀ j∈ak fX,j∉own p a/\11<=j/\j∉DfK.dB a) :
  ∃ H2,st 1 (.ptr p 1) fX H=some H2/\FL H2 p { a with nx:=fX } { f with nms:=l }/\Out [p] H H2/\∀ j∈own p { a with nx:=fX },j∈own p a\/j∈ak fX:=by
 obtain⟨H2,s1,s2,s3,s4⟩:=fG h.c (by decide) (o:=1) (by simp) (v:=fX) hw.rw.one
 obtain⟨p0,p4,p1,p5,pk,pv⟩:=h.part s3 (i:=0) rfl
 have hs:gQ p { a with nx:=fX }=(gQ p a).set 4 (ak fX):=rfl
 have sC:(gQ p { a with nx:=fX }).Pairwise Dj:=by rw[hs];exact dj_setD h.dj (k:=4) rfl fun j hj m hm q=>(hd j hj).1 (ahl.2 ⟨m,hm,q⟩)
 have oA:=own_setD hs
 exact⟨H2,s1,⟨s2,hw.out s3 fun j hj q=>(hd j hj).1 (fL (k:=0) rfl q),p1 (by decide),h.rP,p5 (by decide),pv,h.len,pk (by decide) (by decide) (by decide),sC,fun j hj=>(oA j hj).elim (h.lo j) fun q=>(hd j q).2.1,fun j hj=>⟨fun q=>(oA j q).elim (h.dB j hj).1 fun z=>(hd j z).2.2 hj,adW (h.dB j hj).2 s3.1⟩⟩,s3,oA⟩
theorem FL.newR {H:Hp}{p:Nat}{a:FA}{f:Fm}(h:FL H p a f){eI:AV}{ras:List RA}{az:List (Rn × aq)}(hlen:ras.length=az.length)(hw:OL H 77 5 eI (List.zipWith dI ras az))(hv:∀ (i:Nat) (r:RA) (x:Rn × aq),ras[i]? = some r->az[i]? = some x->RV H r.dx r.xs r.tx r.sx x.1)
  (hd:∀ j∈ak eI,j∉own p a/\11<=j) (hi:∀ j∈ras.flatMap RA.fp,j∉own p a/\j∉ak eI/\j<H.next) :
  ∃ H2,st 1 (.ptr p 3) eI H=some H2/\FL H2 p { a with rx:=eI,ras:=ras } { f with az:=az }/\Out [p] H H2/\∀ j∈own p { a with rx:=eI,ras:=ras },j∈own p a\/j∈ak eI:=by
 obtain⟨H2,s1,s2,s3,s4⟩:=fG h.c (by decide) (o:=3) (by simp) (v:=eI) hw.1.rw.one
 obtain⟨p0,p4,p1,p5,pk,pv⟩:=h.part s3 (i:=0) rfl
 have hs:gQ p { a with rx:=eI,ras:=ras }=(gQ p a).set 5 (ak eI):=rfl
 have sC:(gQ p { a with rx:=eI,ras:=ras }).Pairwise Dj:=by rw[hs];exact dj_setD h.dj (k:=5) rfl fun j hj m hm q=>(hd j hj).1 (ahl.2 ⟨m,hm,q⟩)
 have oA:=own_setD hs
 have hp0:∀ {j:Nat},j∈[p]->j∈own p a:=fun q=>fL (k:=0) rfl q
 exact⟨H2,s1,⟨s2,p4 (by decide),p1 (by decide),h.rP,hw.out s3 fun j hj q=>(hd j hj).1 (hp0 q),fun i r x hr hx=>(hv i r x hr hx).out s3 fun j hj q=>(hi j (ahu.2 ⟨r,aaF hr,hj⟩)).1 (hp0 q),hlen,pk (by decide) (by decide) (by decide),sC,fun j hj=>(oA j hj).elim (h.lo j) fun q=>(hd j q).2,fun j hj=>⟨fun q=>(oA j q).elim (hi j hj).1 (hi j hj).2.1,adW (hi j hj).2.2 s3.1⟩⟩,s3,oA⟩
theorem strK_tx:∀ (l:List (aq × aq)) (bs:List Nat),(l.map (·.1)).Nodup->xG (mw (l.zip bs))=true
 | [],bs,_=>by cases bs<;>rfl
 | x::l,[],_=>rfl
 | x::l,b::bs,h=>by
  rw[adK,aio] at h
  show ((mw (l.zip bs)).all _&&xG (mw (l.zip bs)))=true
  rw[strK_tx l bs h.2,Bool.and_true,adY]
  intro e he
  obtain⟨y,hy,rfl⟩:=adD.1 he
  have:y.1.1≠x.1:=fun q=>h.1 (q▸adD.2 ⟨y.1,(List.of_mem_zip (a:=y.1) (b:=y.2) hy).1,rfl⟩)
  simpa using this
theorem visF_tx:∀ (l:List (aq × aq)) (bs:List Nat) (q:Nat),bs.length=l.length->jI q (mw (l.zip bs))=mw (l.zip (List.range' q l.length))
 | [],bs,q,_=>by cases bs<;>rfl
 | x::l,[],q,h=>by simp at h
 | x::l,b::bs,q,h=>by
  rw[aaN,akt]
  show (⟨.str x.1,.str x.2,q⟩:ME)::jI (q+1) (mw (l.zip bs))=⟨.str x.1,.str x.2,q⟩::mw (l.zip (List.range' (q+1) l.length))
  rw[visF_tx l bs (q+1) (by simpa using h)]
theorem FL.copyT {H:Hp}{p p':Nat}{a a':FA}{f f':Fm}(h:FL H p a f)(h':FL H p' a' f')(he:f'.txs=[])(aO:a'.tm≠a.tm) :
  ∃ H2,Cb 2 (.ptr p' 0) (.ptr p 0) H=some H2/\FL H2 p' a' { f' with txs:=f.txs }/\Out [a'.tm] H H2:=by
 obtain⟨bs,c,t1,t2⟩:=h.t
 obtain⟨Uw,c',t1',t2'⟩:=h'.t
 rw[he] at t1' t2'
 have k1:cellAt H p' (0+2)=some (.map a'.tm):=h'.c.cellAt rfl
 have k2:cellAt H p (0+2)=some (.map a.tm):=h.c.cellAt rfl
 have k3:H.h.get a'.tm=some (.map [] c'):=by have:=t2'.2;cases Uw<;>exact this
 have hk:(xG (mw (f.txs.zip bs))&&!(Nat.beq a'.tm a.tm))=true:=by
  rw[strK_tx _ _ h.rP,aeV]
  cases hb:Nat.beq a'.tm a.tm with
  | false=>rfl
  | true=>exact absurd (aa9 hb) aO
 have aI:=t2'.1
 have ho:Out [a'.tm] H ⟨H.h.bO a'.tm (.map (jI c' (mw (f.txs.zip bs))) (c'+(mw (f.txs.zip bs)).length)),H.next+1⟩:=⟨afu _,fun j hj hn=>by
  show (H.h.bO _ _).get j=_
  rw[Tr.ye _ _ _ _ (by rw[k3];rfl),if_neg (fun q=>hn (by rw[q];exact .head _))]⟩
 obtain⟨p0,p4,p1,p5,pk,pv⟩:=h'.part ho (i:=1) rfl
 refine⟨_,?_,⟨p0 (by decide),p4 (by decide),⟨List.range' c' f.txs.length,c'+(mw (f.txs.zip bs)).length,List.length_range',Nat.lt_succ_of_lt aI,?_⟩,h.rP,p5 (by decide),pv,h'.len,pk (by decide) (by decide) (by decide),h'.dj,h'.lo,h'.NL ho.1⟩,ho⟩
 ·unfold Cb
  simp only[k1,k2,k3,t2.2,hk,cond_true]
 ·show (H.h.bO _ _).get a'.tm=_
  rw[Tr.ye _ _ _ _ (by rw[k3];rfl),if_pos rfl,visF_tx _ _ _ t1]
theorem FL.hi {H H':Hp}{p N:Nat}{a:FA}{f:Fm}{S:List Nat}(h:FL H p a f)(k:Out S H H')(h1:∀ j∈own p a,j<N)(h2:∀ j∈DfK.dB a,j<N)(hS:∀ j∈S,N<=j):FL H' p a f:=
 h.out k (fun j hj q=>by have:=h1 j hj;have:=hS j q;omega) fun j hj q=>by have:=h2 j hj;have:=hS j q;omega
theorem fclone_loop {q:Nat}{g:Fm}{ks:List Ke}{ox:AV}(hn:ks.length<=128)(gU:(ks.map (·.1)).Nodup):∀ (r:List Ke) (i:Nat) (H:Hp) (b:FA),i<=ks.length->ks.drop i=r->RL H 3 ox (ks.map lT)->(∀ j∈ak ox,j∉own q b)->FL H q b { g with ks:=ks.take i }->
  ∃ b' H',(∀ ey:K.Fn 1,F9 JN GO cK ey (.ptr q 0) ox (.int .i64 (ks.length:Nat)) (.int .i64 (i:Nat)) H=ey (.ptr q 0) H')/\FL H' q b' { g with ks:=ks }/\FSt H H' q b b'/\b'.ras=b.ras
 | [],i,H,b,hi,h,hx,hd,hF=>by
  obtain rfl:=drop_nil hi h
  rw[List.take_length] at hF
  refine⟨b,H,fun ey => ?_,hF,FSt.same (Out.refl _ _) q b,rfl⟩
  rw[YK]
  simp only[bl_flow_Flow_Clone,fZ,aj,ai,simprocAttr]
 | x::r,i,H,b,hi,h,hx,hd,hF=>by
  obtain⟨h1,h2,h3⟩:=gy h
  have es:=gq h1 (by omega)
  obtain⟨m,o,q1,q2,q3,q4,q5⟩:=hx.at (by decide) (i:=i) (c:=lT x) (by rw[adX,h2];rfl)
  have hz:st 3 (.ptr H.next 0) (.agg (lT x)) (al H [(.str []),(.str []),(.int .i64 0)] 82 0)=some (al H (lT x) 82 0):=iV rfl rfl rfl (by decide) rfl
  have o1:=aJ H (lT x) 82 0
  have c1:=bo H (lT x) 82 0
  have n1:(al H (lT x) 82 0).next=H.next+1:=rfl
  generalize dq:al H (lT x) 82 0=H1 at *
  have e2:cellAt H1 H.next 2=some (.int .i64 x.2):=c1.cellAt rfl
  have ek:av H1 H.next 0 2=some (cn x.1):=c1.av 2 0 (by simp[lT])
  have hF1:=hF.out0 o1
  have k4:cellAt H1 q 4=some (.ptr b.kp 0):=hF1.c.cellAt rfl
  have hg:iT (ks.take i) x.1=none:=by
   cases hg:iT (ks.take i) x.1 with
   | none=>rfl
   | some id=>
    obtain⟨u,v,h4,_⟩:=Pn hg
    have h5:(x.1,id)∈ks.take i:=by rw[h4];simp
    have hs:ks=ks.take i++x::r:=by rw[<-h,ah8]
    rw[hs,ad8,aff] at gU
    exact absurd rfl (gU.2.2 _ (adD.2 ⟨_,h5,rfl⟩) x.1 (by simp))
  obtain⟨tN,H2,u1,u2,u3⟩:=hF1.gE (k:=x.1) (by show (ks.take i).length<128;rw[ael];omega) hg x.2
  have ht:ks.take (i+1)=ks.take i++[x]:=by rw[ahw,h2];rfl
  have hF2:FL H2 q { b with kl:=tN } { g with ks:=ks.take (i+1) }:=by rw[ht];exact u2
  have dH:=hx.1.lt
  obtain⟨b',H',i1,i2,i3,i4⟩:=fclone_loop hn gU r (i+1) H2 _ h1 h3 ((hx.out0 o1).out u3.o fun j hj z=>hd j hj z) (fun j hj z=>(u3.w j z).elim (hd j hj) fun z=>by have:=dH j hj;have:=o1.1;omega) hF2
  refine⟨b',H',fun ey => ?_,i2,((FSt.same o1 q b).trans u3).trans i3,i4⟩
  rw[YK]
  simp(disch:=first|exact zqz|fail)only[bl_flow_Flow_Clone,bH h1,q1,q4,hz,dq,k4,ek,e2,u1,es,i1,ar,au,aj,ai,simprocAttr]
theorem cloneOne_c {H:Hp}{x:AV}{l:List AV}(hx:Rw H 5 x l)(ho:∀ v∈l,ba v=true)(hl:l.length<=16777216) :
  ∃ y H',cK (.func (.func 31) [] []) [x] H=some (y,H')/\Ow H' 77 5 y l/\Out [] H H'/\(∀ j∈ak y,H.next<=j):=by
 have hu:P.underlying 64=some (.slice 77):=Tryz.underlying64
 by_cases h0:x = .ah
 ·subst h0
  have:l=[]:=by cases hx;rfl
  subst this
  refine⟨.ah,H,VN ?_,.nil,Out.refl _ _,fun j hj=>by simp[ak] at hj⟩
  unfold MZ
  simp only[Ez,lf,Ht hu,aj,ai,simprocAttr]
 ·obtain⟨y,H',h1,h2,h3,h4⟩:=Ej (el:=77) (fJ:=77) (z:=[.ah,(.int .i64 0),.ah,.ah,(.str [])]) hx ho (by decide) hl
  refine⟨y,H',VN ?_,h2,h3,h4⟩
  have hq:∃ i o n c ex aL,x = .slice i o n c ex aL:=by
   cases hx with
   | nil=>exact absurd rfl h0
   | emp=>exact⟨_,_,_,_,_,_,rfl⟩
   | mk _ _ _ _=>exact⟨_,_,_,_,_,_,rfl⟩
  obtain⟨i,o,n,c,ex,aL,rfl⟩:=hq
  unfold MZ
  have dN:aE H [] 77 0=some (H.next,al H [] 77 0):=gB (by simp)
  simp only[F3,lf,HR hu,tP,dN,h1,aj,ai,simprocAttr]
theorem flat5 (ras:List RA)(az:List (Rn × aq)):(List.zipWith dI ras az).flatten.length<=az.length*5:=by
 have:=xd (L:=List.zipWith dI ras az) (es:=5) fun c hc=>by
  obtain⟨i,hi⟩:=List.mem_iff_getElem?.1 hc
  rw[aeh] at hi
  split at hi
  ·cases hi;rfl
  ·cases hi
 rw[this,agy]
 exact aeF _ (akR _ _)
theorem fclone_c {H:Hp}{p:Nat}{a:FA}{f:Fm}(h:FL H p a f)(kP:11<=H.next)(hn:f.nms.length<=1000)(hr:f.az.length<=1000)(hk:f.ks.length<=128)(cq:(f.ks.map (·.1)).Nodup) :
  ∃ q b H',cK (.func (.func 14) [] []) [.ptr p 0] H=some (.ptr q 0,H')/\FL H' q b f/\Out [] H H'/\(∀ j∈own q b,H.next<=j)/\∀ j∈DfK.dB b,j∈DfK.dB a:=by
 have aI:=h.lt
 have gX:∀ j∈DfK.dB a,j<H.next:=fun j hj=>(h.dB j hj).2
 obtain⟨q,b,H1,n1,n2,n3,n4,n5⟩:=Mv kP
 have mO:DfK.dB b=[]:=by unfold DfK.dB;rw[n5];rfl
 have h1:=h.out0 n3
 have a0:cellAt H1 p 0=some (.int .i64 f.ck):=h1.c.cellAt rfl
 obtain⟨H2,c1,c2,c3⟩:=n2.clock f.ck
 have h2:=h1.hi c3.o aI gX n4
 have a1:cellAt H2 p 1=some a.nx:=h2.c.cellAt rfl
 have l2:=c3.o.1
 have l1:=n3.1
 obtain⟨y,H3,y1,y2,y3,y4,_⟩:=Y8 h2.n.rw (fun v hv=>by obtain⟨s,_,rfl⟩:=adD.1 hv;rfl) (by rw[ji];omega)
 have qG:=c2.out0 y3
 have gj:=c2.lt
 obtain⟨H4,d1,d2,d3,d4⟩:=qG.newN (fX:=y) (l:=f.nms) y2 fun j hj=>⟨fun z=>by have:=y4 j hj;have:=gj j z;omega,by have:=y4 j hj;omega,by rw[mO];exact fun z=>by cases z⟩
 have vm:∀ j∈own q { b with nx:=y },H.next<=j:=fun j hj=>(d4 j hj).elim (n4 j) fun z=>by have:=y4 j z;omega
 have h4:=(h2.out0 y3).hi d3 aI gX fun j hj=>n4 j (fL (k:=0) rfl hj)
 obtain⟨H5,e1,e2,e3⟩:=h4.copyT d2 rfl (fun z=>by
  have s1:=vm _ (fL (p:=q) (a:={ b with nx:=y }) (k:=1) rfl (.head _))
  have s2:=aI _ (fL (p:=p) (a:=a) (k:=1) rfl (.head _))
  have z':b.tm=a.tm:=z
  have s1':H.next<=b.tm:=s1
  omega)
 have h5:=h4.hi e3 aI gX fun j hj=>vm j (fL (k:=1) rfl hj)
 have a3:cellAt H5 p 3=some a.rx:=h5.c.cellAt rfl
 obtain⟨eI,H6,r1,r2,r3,r4⟩:=cloneOne_c h5.r.1.rw h5.r.1.one (by have:=flat5 a.ras f.az;omega)
 have hb6:=e2.out0 r3
 have hbl6:=e2.lt
 have h6:=h5.out0 r3
 have l45:H.next<=H5.next:=by have:=y3.1;have:=d3.1;have:=e3.1;omega
 obtain⟨H7,g1,g2,g3,g4⟩:=hb6.newR (eI:=eI) (ras:=a.ras) (az:=f.az) h.len ⟨r2,h5.r.2⟩ h6.v (fun j hj=>⟨fun z=>by have:=r4 j hj;have:=hbl6 j z;omega,by have:=r4 j hj;omega⟩) fun j hj=>⟨fun z=>by have:=gX j hj;have:=vm j z;omega,fun z=>by have:=gX j hj;have:=r4 j z;omega,by have:=gX j hj;have:=r3.1;omega⟩
 have pR:∀ j∈own q { b with nx:=y,rx:=eI,ras:=a.ras },H.next<=j:=fun j hj=>(g4 j hj).elim (vm j) fun z=>by have:=r4 j z;omega
 have h7:=h6.hi g3 aI gX fun j hj=>n4 j (fL (k:=0) rfl hj)
 have a4:cellAt H7 p 4=some (.ptr a.kp 0):=h7.c.cellAt rfl
 obtain⟨ox,H8,x1,x2,x3,x4⟩:=akK (by omega) h7.k
 have jg:=x2.rl.len (by decide)
 rw[adV] at jg
 have hg7:=g2.lt
 obtain⟨b',H9,i1,i2,i3,i4⟩:=fclone_loop (q:=q) (g:=f) (ks:=f.ks) (ox:=ox) hk cq f.ks 0 H8 { b with nx:=y,rx:=eI,ras:=a.ras } (ac4 _) ada x2.rl (fun j hj z=>by have:=x4 j hj;have:=hg7 j z;omega) (g2.out0 x3)
 rw[show (((0:Nat):Int))=0 from rfl] at i1
 have oT:Out [] H H9:=by
  have s1:=n3.then c3.o fun j hj => .inr (n4 j hj)
  have s2:=(s1.trans y3).then d3 fun j hj => .inr (n4 j (fL (k:=0) rfl hj))
  have s3:=s2.then e3 fun j hj => .inr (vm j (fL (k:=1) rfl hj))
  have s4:=(s3.trans r3).then g3 fun j hj => .inr (n4 j (fL (k:=0) rfl hj))
  exact (s4.trans x3).then i3.o fun j hj => .inr (pR j hj)
 have l8:H.next<=H8.next:=by have:=r3.1;have:=g3.1;have:=x3.1;omega
 refine⟨q,b',H9,af4 ?_,i2,oT,fun j hj=>(i3.w j hj).elim (pR j) fun z=>by omega,fun j hj => ?_⟩
 ·unfold NR
  simp(disch:=first|exact zqz|fail)only[n1,a0,c1,a1,y1,d1,e1,a3,r1,g1,a4,x1,jg,i1,ar,au,aj,ai,simprocAttr]
 ·unfold DfK.dB at hj ⊢
  rw[i4] at hj
  exact hj
theorem pickL {α:Type}(Q:Nat->α->Prop):∀ n,(∀ j,j<n->∃ a,Q j a)->∃ l:List α,l.length=n/\∀ (j:Nat) (a:α),l[j]? = some a->Q j a
 | 0,_=>⟨[],rfl,fun j a h=>by simp at h⟩
 | n+1,h=>by
  obtain⟨l,hl,hq⟩:=pickL Q n fun j hj=>h j (by omega)
  obtain⟨a,ha⟩:=h n (by omega)
  refine⟨l++[a],by simp[hl],fun j b hb => ?_⟩
  by_cases hj:j<l.length
  ·rw[abD hj] at hb;exact hq j b hb
  ·rw[ab7 (by omega)] at hb
   have:j-l.length=0:=by
    have:=(aas.1 hb).1
    simp at this;omega
   rw[this] at hb
   cases hb
   rw[show j=n by omega];exact ha
theorem is_i {H:Hp}{k:IntKind}{l:List AV}{d:D}(h:Is H (.int k) l d):∃ z,l=[.int k z]/\k.min<=z/\z<=k.max:=by
 cases h with
 | int k z h=>exact⟨z,rfl,h⟩
def okS (s:aq):Prop:=(∀ c∈s,c<256)/\s.length<=Go.reachBytes
theorem is_s {H:Hp}{l:List AV}{d:D}(h:Is H .str l d):∃ s,l=[.str s]/\okS s:=by
 cases h with
 | str s h hl=>exact⟨s,rfl,h,hl⟩
theorem flat_of {es:Nat}:∀ {cs:List AV} {L:List (List AV)},cs.length=L.length*es->(∀ (i:Nat) (c:List AV),L[i]? = some c->(cs.drop (i*es)).take es=c/\c.length=es)->cs=L.flatten
 | cs,[],h,_=>by
  simp at h;simp[h]
 | cs,a::L,h,hq=>by
  obtain⟨h1,h2⟩:=hq 0 a rfl
  rw[ahk,ada] at h1
  simp only[aaN,afA,aiO] at h
  have ih:=flat_of (es:=es) (cs:=cs.drop es) (L:=L) (by rw[afK];omega) fun i c hc=>by
   obtain⟨g1,g2⟩:=hq (i+1) c hc
   refine⟨?_,g2⟩
   rw[List.drop_drop,show es+i*es=(i+1)*es by rw[afA,aiO];omega]
   exact g1
  rw[aj1,<-ih,<-h1,ah8]
theorem row_of {α:Type}{H:Hp}{es:Nat}{ty:Ty}{x:AV}{d:D}(C:α->List AV)(hC:∀ a,(C a).length=es)(Q:α->Prop)(h1:∀ (l:List AV) (d:D),l.length=es->Is H ty l d->∃ a,l=C a/\Q a)(dy:0<es)(h:Is H (.slice es ty) [x] d) :
  ∃ l:List α,RL H es x (l.map C)/\∀ a∈l,Q a:=by
 cases h with
 | @slice _ _ _ cs ds hr hl hd=>
  obtain⟨l,g1,g2⟩:=pickL (fun j (a:α)=>(cs.drop (j*es)).take es=C a/\Q a) ds.length (fun j hj=>by
   have hs:=hd j _ (aau hj)
   have hle:(j+1)*es<=ds.length*es:=aeF _ hj
   rw[afA,aiO] at hle
   exact h1 _ _ (by rw[ael,afK];omega) hs)
  refine⟨l,⟨?_,fun c hc => ?_⟩,fun a ha => ?_⟩
  ·have:cs=(l.map C).flatten:=flat_of (by rw[adV,g1];exact hl) fun i c hc=>by
    rw[adX,aaa] at hc
    obtain⟨a,ha,rfl⟩:=hc
    exact⟨(g2 i a ha).1,hC a⟩
   rw[<-this];exact hr
  ·obtain⟨a,_,rfl⟩:=adD.1 hc
   exact hC a
  ·obtain⟨j,hj⟩:=adQ ha
   exact (g2 j a hj).2
def evs (l:List Ev):List (List AV):=l.map aG
def allP {α:Type}(p:α->α->Bool):List α->List α->Bool
 | [],_=>true
 | _::_,[]=>true
 | a::l,b::m=>p a b&&allP p l m
def eqL {α:Type}(p:α->α->Bool)(l m:List α):Bool:=decide (l.length=m.length)&&allP p l m
structure Szr (R:Rn):Prop where
 a:R.rs.length<=16777216
 b:R.sg.length<=16777216
 c:R.ts.length<=16777216
 d:∀ t∈R.ts,t.after.length<=16777216
theorem st_row {r:RA}{x:Rn × aq}(hv:(dI r x).all ba=true)(H:Hp):st 5 (.ptr H.next 0) (.agg (dI r x)) (al H [.ah,(.int .i64 0),.ah,.ah,(.str [])] 77 0)=some (al H (dI r x) 77 0):=iV hv rfl rfl (by decide) rfl
theorem FL.one {H:Hp}{p:Nat}{a:FA}{f:Fm}(h:FL H p a f){i:Nat}{r:RA}{x:Rn × aq}(hr:a.ras[i]? = some r)(hx:f.az[i]? = some x):(dI r x).all ba=true:=h.r.one _ (aaF (RU hr hx))
structure SzF (f:Fm):Prop where
 n:f.nms.length<=1000
 r:f.az.length<=1000
 k:f.ks.length<=1000
 z:∀ x∈f.az,Szr x.1
theorem after_le {ts:List Tk}(hn:ts.length<=16)(ha:uD ts):∀ t∈ts,t.after.length<=16:=fun t ht=>by
 obtain⟨i,hi⟩:=adQ ht
 obtain⟨x1,x2⟩:=yi ha hi
 have:=Kp (n:=ts.length) (fun a h=>⟨(x1 a h).1,(x1 a h).2.1⟩) x2
 omega
def u3 (r:RT):Bool:=r.ph==3
def u3at (rs:List RT)(k:Nat):Bool:=((rs[k]?).map u3).getD false
theorem ph_u3 (rs:List RT)(a:Int):(wZ rs a != 3) = !(u3at rs a.toNat):=by
 unfold wZ u3at
 cases rs[a.toNat]? <;> rfl
theorem blk_congr {rs ua:List RT}(h:∀ k,u3at rs k=u3at ua k)(t:Tk):cg rs t=cg ua t:=by
 unfold cg
 refine Q9 fun a _ => ?_
 rw[ph_u3,ph_u3,h]
theorem blk_mono {rs ua:List RT}(h:∀ k,u3at rs k=true->u3at ua k=true){t:Tk}(hb:cg rs t=false):cg ua t=false:=by
 unfold cg at hb ⊢
 rw[aiQ] at hb ⊢
 intro a ha
 have:=hb a ha
 rw[ph_u3] at this ⊢
 have h1:u3at rs a.toNat=true:=by simpa using this
 rw[h _ h1];simp
theorem settle_at {R:Rn}{i:Nat}{t:Tk}{r:RT}(ht:R.ts[i]? = some t)(hr:R.rs[i]? = some r):(ig R).rs[i]? = some (jT R.rs R.sg t r):=by
 unfold ig
 simp only
 rw[aeh,ht,hr]
theorem settle_len {R:Rn}(h:R.rs.length=R.ts.length):(ig R).rs.length=R.rs.length:=by
 unfold ig
 simp only
 rw[agy];omega
theorem settle_u3 {R:Rn}(h:R.rs.length=R.ts.length):(ig R).rs.map u3=R.rs.map u3:=by
 apply aij
 intro k
 rw[adX,adX]
 by_cases hk:k<R.rs.length
 ·have e1:R.rs[k]? = some R.rs[k]:=aau hk
  have e2:R.ts[k]? = some (R.ts[k]'(by omega)):=aau _
  rw[settle_at e2 e1,e1]
  simp only[aek]
  congr 1
  exact PC _ _ _ _
 ·rw[agl (by rw[settle_len h];omega),agl (by omega)]
theorem u3at_map {rs ua:List RT}(h:rs.map u3=ua.map u3)(k:Nat):u3at rs k=u3at ua k:=by
 unfold u3at
 rw[<-adX,<-adX,h]
theorem cnt_map {rs ua:List RT}(h:rs.map u3=ua.map u3):rs.countP u3=ua.countP u3:=by
 have e:∀ l:List RT,l.countP u3=(l.map u3).countP id:=fun l=>by rw[List.countP_map];rfl
 rw[e,e,h]
theorem all_cnt {l:List RT}:(l.all fun r=>r.ph==3)=decide (l.countP u3=l.length):=by
 rw[Bool.eq_iff_iff,adY,decide_eq_true_eq,List.countP_eq_length]
 exact Iff.rfl
theorem settle_st {R:Rn}:(ig R).st=if R.rs.countP u3=R.rs.length then 1 else R.st:=by
 unfold ig
 simp only
 rw[all_cnt]
 by_cases h:R.rs.countP u3=R.rs.length
 ·rw[decide_eq_true h,if_pos rfl,if_pos h]
 ·rw[decide_eq_false h,if_neg (by simp),if_neg h]
structure Inv0 (R:Rn):Prop where
 ok:lX R
 n1:1<=R.rs.length
 n2:R.rs.length<=16
 td:∀ t∈R.ts,0<=t.retry/\t.retry<=8/\1<=t.base/\t.base<=1000
 tr:∀ (i:Nat) (t:Tk) (r:RT),R.ts[i]? = some t->R.rs[i]? = some r->0<=r.tr/\r.tr<=t.retry+1/\(r.ph=0\/r.ph=1\/r.ph=5->r.tr<=t.retry)/\(r.ph≠0->cg R.rs t=false)
def stI (R:Rn):Prop:=R.st=1 ↔ ∀ r∈R.rs,r.ph=3
structure Step (R R':Rn):Prop where
 ts:R'.ts=R.ts
 len:R'.rs.length=R.rs.length
 mono:∀ (i:Nat) (r r':RT),R.rs[i]? = some r->R'.rs[i]? = some r'->r.tr<=r'.tr/\(r.ph=3->r'=r)
 sg:R'.sg.length<=R.sg.length+1
theorem Step.refl (R:Rn):Step R R:=⟨rfl,rfl,fun i r r' h h'=>by rw[h] at h';cases h';exact⟨Int.le_refl _,fun _=>rfl⟩,by omega⟩
theorem Inv0.bd {R:Rn}(h:Inv0 R):sS R:=⟨fun t ht=>by have:=h.td t ht;omega,fun r hr=>by
 obtain⟨i,hi⟩:=adQ hr
 have bu:=(aas.1 hi).1
 have ht:R.ts[i]? = some (R.ts[i]'(by rw[<-h.ok.len];exact bu)):=aau _
 have a:=h.tr i _ r ht hi
 have b:=h.td _ (aaF ht)
 omega⟩
theorem u3_set {rs:List RT}{i:Nat}{r r1:RT}(hr:rs[i]? = some r)(h3:r.ph≠3):∀ k,u3at rs k=true->u3at (rs.set i r1) k=true:=by
 intro k hk
 by_cases e:i=k
 ·subst e
  unfold u3at at hk
  rw[hr] at hk
  have:(r.ph==3)=true:=hk
  exact absurd (by simpa using this) h3
 ·unfold u3at at hk ⊢
  rw[ajj e];exact hk
theorem set_inv {R:Rn}{i:Nat}{t:Tk}{r r1:RT}{s1:Int}(h:Inv0 R)(ht:R.ts[i]? = some t)(hr:R.rs[i]? = some r)(h3:r.ph≠3)(h0:r.ph≠0)(b1:r.tr<=r1.tr)(b2:r1.tr<=t.retry+1)(b3:r1.ph=0\/r1.ph=1\/r1.ph=5->r1.tr<=t.retry) :
  Inv0 { R with rs:=R.rs.set i r1,st:=s1 }/\Step R { R with rs:=R.rs.set i r1,st:=s1 }:=by
 have hu:=u3_set (r1:=r1) hr h3
 have bu:=(aas.1 hr).1
 have hk:=h.ok.set i r1
 refine⟨⟨⟨⟨hk.sm.n,hk.sm.a,hk.sm.r,hk.sm.s⟩,hk.len,hk.jn⟩,by show 1<=(R.rs.set i r1).length;rw[adM];exact h.n1,by show (R.rs.set i r1).length<=16;rw[adM];exact h.n2,h.td,fun j u q iL hq => ?_⟩,rfl,adM,fun j q q' hq hq' => ?_,by show R.sg.length<=_;omega⟩
 ·have pR:(R.rs.set i r1)[j]? = some q:=hq
  have qY:R.ts[j]? = some u:=iL
  by_cases e:i=j
  ·subst e
   rw[afz bu] at pR
   have e1:r1=q:=adw pR
   have e2:t=u:=adw (ht.symm.trans qY)
   subst e1
   subst e2
   have a:=h.tr i t r ht hr
   exact⟨by omega,b2,b3,fun _=>blk_mono hu (a.2.2.2 h0)⟩
  ·rw[ajj e] at pR
   have a:=h.tr j u q qY pR
   exact⟨a.1,a.2.1,a.2.2.1,fun z=>blk_mono hu (a.2.2.2 z)⟩
 ·have pR:(R.rs.set i r1)[j]? = some q':=hq'
  by_cases e:i=j
  ·subst e
   rw[afz bu] at pR
   have e1:r1=q':=adw pR
   have e2:r=q:=adw (hr.symm.trans hq)
   subst e1
   subst e2
   exact⟨b1,fun z=>absurd z h3⟩
  ·rw[ajj e] at pR
   have e1:q=q':=adw (hq.symm.trans pR)
   subst e1
   exact⟨Int.le_refl _,fun _=>rfl⟩
theorem settle_inv {R:Rn}(h:Inv0 R):Inv0 (ig R)/\Step R (ig R):=by
 have hl:=h.ok.len
 have hlen:=settle_len hl
 have hb:∀ t,cg (ig R).rs t=cg R.rs t:=fun t=>blk_congr (u3at_map (settle_u3 hl)) t
 have eB:∀ (i:Nat) (r:RT),(ig R).rs[i]? = some r->∃ t r0,R.ts[i]? = some t/\R.rs[i]? = some r0/\r=jT R.rs R.sg t r0:=by
  intro i r hr
  have bu:=(aas.1 hr).1
  rw[hlen] at bu
  have e1:R.rs[i]? = some R.rs[i]:=aau _
  have e2:R.ts[i]? = some (R.ts[i]'(by rw[<-hl];exact bu)):=aau _
  rw[settle_at e2 e1] at hr
  cases hr
  exact⟨_,_,e2,e1,rfl⟩
 have e1:(ig R).ts=R.ts:=rfl
 have e2:(ig R).sg=R.sg:=rfl
 refine⟨⟨⟨⟨h.ok.sm.n,h.ok.sm.a,by rw[hlen];exact h.ok.sm.r,h.ok.sm.s⟩,by rw[hlen];exact hl,h.ok.jn⟩,by rw[hlen];exact h.n1,by rw[hlen];exact h.n2,h.td,fun i t r ht hr => ?_⟩,rfl,hlen,fun i r r' hr eH => ?_,by rw[e2];omega⟩
 ·obtain⟨t',r0,k1,k2,rfl⟩:=eB i r hr
  have ht:R.ts[i]? = some t:=ht
  rw[k1] at ht
  cases ht
  have a:=h.tr i t r0 k1 k2
  rw[hb]
  unfold jT
  split
  ·rename_i hy
   unfold zt at hy
   simp only[aaG,aj3,beq_iff_eq] at hy
   exact⟨a.1,a.2.1,fun _=>a.2.2.1 (.inl hy.1),fun _=>hy.2.1⟩
  ·exact a
 ·obtain⟨t',r0,k1,k2,rfl⟩:=eB i r' eH
  rw[hr] at k2
  cases k2
  unfold jT
  split
  ·rename_i hy
   unfold zt at hy
   rw[aaG,beq_iff_eq] at hy
   exact⟨Int.le_refl _,fun z=>by rw[hy.1] at z;cases z⟩
  ·exact⟨Int.le_refl _,fun _=>rfl⟩
theorem Step.trans {A B C:Rn}(h:Step A B)(k:Step B C)(hs:B.sg=A.sg\/C.sg=B.sg):Step A C:=by
 refine⟨k.ts.trans h.ts,k.len.trans h.len,fun i r r' hr eH => ?_,?_⟩
 ·have bu:=(aas.1 hr).1
  have e:B.rs[i]? = some (B.rs[i]'(by rw[h.len];exact bu)):=aau _
  obtain⟨a1,a2⟩:=h.mono i r _ hr e
  obtain⟨b1,b2⟩:=k.mono i _ r' e eH
  exact⟨by omega,fun z=>by rw[b2 (by rw[a2 z];exact z),a2 z]⟩
 ·have a:=h.sg
  have b:=k.sg
  rcases hs with e | e
  ·rw[e] at b;exact b
  ·rw[e];exact a
theorem stI_of {R:Rn}(h:R.rs.countP u3=R.rs.length->R.st=1)(h':R.rs.countP u3≠R.rs.length->R.st≠1):stI R:=by
 unfold stI
 constructor
 ·intro e r hr
  refine Classical.byContradiction fun q => ?_
  by_cases hc:R.rs.countP u3=R.rs.length
  ·rw[List.countP_eq_length] at hc
   have:=hc r hr
   unfold u3 at this
   exact q (by simpa using this)
  ·exact h' hc e
 ·intro e
  refine h ?_
  rw[List.countP_eq_length]
  intro r hr
  unfold u3
  rw[e r hr];rfl
theorem not_all {R:Rn}{i:Nat}{r:RT}(hr:R.rs[i]? = some r)(h3:r.ph≠3)(hs:R.st≠1):stI R:=by
 unfold stI
 exact⟨fun e=>absurd e hs,fun e=>absurd (e r (aaF hr)) h3⟩
theorem settle_stI {R:Rn}(hl:R.rs.length=R.ts.length)(h0:R.st≠1):stI (ig R):=by
 have hc:=cnt_map (settle_u3 hl)
 have hlen:=settle_len hl
 have aC:=settle_st (R:=R)
 refine stI_of (fun e => ?_) (fun e => ?_)
 ·rw[hc,hlen] at e
  rw[aC,if_pos e]
 ·rw[hc,hlen] at e
  rw[aC,if_neg e];exact h0
def Good1 (R R':Rn)(e:Int):Prop:=e=0->Inv0 R'/\stI R'/\Step R R'
theorem lease_good {R:Rn}(h:Inv0 R)(hs:stI R)(task now:Int)(t:RT)(ht:R.rs[task.toNat]? = some t):Good1 R (nO R task (fC (t.tr+1)) now).1 (nO R task (fC (t.tr+1)) now).2:=by
 intro he
 unfold nO at he ⊢
 by_cases h0:nR R task=0
 ·obtain⟨i,u,rfl,hu,aC⟩:=DW h0
  rw[acT] at ht
  have e0:u=t:=adw (hu.symm.trans ht)
  subst e0
  have bu:=(aas.1 hu).1
  have hd:R.ts[i]? = some (R.ts[i]'(by rw[<-h.ok.len];exact bu)):=aau _
  rw[if_pos h0,acT,hu,hd] at he ⊢
  simp only at he ⊢
  by_cases h1:u.ph=1
  ·rw[if_pos h1,if_pos trivial]
   have a:=h.tr i _ u hd hu
   have b:=h.td _ (aaF hd)
   have c:=a.2.2.1 (.inr (.inl h1))
   have ew:fC (u.tr+1)=u.tr+1:=wrap_i64 (by omega) (by omega)
   obtain⟨k1,k2⟩:=set_inv (s1:=R.st) (r1:=⟨2,fC (u.tr+1),fC (now+(R.ts[i]'(by rw[<-h.ok.len];exact bu)).wait),u.wV⟩) h hd hu (by rw[h1];decide) (by rw[h1];decide) (by show u.tr<=fC (u.tr+1);rw[ew];omega) (by show fC (u.tr+1)<=_;rw[ew];omega) (by intro z;rcases z with z | z | z<;>cases z)
   refine⟨k1,?_,k2⟩
   exact not_all (i:=i) (afz bu) (by show (2:Int)≠3;decide) (by show R.st≠1;rw[aC];decide)
  ·rw[if_neg h1] at he;cases he
 ·rw[if_neg h0] at he;exact absurd he h0
theorem done_good {R:Rn}(h:Inv0 R)(hs:stI R)(task bw:Int)(d:aq):Good1 R (qh R task bw d).1 (qh R task bw d).2:=by
 intro he
 unfold qh at he ⊢
 by_cases h0:mI R task bw=0
 ·obtain⟨i,u,rfl,hu,aC,mD,Hy⟩:=Jx h0
  have bu:=(aas.1 hu).1
  have hd:R.ts[i]? = some (R.ts[i]'(by rw[<-h.ok.len];exact bu)):=aau _
  rw[if_pos h0,acT]
  have a:=h.tr i _ u hd hu
  obtain⟨k1,k2⟩:=set_inv (s1:=R.st) (r1:=⟨3,bw,0,d⟩) h hd hu (by rw[mD];decide) (by rw[mD];decide) (by show u.tr<=bw;omega) (by show bw<=_;omega) (by intro z;rcases z with z | z | z<;>cases z)
  obtain⟨m1,m2⟩:=settle_inv k1
  exact⟨m1,settle_stI k1.ok.len (by show R.st≠1;rw[aC];decide),k2.trans m2 (.inr rfl)⟩
 ·rw[if_neg h0] at he;exact absurd he h0
theorem failR_good {R:Rn}(h:Inv0 R){i:Nat}{t:RT}{d:Tk}(hr:R.rs[i]? = some t)(hd:R.ts[i]? = some d)(aC:R.st=0)(mD:t.ph=2)(now:Int):Inv0 (lI R i t d now)/\stI (lI R i t d now)/\Step R (lI R i t d now)/\(lI R i t d now).sg=R.sg:=by
 have bu:=(aas.1 hr).1
 have a:=h.tr i d t hd hr
 unfold lI
 split
 ·rename_i hle
  obtain⟨k1,k2⟩:=set_inv (s1:=R.st) (r1:={ t with ph:=5,kC:=fC (now+dM d.base t.tr) }) h hd hr (by rw[mD];decide) (by rw[mD];decide) (Int.le_refl _) a.2.1 (fun _=>hle)
  exact⟨k1,not_all (i:=i) (afz bu) (by show (5:Int)≠3;decide) (by show R.st≠1;rw[aC];decide),k2,rfl⟩
 ·obtain⟨k1,k2⟩:=set_inv (s1:=2) (r1:={ t with ph:=4,kC:=0 }) h hd hr (by rw[mD];decide) (by rw[mD];decide) (Int.le_refl _) a.2.1 (by intro z;rcases z with z | z | z<;>cases z)
  exact⟨k1,not_all (i:=i) (afz bu) (by show (4:Int)≠3;decide) (by show (2:Int)≠1;decide),k2,rfl⟩
theorem tickAt_good {R:Rn}(h:Inv0 R)(hs:stI R)(i:Nat)(now:Int):Inv0 (tickAt now R i)/\stI (tickAt now R i)/\Step R (tickAt now R i)/\(tickAt now R i).sg=R.sg:=by
 unfold tickAt
 split
 ·rename_i t d ht hd
  split
  ·exact⟨h,hs,Step.refl R,rfl⟩
  ·rename_i hn
   rw[not_or] at hn
   have aC:R.st=0:=ahN.1 hn.1
   split
   ·rename_i mD
    exact failR_good h ht hd aC mD now
   ·split
    ·rename_i mD
     have bu:=(aas.1 ht).1
     have a:=h.tr i d t hd ht
     obtain⟨k1,k2⟩:=set_inv (s1:=R.st) (r1:={ t with ph:=1,kC:=0 }) h hd ht (by rw[mD];decide) (by rw[mD];decide) (Int.le_refl _) a.2.1 (fun _=>a.2.2.1 (.inr (.inr mD)))
     exact⟨k1,not_all (i:=i) (afz bu) (by show (1:Int)≠3;decide) (by show R.st≠1;rw[aC];decide),k2,rfl⟩
    ·exact⟨h,hs,Step.refl R,rfl⟩
 ·exact⟨h,hs,Step.refl R,rfl⟩
theorem signal_good {R:Rn}(h:Inv0 R)(hs:stI R)(name:aq)(wF:R.sg.length<=900):Good1 R (rU R name).1 (rU R name).2:=by
 intro he
 unfold rU at he ⊢
 by_cases h0:R.st≠0
 ·rw[if_pos h0] at he;cases he
 rw[if_neg h0] at he ⊢
 have aC:R.st=0:=ahN.1 h0
 split at he
 ·cases he
 ·rename_i h5
  rw[if_neg h5]
  split at he
  ·rename_i h6
   rw[if_pos h6]
   have k1:Inv0 { R with sg:=R.sg++[name] }:=⟨⟨⟨h.ok.sm.n,h.ok.sm.a,h.ok.sm.r,by show (R.sg++[name]).length<=1000;rw[aa0];simp;omega⟩,h.ok.len,h.ok.jn⟩,h.n1,h.n2,h.td,h.tr⟩
   have k2:Step R { R with sg:=R.sg++[name] }:=⟨rfl,rfl,(Step.refl R).mono,by show (R.sg++[name]).length<=_;rw[aa0];simp⟩
   obtain⟨m1,m2⟩:=settle_inv k1
   exact⟨m1,settle_stI k1.ok.len (by show R.st≠1;rw[aC];decide),k2.trans m2 (.inr rfl)⟩
  ·cases he
theorem new_inv {ts:List Tk}(hg:jc ts=0)(h1:1<=ts.length)(h2:ts.length<=16)(ha:uD ts)(hq:∀ t∈ts,vK t=false/\tV t=false):Inv0 (bX ts).1/\stI (bX ts).1/\(bX ts).1.sg.length=0/\(bX ts).1.ts=ts/\(bX ts).2=0:=by
 unfold bX
 rw[if_pos hg]
 have dm:=after_le h2 ha
 have h0:Inv0 ⟨ts,0,List.replicate ts.length mM,[]⟩:=by
  refine⟨⟨⟨by show ts.length<=1000;omega,fun t ht=>by have:=dm t ht;omega,by show (List.replicate ts.length mM).length<=1000;rw[aeX];omega,ac4 _⟩,by show (List.replicate ts.length mM).length=ts.length;rw[aeX],fun t ht a haa => ?_⟩,by show 1<=(List.replicate ts.length mM).length;rw[aeX];exact h1,by show (List.replicate ts.length mM).length<=16;rw[aeX];exact h2,fun t ht => ?_,fun i t r ht hr => ?_⟩
  ·obtain⟨i,hi⟩:=adQ ht
   have:=(yi ha hi).1 a haa
   exact⟨this.1,by show a<(ts.length:Int);omega⟩
  ·have:=(hq t ht).2
   unfold tV at this
   simp only[ajL,Bool.not_eq_false',aaG,decide_eq_true_eq] at this
   omega
  ·have:=aaF hr
   have e:r=mM:=(List.mem_replicate.1 this).2
   subst e
   have ho:=(hq t (aaF ht)).2
   unfold tV at ho
   simp only[ajL,Bool.not_eq_false',aaG,decide_eq_true_eq] at ho
   exact⟨by show (0:Int)<=0;omega,by show (0:Int)<=t.retry+1;omega,fun _=>by show (0:Int)<=t.retry;omega,fun z=>absurd rfl z⟩
 exact⟨(settle_inv h0).1,settle_stI h0.ok.len (by show (0:Int)≠1;decide),rfl,rfl,rfl⟩
structure TI (r:RT):Prop where
 ph:0<=r.ph/\r.ph<=5
 dt:r.wV.length<=64
 tl:0<=r.kC/\r.kC<=1099511691776
 tz:r.ph≠2->r.ph≠5->r.kC=0
structure RI (R:Rn):Prop where
 i0:Inv0 R
 s1:stI R
 st:0<=R.st/\R.st<=3
 ti:∀ r∈R.rs,TI r
 sn:R.sg.Nodup
 sk:∀ s∈R.sg,s≠[]/\∃ t∈R.ts,t.on=s
 wt:∀ t∈R.ts,1<=t.wait/\t.wait<=1000
theorem nodup_len:∀ (l m:List aq),l.Nodup->(∀ x∈l,x∈m)->l.length<=m.length
 | [],m,_,_=>ac4 _
 | x::l,m,hn,h=>by
  rw[aio] at hn
  have hx:=h x (.head _)
  have ih:=nodup_len l (m.erase x) hn.2 fun y hy=>(List.mem_erase_of_ne fun q=>hn.1 (by rw[<-q];exact hy)).2 (h y (.tail _ hy))
  have:=List.length_erase_of_mem hx
  have:=List.length_pos_of_mem hx
  rw[aaN];omega
theorem RI.sg {R:Rn}(h:RI R):R.sg.length<=16:=by
 have:=nodup_len R.sg (R.ts.map (·.on)) h.sn fun s hs=>by
  obtain⟨_,t,ht,rfl⟩:=h.sk s hs
  exact List.mem_map_of_mem ht
 rw[adV,<-h.i0.ok.len] at this
 have:=h.i0.n2
 omega
theorem RI.to {R R':Rn}(h:RI R)(a:Inv0 R')(b:stI R')(qJ:R'.ts=R.ts)(wF:R'.sg=R.sg)(aC:0<=R'.st/\R'.st<=3)(hti:∀ r∈R'.rs,TI r):RI R':=
 ⟨a,b,aC,hti,by rw[wF];exact h.sn,by rw[wF,qJ];exact h.sk,by rw[qJ];exact h.wt⟩
theorem ti_set {rs:List RT}{i:Nat}{u:RT}(h:∀ r∈rs,TI r)(hu:TI u):∀ r∈rs.set i u,TI r:=fun r hr=>(mem_set hr).elim (h r) fun q=>q▸hu
theorem ti_settle {R:Rn}(h:∀ r∈R.rs,TI r):∀ r∈(ig R).rs,TI r:=by
 intro r hr
 obtain⟨i,hi⟩:=adQ hr
 have hz:(List.zipWith (jT R.rs R.sg) R.ts R.rs)[i]? = some r:=hi
 rw[aeh] at hz
 cases ht:R.ts[i]? with
 | none=>rw[ht] at hz;cases hz
 | some t=>
  cases hq:R.rs[i]? with
  | none=>rw[ht,hq] at hz;cases hz
  | some q=>
   rw[ht,hq] at hz
   have hq0:=h q (aaF hq)
   have Dc:jT R.rs R.sg t q=r:=adw hz
   subst Dc
   unfold jT
   split
   ·rename_i tM
    unfold zt at tM
    rw[aaG,beq_iff_eq] at tM
    exact⟨⟨by show (0:Int)<=1;omega,by show (1:Int)<=5;omega⟩,hq0.dt,hq0.tl,fun _ _=>hq0.tz (by rw[tM.1];decide) (by rw[tM.1];decide)⟩
   ·exact hq0
theorem st_settle {R:Rn}(h:0<=R.st/\R.st<=3):0<=(ig R).st/\(ig R).st<=3:=by
 unfold ig
 simp only
 split<;>omega
theorem lease_ri {R:Rn}(h:RI R)(task bw now:Int)(h0:0<=now)(h1:now<=1099511627776)(he:(nO R task bw now).2=0):RI (nO R task bw now).1/\(nO R task bw now).1.ts=R.ts:=by
 have hm:nR R task=0:=by
  unfold nO at he
  by_cases q:nR R task=0
  ·exact q
  ·rw[if_neg q] at he;exact absurd he q
 obtain⟨i,t,rfl,ht,aC⟩:=DW hm
 have bu:=(aas.1 ht).1
 have hd:R.ts[i]? = some (R.ts[i]'(by rw[<-h.i0.ok.len];exact bu)):=aau _
 have Hy:bw=fC (t.tr+1):=by
  unfold nO at he
  rw[if_pos hm,acT,ht,hd] at he
  simp only at he
  by_cases q:t.ph=1
  ·rw[if_pos q] at he
   by_cases q2:bw=fC (t.tr+1)
   ·exact q2
   ·rw[if_neg q2] at he;cases he
  ·rw[if_neg q] at he;cases he
 subst Hy
 obtain⟨a,b,_⟩:=lease_good h.i0 h.s1 (i:Int) now t (by rw[acT];exact ht) he
 have hw:=h.wt _ (aaF hd)
 have key:nO R (i:Int) (fC (t.tr+1)) now=({ R with rs:=R.rs.set i ⟨2,fC (t.tr+1),fC (now+(R.ts[i]'(by rw[<-h.i0.ok.len];exact bu)).wait),t.wV⟩ },0):=by
  unfold nO at he ⊢
  rw[if_pos hm,acT,ht,hd] at he ⊢
  simp only at he ⊢
  by_cases q:t.ph=1
  ·rw[if_pos q,if_pos trivial]
  ·rw[if_neg q] at he;cases he
 have qJ:(nO R (i:Int) (fC (t.tr+1)) now).1.ts=R.ts:=by rw[key]
 refine⟨h.to a b qJ (by rw[key]) (by rw[key];exact h.st) ?_,qJ⟩
 rw[key]
 refine ti_set h.ti ⟨⟨by show (0:Int)<=2;omega,by show (2:Int)<=5;omega⟩,(h.ti t (aaF ht)).dt,?_,fun q=>absurd rfl q⟩
 show 0<=fC _/\fC _<=_
 rw[show fC (now+(R.ts[i]'(by rw[<-h.i0.ok.len];exact bu)).wait)=now+(R.ts[i]'(by rw[<-h.i0.ok.len];exact bu)).wait from wrap_i64 (by omega) (by omega)]
 omega
theorem done_ri {R:Rn}(h:RI R)(task bw:Int)(d:aq)(hd:d.length<=64)(he:(qh R task bw d).2=0):RI (qh R task bw d).1/\(qh R task bw d).1.ts=R.ts:=by
 obtain⟨a,b,_⟩:=done_good h.i0 h.s1 task bw d he
 have hm:mI R task bw=0:=by
  unfold qh at he
  by_cases q:mI R task bw=0
  ·exact q
  ·rw[if_neg q] at he;exact absurd he q
 have key:qh R task bw d=(ig { R with rs:=R.rs.set task.toNat ⟨3,bw,0,d⟩ },0):=by unfold qh;rw[if_pos hm]
 rw[key] at a b ⊢
 refine⟨h.to a b rfl rfl (st_settle h.st) (ti_settle (ti_set h.ti ⟨⟨by show (0:Int)<=3;omega,by show (3:Int)<=5;omega⟩,hd,⟨by show (0:Int)<=0;omega,by show (0:Int)<=_;omega⟩,fun _ _=>rfl⟩)),rfl⟩
theorem dM_le (b t:Int):0<=dM b t/\dM b t<=64000:=by
 unfold dM
 have h1:=aiP b.toNat t.toNat
 omega
theorem failR_ri {R:Rn}(h:RI R){i:Nat}{t:RT}{d:Tk}(ht:R.rs[i]? = some t)(hd:R.ts[i]? = some d)(aC:R.st=0)(mD:t.ph=2){now:Int}(h0:0<=now)(h1:now<=1099511627776):RI (lI R i t d now)/\(lI R i t d now).ts=R.ts:=by
 obtain⟨a,b,_⟩:=failR_good h.i0 ht hd aC mD now
 have hT:=h.ti t (aaF ht)
 have hb:=dM_le d.base t.tr
 unfold lI at a b ⊢
 by_cases hle:t.tr<=d.retry
 ·rw[if_pos hle] at a b ⊢
  refine⟨h.to a b rfl rfl h.st (ti_set h.ti ⟨⟨by show (0:Int)<=5;omega,by show (5:Int)<=5;omega⟩,hT.dt,?_,fun _ q=>absurd rfl q⟩),rfl⟩
  show 0<=fC _/\fC _<=_
  rw[show fC (now+dM d.base t.tr)=now+dM d.base t.tr from wrap_i64 (by omega) (by omega)]
  omega
 ·rw[if_neg hle] at a b ⊢
  exact⟨h.to a b rfl rfl ⟨by show (0:Int)<=2;omega,by show (2:Int)<=3;omega⟩ (ti_set h.ti ⟨⟨by show (0:Int)<=4;omega,by show (4:Int)<=5;omega⟩,hT.dt,⟨by show (0:Int)<=0;omega,by show (0:Int)<=_;omega⟩,fun _ _=>rfl⟩),rfl⟩
theorem fail_ri {R:Rn}(h:RI R)(task bw now:Int)(h0:0<=now)(h1:now<=1099511627776)(he:(vR R task bw now).2=0):RI (vR R task bw now).1/\(vR R task bw now).1.ts=R.ts:=by
 unfold vR at he ⊢
 by_cases q:mI R task bw=0
 ·obtain⟨i,u,rfl,hu,aC,mD,Hy⟩:=Jx q
  have bu:=(aas.1 hu).1
  have hd:R.ts[i]? = some (R.ts[i]'(by rw[<-h.i0.ok.len];exact bu)):=aau _
  rw[if_pos q,acT,hu,hd]
  exact failR_ri h hu hd aC mD h0 h1
 ·rw[if_neg q] at he;exact absurd he q
theorem tickAt_ri {R:Rn}(h:RI R)(i:Nat){now:Int}(h0:0<=now)(h1:now<=1099511627776):RI (tickAt now R i)/\(tickAt now R i).ts=R.ts:=by
 obtain⟨a,b,_⟩:=tickAt_good h.i0 h.s1 i now
 unfold tickAt at a b ⊢
 split
 ·rename_i t d ht hd
  rw[ht,hd] at a b
  simp only at a b
  by_cases hn:R.st≠0\/now<t.kC
  ·rw[if_pos hn];exact⟨h,rfl⟩
  ·rw[if_neg hn] at a b ⊢
   rw[not_or] at hn
   by_cases hp:t.ph=2
   ·rw[if_pos hp];exact failR_ri h ht hd (ahN.1 hn.1) hp h0 h1
   ·rw[if_neg hp] at a b ⊢
    by_cases h5:t.ph=5
    ·rw[if_pos h5] at a b ⊢
     exact⟨h.to a b rfl rfl h.st (ti_set h.ti ⟨⟨by show (0:Int)<=1;omega,by show (1:Int)<=5;omega⟩,(h.ti t (aaF ht)).dt,⟨by show (0:Int)<=0;omega,by show (0:Int)<=_;omega⟩,fun _ _=>rfl⟩),rfl⟩
    ·rw[if_neg h5];exact⟨h,rfl⟩
 ·exact⟨h,rfl⟩
theorem tickN_ri {now:Int}(h0:0<=now)(h1:now<=1099511627776):∀ (m i:Nat) (R:Rn),RI R->RI (tickN now m i R)/\(tickN now m i R).ts=R.ts
 | 0,i,R,h=>⟨h,rfl⟩
 | m+1,i,R,h=>by
  obtain⟨a,b⟩:=tickAt_ri h i h0 h1
  obtain⟨c,d⟩:=tickN_ri h0 h1 m (i+1) _ a
  exact⟨c,d.trans b⟩
theorem signal_ri {R:Rn}(h:RI R)(name:aq)(he:(rU R name).2=0):RI (rU R name).1/\(rU R name).1.ts=R.ts:=by
 obtain⟨a,b,_⟩:=signal_good h.i0 h.s1 name (by have:=h.sg;omega) he
 unfold rU at he a b ⊢
 by_cases h0:R.st≠0
 ·rw[if_pos h0] at he;cases he
 rw[if_neg h0] at he a b ⊢
 by_cases h5:R.sg.any (fun s=>name==s)=true
 ·rw[if_pos h5] at he;cases he
 rw[if_neg h5] at he a b ⊢
 by_cases h6:GF R.ts name=true
 ·rw[if_pos h6] at a b ⊢
  have hno:name∉R.sg:=fun q=>h5 (List.any_eq_true.2 ⟨name,q,by simp⟩)
  unfold GF at h6
  rw[List.any_eq_true] at h6
  obtain⟨t,ht,hq⟩:=h6
  simp at hq
  refine⟨⟨a,b,st_settle h.st,ti_settle h.ti,?_,?_,h.wt⟩,rfl⟩
  ·show (R.sg++[name]).Nodup
   rw[aff]
   refine⟨h.sn,by simp,fun x hx y hy q => ?_⟩
   simp at hy
   subst hy;subst q
   exact hno hx
  ·intro s hs
   have ry:s∈R.sg++[name]:=hs
   rcases abV.1 ry with q | q
   ·exact h.sk s q
   ·rw[No] at q
    subst q
    exact⟨hq.2,t,ht,hq.1⟩
 ·rw[if_neg h6] at he;cases he
theorem cancel_ri {R:Rn}(h:RI R)(he:(cancelM R).2=0):RI (cancelM R).1/\(cancelM R).1.ts=R.ts:=by
 unfold cancelM at he ⊢
 by_cases h0:R.st≠0
 ·rw[if_pos h0] at he;cases he
 rw[if_neg h0]
 have aC:R.st=0:=ahN.1 h0
 refine⟨h.to ⟨⟨⟨h.i0.ok.sm.n,h.i0.ok.sm.a,h.i0.ok.sm.r,h.i0.ok.sm.s⟩,h.i0.ok.len,h.i0.ok.jn⟩,h.i0.n1,h.i0.n2,h.i0.td,h.i0.tr⟩ ⟨fun q => ?_,fun q => ?_⟩ rfl rfl ⟨by show (0:Int)<=3;omega,by show (3:Int)<=3;omega⟩ h.ti,rfl⟩
 ·have:(3:Int)=1:=q
  omega
 ·have:=h.s1.2 q
  omega
theorem new_ri {text:aq}(h:(aN text).2=0):RI (bX (aN text).1).1/\(bX (aN text).1).1.ts=(aN text).1/\(bX (aN text).1).2=0:=by
 obtain⟨g1,g2,g3,g4,g5,g6⟩:=LU h
 obtain⟨a,b,c,d,e⟩:=new_inv g1 g2 g3 g4 g6
 have h0:TI mM:=⟨⟨by show (0:Int)<=0;omega,by show (0:Int)<=5;omega⟩,ac4 _,⟨by show (0:Int)<=0;omega,by show (0:Int)<=_;omega⟩,fun _ _=>rfl⟩
 refine⟨?_,d,e⟩
 have wF:(bX (aN text).1).1.sg=[]:=List.length_eq_zero_iff.1 c
 refine⟨a,b,?_,?_,by rw[wF];exact ake,fun s hs=>by (rw[wF] at hs;cases hs),?_⟩
 ·unfold bX
  rw[if_pos g1]
  exact st_settle ⟨by show (0:Int)<=0;omega,by show (0:Int)<=3;omega⟩
 ·unfold bX
  rw[if_pos g1]
  refine ti_settle fun r hr => ?_
  rw[(List.mem_replicate.1 hr).2];exact h0
 ·rw[d]
  intro t ht
  have:=(g6 t ht).2
  unfold tV at this
  simp only[ajL,Bool.not_eq_false',aaG,decide_eq_true_eq] at this
  omega
structure FI (f:Fm):Prop where
 run:∀ x∈f.az,RI x.1/\∃ t,ju f.txs x.2=some t/\(aN t).1=x.1.ts
 nr:f.az.length<=64
 nn:f.nms.length<=16
 nt:f.txs.map (·.1)=f.nms
 tx:∀ x∈f.txs,uL x.1=true/\(aN x.2).2=0/\o8 (aN x.2).1=x.2
 nd:f.nms.Nodup
 nk:f.ks.length<=f.az.length
 kk:∀ x∈f.ks,1<=x.2/\x.2<=f.az.length/\(∃ y,f.az[(x.2-1).toNat]? = some y/\y.2=x.1.1)/\x.1.2≠[]/\x.1.2.length<=16
 kd:(f.ks.map (·.1)).Nodup
 ck:0<=f.ck/\f.ck<=1099511627776
theorem FI.ok {f:Fm}(h:FI f):Fok f:=⟨fun x hx=>⟨(h.run x hx).1.i0.ok,(h.run x hx).1.i0.bd,by have:=(h.run x hx).1.sg;omega⟩,h.nr,h.nn,by have:=h.nk;have:=h.nr;omega⟩
theorem fi0:FI rW:=⟨fun x hx=>(by cases hx),ac4 _,ac4 _,rfl,fun x hx=>(by cases hx),ake,ac4 _,fun x hx=>(by cases hx),ake,by show (0:Int)<=0;omega,by show (0:Int)<=_;omega⟩
theorem goodE_f {e:Ev}(h:uW e=true){c:Nat}(hc:c∈fieldsM e.kd):rE e c=true:=by
 unfold uW at h
 rw[aaG,aaG] at h
 exact adY.1 h.2.2 c hc
theorem getT_snoc {l:List (aq × aq)}{s t u:aq}(h:ju l s=some t)(x:aq × aq):ju (l++[x]) s=some t:=by
 unfold ju at h ⊢
 rw[aaa] at h
 obtain⟨y,h1,h2⟩:=h
 rw[List.find?_append,h1,Option.some_or,aek,h2]
theorem getT_mem {l:List (aq × aq)}{s t:aq}(h:ju l s=some t):(s,t)∈l:=by
 obtain⟨a,b,rfl,_⟩:=Z0 h
 simp
theorem define_fi {f:Fm}(h:FI f){s t:aq}(hs:uL s=true):FI (Dz f s t).1:=by
 unfold Dz
 cases hg:ju f.txs s with
 | some u=>rw[if_pos (show (some u).isSome=true from rfl)];exact h
 | none=>
  rw[if_neg (by simp)]
  by_cases hp:(aN t).2≠0
  ·rw[if_pos hp];exact h
  rw[if_neg hp]
  have hp:=ahN.1 hp
  by_cases bE:f.nms.length=16
  ·rw[if_pos bE];exact h
  rw[if_neg bE]
  obtain⟨_,_,_,_,_,_,kq⟩:=We hp
  have hno:=Ju hg
  refine⟨fun x hx => ?_,h.nr,by show (f.nms++[s]).length<=16;rw[aa0];have:=h.nn;simp;omega,by show (f.txs++[(s,o8 (aN t).1)]).map (·.1)=f.nms++[s];rw[ad8,h.nt];rfl,fun x hx => ?_,?_,h.nk,h.kk,h.kd,h.ck⟩
  ·obtain⟨a,u,b,c⟩:=h.run x hx
   exact⟨a,u,getT_snoc (u:=u) b _,c⟩
  ·rcases abV.1 hx with q | q
   ·exact h.tx x q
   ·rw[No] at q
    subst q
    exact⟨hs,by show (aN (o8 (aN t).1)).2=0;rw[kq],by show o8 (aN (o8 (aN t).1)).1=_;rw[kq]⟩
  ·show (f.nms++[s]).Nodup
   rw[aff]
   refine⟨h.nd,by simp,fun x hx y hy q => ?_⟩
   simp at hy
   subst hy;subst q
   rw[<-h.nt] at hx
   obtain⟨z,hz,rfl⟩:=adD.1 hx
   exact hno z hz rfl
theorem start_fi {f:Fm}(h:FI f){e:Ev}(hk:e.ky.length<=16):FI (startM f e).1:=by
 unfold startM
 split
 ·exact h
 ·rename_i t hg
  split
  ·exact h
  rename_i KU
  split
  ·exact h
  rename_i tR
  split
  ·exact h
  rename_i tQ
  have tQ:=ahN.1 tQ
  have hm:=getT_mem hg
  obtain⟨_,hp,_⟩:=h.tx _ hm
  obtain⟨a,b,c⟩:=new_ri hp
  rw[if_neg (by simp[c])]
  have KQ:∀ {i:Nat} {y:Rn × aq},f.az[i]? = some y->(f.az++[((bX (aN t).1).1,e.nm)])[i]? = some y:=fun {i y} q=>by
   rw[abD (aas.1 q).1];exact q
  have hkk':∀ x∈f.ks,1<=x.2/\x.2<=((f.az++[((bX (aN t).1).1,e.nm)]).length:Int)/\(∃ y,(f.az++[((bX (aN t).1).1,e.nm)])[(x.2-1).toNat]? = some y/\y.2=x.1.1)/\x.1.2≠[]/\x.1.2.length<=16:=by
   intro x hx
   obtain⟨q1,q2,⟨y,q3,q4⟩,q5⟩:=h.kk x hx
   refine⟨q1,by rw[aa0];simp;omega,⟨y,KQ q3,q4⟩,q5⟩
  have yv:(f.az++[((bX (aN t).1).1,e.nm)]).length<=64:=by rw[aa0];have:=h.nr;simp;omega
  refine⟨fun x hx => ?_,yv,h.nn,h.nt,h.tx,h.nd,?_,?_,?_,h.ck⟩
  ·rcases abV.1 hx with q | q
   ·exact h.run x q
   ·rw[No] at q
    subst q
    exact⟨a,t,hg,b.symm⟩
  ·show (if e.ky=[] then f.ks else f.ks++[((e.nm,e.ky),e.rn)]).length<=(f.az++[((bX (aN t).1).1,e.nm)]).length
   have:=h.nk
   split<;>simp<;>omega
  ·show ∀ x∈(if e.ky=[] then f.ks else f.ks++[((e.nm,e.ky),e.rn)]),_
   split
   ·exact hkk'
   ·rename_i aO
    intro x hx
    rcases abV.1 hx with q | q
    ·exact hkk' x q
    ·rw[No] at q
     subst q
     refine⟨by show 1<=e.rn;omega,by show e.rn<=_;rw[aa0];simp;omega,⟨((bX (aN t).1).1,e.nm),?_,rfl⟩,aO,hk⟩
     show (f.az++[((bX (aN t).1).1,e.nm)])[(e.rn-1).toNat]? = _
     rw[show (e.rn-1).toNat=f.az.length by omega,ab7 (aaH _),ahF];rfl
  ·show ((if e.ky=[] then f.ks else f.ks++[((e.nm,e.ky),e.rn)]).map (·.1)).Nodup
   split
   ·exact h.kd
   ·rename_i aO
    rw[ad8,aff]
    refine⟨h.kd,by simp,fun x hx y hy q => ?_⟩
    simp at hy
    subst hy;subst q
    obtain⟨z,hz,Bo⟩:=adD.1 hx
    cases hgk:iT f.ks (e.nm,e.ky) with
    | none=>exact Hr hgk z hz Bo
    | some id=>exact KU ⟨aO,by rw[hgk];rfl⟩
theorem tick_fi {f:Fm}(h:FI f){now:Int}(h0:0<=now)(h1:now<=1099511627776):FI (tickF f now).1:=by
 unfold tickF
 split
 ·exact h
 refine⟨fun x hx => ?_,by show (f.az.map (tkx now)).length<=64;rw[adV];exact h.nr,h.nn,h.nt,h.tx,h.nd,by show _<=(f.az.map (tkx now)).length;rw[adV];exact h.nk,fun x hx => ?_,h.kd,h0,h1⟩
 ·obtain⟨y,hy,rfl⟩:=adD.1 hx
  obtain⟨a,t,b,c⟩:=h.run y hy
  obtain⟨d,e⟩:=tickN_ri h0 h1 y.1.rs.length 0 y.1 a
  exact⟨d,t,b,c.trans e.symm⟩
 ·obtain⟨q1,q2,⟨y,q3,q4⟩,q5⟩:=h.kk x hx
  refine⟨q1,by show x.2<=((f.az.map (tkx now)).length:Int);rw[adV];exact q2,⟨tkx now y,?_,q4⟩,q5⟩
  show (f.az.map (tkx now))[(x.2-1).toNat]? = _
  rw[adX,q3];rfl
theorem op_ri {R:Rn}(h:RI R){e:Ev}{ck:Int}(h0:0<=ck)(h1:ck<=1099511627776)(hd:e.kd=4->e.dt.length<=64)(he:(opM R e ck).2=0):RI (opM R e ck).1/\(opM R e ck).1.ts=R.ts:=by
 unfold opM at he ⊢
 split
 ·rename_i q;rw[if_pos q] at he;exact lease_ri h _ _ _ h0 h1 he
 ·rename_i q3
  rw[if_neg q3] at he
  split
  ·rename_i q;rw[if_pos q] at he;exact done_ri h _ _ _ (hd q) he
  ·rename_i q4
   rw[if_neg q4] at he
   split
   ·rename_i q;rw[if_pos q] at he;exact fail_ri h _ _ _ h0 h1 he
   ·rename_i q5
    rw[if_neg q5] at he
    split
    ·rename_i q;rw[if_pos q] at he;exact signal_ri h _ he
    ·rename_i q7
     rw[if_neg q7] at he
     exact cancel_ri h he
theorem change_fi {f:Fm}(h:FI f){e:Ev}(hd:e.kd=4->e.dt.length<=64):FI (changeM f e).1:=by
 unfold changeM
 split
 ·exact h
 ·rename_i x hx
  split
  ·rename_i he
   have hm:=aaF hx
   have bu:=(aas.1 hx).1
   obtain⟨a,t,b,c⟩:=h.run x hm
   obtain⟨d,g⟩:=op_ri a h.ck.1 h.ck.2 hd he
   refine⟨fun y hy => ?_,by show (f.az.set _ _).length<=64;rw[adM];exact h.nr,h.nn,h.nt,h.tx,h.nd,by show _<=(f.az.set _ _).length;rw[adM];exact h.nk,fun y hy => ?_,h.kd,h.ck⟩
   ·rcases agY hy with q | rfl
    ·exact h.run y q
    ·exact⟨d,t,b,c.trans g.symm⟩
   ·obtain⟨q1,q2,⟨z,q3,q4⟩,q5⟩:=h.kk y hy
    refine⟨q1,by show y.2<=((f.az.set _ _).length:Int);rw[adM];exact q2,?_,q5⟩
    show ∃ w,(f.az.set (e.rn-1).toNat ((opM x.1 e f.ck).1,x.2))[(y.2-1).toNat]? = some w/\w.2=y.1.1
    rw[agu]
    by_cases hq:(e.rn-1).toNat=(y.2-1).toNat
    ·rw[if_pos hq,if_pos bu]
     refine⟨_,rfl,?_⟩
     rw[<-hq] at q3
     have:=adw (hx.symm.trans q3)
     rw[this];exact q4
    ·rw[if_neg hq];exact⟨z,q3,q4⟩
  ·exact h
theorem apply_fi {f:Fm}(h:FI f)(e:Ev):FI (applyM f e).1:=by
 unfold applyM
 by_cases hg:uW e=true
 ·rw[if_pos hg]
  split
  ·rename_i hk
   have:=goodE_f hg (c:=77) (by rw[hk];simp[fieldsM])
   unfold rE at this
   simp at this
   exact define_fi h this
  split
  ·rename_i tu hk
   have:=goodE_f hg (c:=75) (by rw[hk];simp[fieldsM])
   unfold rE at this
   simp at this
   exact start_fi h this
  split
  ·rename_i tu fR hk
   have:=goodE_f hg (c:=78) (by rw[hk];simp[fieldsM])
   unfold rE vD at this
   rw[if_neg (by decide),if_neg (by decide),if_neg (by decide),if_pos rfl,if_neg (by omega)] at this
   simp at this
   exact tick_fi h (by omega) this.2
  split
  ·exact h
  split
  ·exact h
  ·refine change_fi h fun hk => ?_
   have:=goodE_f hg (c:=68) (by rw[hk];simp[fieldsM])
   unfold rE at this
   rw[if_neg (by decide),if_neg (by decide),if_neg (by decide),if_neg (by decide),if_neg (by decide),if_neg (by decide),if_neg (by omega)] at this
   simpa using this
 ·rw[if_neg hg];exact h
theorem FI.sz {f:Fm}(h:FI f):SzF f:=
 ⟨by have:=h.nn;omega,by have:=h.nr;omega,by have:=h.nk;have:=h.nr;omega,fun x hx=>by
  obtain⟨hr,_⟩:=h.run x hx
  have hs:=hr.i0.ok.sm
  exact⟨by have:=hs.r;omega,by have:=hs.s;omega,by have:=hs.n;omega,fun t ht=>by have:=hs.a t ht;omega⟩⟩
noncomputable def allM:Fm->List Ev->Fm
 | f,[]=>f
 | f,e::r=>allM (applyM f e).1 r
theorem all_fi:∀ {l:List Ev} {f:Fm},FI f->FI (allM f l)
 | [],f,h=>h
 | e::r,f,h=>all_fi (l:=r) (apply_fi h e)
theorem st_ev (e:Ev)(H:Hp):st 8 (.ptr H.next 0) (.agg (aG e)) (al H zE 26 0)=some (al H (aG e) 26 0):=iV rfl rfl rfl (by decide) rfl
theorem evs_get {l:List Ev}{i:Nat}{e:Ev}(h:l[i]? = some e):(evs l)[i]? = some (aG e):=by unfold evs;rw[adX,h];rfl
theorem evs_len {H:Hp}{x:AV}{l:List Ev}(h:RL H 8 x (evs l)):bq x=some (.int .i64 (l.length:Nat)):=by
 have:=h.len (by decide);unfold evs at this;rwa[adV] at this
theorem all_loop {p:Nat}{x:AV}{l:List Ev}(hl:l.length<=1000):∀ (r:List Ev) (i:Nat) (H:Hp) (a:FA) (f:Fm),i<=l.length->l.drop i=r->RL H 8 x (evs l)->(∀ j∈ak x,j∉own p a)->FL H p a f->FI f->Gl H->
  ∃ a' H',(∀ j4:K.Fn 1,EG JN GO cK j4 (.ptr p 0) x (.int .i64 (l.length:Nat)) (.int .i64 (i:Nat)) H=j4 (.ptr p 0) H')/\FL H' p a' (allM f r)/\FSt H H' p a a'
 | [],i,H,a,f,hi,h,hx,hd,hF,hI,hg=>by
  obtain rfl:=drop_nil hi h
  refine⟨a,H,fun j4 => ?_,hF,FSt.same (Out.refl _ _) p a⟩
  rw[ZL]
  simp only[bl_flow_All,fZ,aj,ai,simprocAttr]
 | e::r,i,H,a,f,hi,h,hx,hd,hF,hI,hg=>by
  obtain⟨h1,h2,h3⟩:=gy h
  have es:=gq h1 (by omega)
  obtain⟨b,o,q1,q2,q3,q4,q5⟩:=hx.at (by decide) (evs_get h2)
  have hz:=st_ev e H
  have o1:=aJ H (aG e) 26 0
  have c1:=bo H (aG e) 26 0
  generalize dq:al H (aG e) 26 0=H1 at *
  have ek:av H1 H.next 0 8=some (aG e):=c1.av 8 0 (by rw[nf];omega)
  obtain⟨a',H2,u1,u2,u3⟩:=apply_c (hF.out0 o1) (hg.out0 o1) hI.ok e
  have dH:=hx.1.lt
  obtain⟨a2,H',i1,i2,i3⟩:=all_loop hl r (i+1) H2 a' (applyM f e).1 h1 h3 ((hx.out0 o1).out u3.o fun j hj z=>hd j hj z) (fun j hj z=>(u3.w j z).elim (hd j hj) fun z=>by have:=dH j hj;have:=o1.1;omega) u2 (apply_fi hI e) ((hg.out0 o1).out u3.o hF.lo)
  refine⟨a2,H',fun j4 => ?_,i2,((FSt.same o1 p a).trans u3).trans i3⟩
  rw[ZL]
  simp(disch:=first|exact zqz|fail)only[bl_flow_All,bH h1,q1,q4,hz,dq,ek,u1,es,i1,ar,au,aj,ai,simprocAttr]
theorem all_c {x:AV}{l:List Ev}{H:Hp}(hl:l.length<=1000)(hg:Gl H)(kP:11<=H.next)(hx:RL H 8 x (evs l)) :
  ∃ p a H',cK (.func (.func 13) [] []) [x] H=some (.ptr p 0,H')/\FL H' p a (allM rW l)/\Out [] H H'/\(∀ j∈own p a,H.next<=j)/\∀ j∈DfK.dB a,H.next<=j:=by
 obtain⟨p,a,H1,n1,n2,n3,n4,n5⟩:=Mv kP
 have dH:=hx.1.lt
 have nu:=evs_len hx
 obtain⟨a',H',i1,i2,i3⟩:=all_loop hl l 0 H1 a rW (ac4 _) ada (hx.out0 n3) (fun j hj z=>by have:=dH j hj;have:=n4 j z;omega) n2 fi0 (hg.out0 n3)
 rw[show (((0:Nat):Int))=0 from rfl] at i1
 have l1:=n3.1
 refine⟨p,a',H',aiD ?_,i2,n3.then i3.o fun j hj => .inr (n4 j hj),fun j hj=>(i3.w j hj).elim (n4 j) fun z=>by omega,fun j hj=>(i3.i j hj).elim (fun z=>by unfold DfK.dB at z;rw[n5] at z;cases z) fun z=>by omega⟩
 unfold VJ
 simp(disch:=first|exact zqz|fail)only[n1,nu,i1,ar,au,aj,ai,simprocAttr]
theorem zw_at {ts:List Tk}{xs:List AV}{i:Nat}{t:Tk}{x:AV}(ht:ts[i]? = some t)(hx:xs[i]? = some x):(List.zipWith aK ts xs)[i]? = some (aK t x):=by rw[aeh,ht,hx]
theorem RD.retry {H:Hp}{dx:AV}{xs:List AV}{ts:List Tk}(h:RD H dx xs ts){i:Nat}{t:Tk}(ht:ts[i]? = some t):∃ b o,(∀ k,ia 6 dx (.int k i)=some (.ptr b o))/\cellAt H b (o+2)=some (.int .i64 t.retry):=by
 have hi:=(aas.1 ht).1
 have hx:xs[i]? = some (xs[i]'(by rw[h.len];exact hi)):=aau _
 obtain⟨b,o,q1,q2,q3,q4,q5⟩:=h.row.at (by decide) (zw_at ht hx)
 exact⟨b,o,q1,q5 2 _ rfl⟩
structure SS where
 ck:Int
 nms:List aq
 txs:List aq
 rs:List Rn
 ofs:List aq
 ks:List Ke
structure SA where
 nx:AV
 tx:AV
 rx:AV
 ox:AV
 kx:AV
 ras:List RA
def runC (r:RA)(R:Rn):List AV:=rv r.dx R.st r.tx r.sx
structure SV (N:Nat)(H:Hp)(a:SA)(S:SS):Prop where
 n:Rw H 1 a.nx (strs S.nms)
 t:Rw H 1 a.tx (strs S.txs)
 r:RL H 4 a.rx (List.zipWith runC a.ras S.rs)
 v:∀ (i:Nat) (r:RA) (R:Rn),a.ras[i]? = some r->S.rs[i]? = some R->RV H r.dx r.xs r.tx r.sx R
 len:a.ras.length=S.rs.length
 o:Rw H 1 a.ox (strs S.ofs)
 k:RL H 3 a.kx (S.ks.map lT)
 b:∀ j,(j∈ak a.nx\/j∈ak a.tx\/j∈ak a.rx\/j∈ak a.ox\/j∈ak a.kx\/j∈a.ras.flatMap RA.fp)->j<N
theorem SV.out {N:Nat}{H H':Hp}{a:SA}{S:SS}{T:List Nat}(h:SV N H a S)(k:Out T H H')(hs:∀ j∈T,N<=j):SV N H' a S:=by
 have q:∀ j,j<N->j∉T:=fun j hj hm=>by have:=hs j hm;omega
 exact⟨h.n.out k fun j hj=>q j (h.b j (.inl hj)),h.t.out k fun j hj=>q j (h.b j (.inr (.inl hj))),h.r.out k fun j hj=>q j (h.b j (.inr (.inr (.inl hj)))),
  fun i r R hr hR=>(h.v i r R hr hR).out k fun j hj=>q j (h.b j (.inr (.inr (.inr (.inr (.inr (ahu.2 ⟨r,aaF hr,hj⟩))))))),h.len,h.o.out k fun j hj=>q j (h.b j (.inr (.inr (.inr (.inl hj))))),h.k.out k fun j hj=>q j (h.b j (.inr (.inr (.inr (.inr (.inl hj)))))),h.b⟩
theorem SV.out0 {N:Nat}{H H':Hp}{a:SA}{S:SS}(h:SV N H a S)(k:Out [] H H'):SV N H' a S:=h.out k fun _ q=>by cases q
theorem same_st (s:aq):same (.str s) (.str s)=true:=by simp[same,n0]
theorem cloneU_c {H:Hp}{dx tx sx:AV}{xs:List AV}{R:Rn}(h:RV H dx xs tx sx R)(hs:Sm R) :
  ∃ aw bh ay aB H',cK (.func (.func 58) [] []) [.agg (rv dx R.st tx sx)] H=some (.agg (rv aw R.st ay aB),H')/\RO H' aw bh ay aB R/\Out [] H H'/\∀ j∈mG aw bh ay aB,H.next<=j:=by
 have aW:bx 75 (.agg (rv dx R.st tx sx)) H=some (H.next,al H (rv dx R.st tx sx) 75 0):=iW (by simp)
 have o1:=aJ H (rv dx R.st tx sx) 75 0
 have c1:=bo H (rv dx R.st tx sx) 75 0
 have n1:(al H (rv dx R.st tx sx) 75 0).next=H.next+1:=rfl
 generalize al H (rv dx R.st tx sx) 75 0=H1 at *
 have o2:=aJ H1 zR 75 0
 have c2:=bo H1 zR 75 0
 have n2:(al H1 zR 75 0).next=H.next+2:=by rw[bI,n1]
 rw[n1] at c2
 generalize dh:al H1 zR 75 0=H2 at *
 have dW:=o1.trans o2
 have k4:av H2 H.next 0 4=some (rv dx R.st tx sx):=(c1.out o2 (by simp)).av 4 0 (by simp)
 obtain⟨aw,bh,ay,aB,H3,r1,r2,r3,r4⟩:=yn (h.out0 dW) hs
 obtain⟨H4,s1,s2,s3,s4⟩:=fN (n:=4) (vs:=rv aw R.st ay aB) (c2.out r3 (by simp)) rfl rfl (by simp[r2.v.d.row.one,r2.t.rl.one,r2.s.jO,kA])
 have k5:av H4 (H.next+1) 0 4=some (rv aw R.st ay aB):=s2.av 4 0 (by simp)
 refine⟨aw,bh,ay,aB,H4,anj ?_,r2.out s3 fun j hj=>by rw[No];have:=r4 j hj;omega,gF (dW.trans r3) s3 (kf (afu _)),fun j hj=>by have:=r4 j hj;omega⟩
 unfold W8
 simp(disch:=first|exact zqz|fail)only[aW,n1,dh,k4,r1,s1,k5,ar,au,aj,ai,simprocAttr]
theorem st_zr {R:Rn}{dx tx sx:AV}(hv:(rv dx R.st tx sx).all ba=true)(H:Hp):st 4 (.ptr H.next 0) (.agg (rv dx R.st tx sx)) (al H zR 75 0)=some (al H (rv dx R.st tx sx) 75 0):=iV hv rfl rfl (by decide) rfl
theorem RV.ones {H:Hp}{dx tx sx:AV}{xs:List AV}{R:Rn}(h:RV H dx xs tx sx R):(rv dx R.st tx sx).all ba=true:=by simp[h.d.row.one,h.t.one,h.s.one,kA]
theorem run_out {H:Hp}{p:Nat}{a:FA}{f:Fm}(h:FL H p a f)(id:Int)(hid:id<1\/(f.az.length:Int)<id) :
  ∃ H',cK (.func (.func 46) [] []) [.ptr p 0,.int .i64 id] H=some (.tuple [.agg zR,.str [],.bool false],H')/\Out [] H H':=by
 have o1:=aJ H zR 75 0
 have hz:st 4 (.ptr H.next 0) (.agg zR) (al H zR 75 0)=some (al H zR 75 0):=iV rfl rfl rfl (by decide) rfl
 have c1:=bo H zR 75 0
 have ek:av (al H zR 75 0) H.next 0 4=some zR:=c1.av 4 0 (by simp)
 have k3:cellAt (al H zR 75 0) p 3=some a.rx:=(h.out0 o1).c.cellAt rfl
 have ff:=h.Ac
 refine⟨_,SJ ?_,o1⟩
 unfold IE
 by_cases h1:id<1
 ·have d1:decide (id<1)=true:=decide_eq_true h1
  simp(disch:=first|exact zqz|fail)only[d1,hz,ek,ar,au,aj,ai,simprocAttr]
 ·have d1:decide (id<1)=false:=decide_eq_false h1
  have d2:decide (((f.az.length:Nat):Int)<id)=true:=decide_eq_true (by omega)
  simp(disch:=first|exact zqz|fail)only[d1,d2,k3,ff,hz,ek,ar,au,aj,ai,simprocAttr]
theorem run_cf {H:Hp}{p:Nat}{a:FA}{f:Fm}(h:FL H p a f)(hr:f.az.length<=1000)(mJ:∀ x∈f.az,Sm x.1){i:Nat}{x:Rn × aq}(hx:f.az[i]? = some x) :
  ∃ dx xs tx sx H',cK (.func (.func 46) [] []) [.ptr p 0,.int .i64 ((i:Nat)+1)] H=some (.tuple [.agg (rv dx x.1.st tx sx),.str x.2,.bool true],H')/\RV H' dx xs tx sx x.1/\Out [] H H'/\∀ j∈mG dx xs tx sx,H.next<=j:=by
 have bu:=(aas.1 hx).1
 have d1:decide (((i:Nat):Int)+1<1)=false:=decide_eq_false (by omega)
 have d2:decide (((f.az.length:Nat):Int)<((i:Nat):Int)+1)=false:=decide_eq_false (by omega)
 have w1:IntKind.wrap .i64 (((i:Nat):Int)+1-1)=((i:Nat):Int):=by rw[wrap_i64 (by omega) (by omega)];omega
 have o1:=aJ H zR 75 0
 have c1:=bo H zR 75 0
 have n1:(al H zR 75 0).next=H.next+1:=rfl
 generalize dq:al H zR 75 0=H1 at *
 have h1:=h.out0 o1
 have k3:cellAt H1 p 3=some a.rx:=h1.c.cellAt rfl
 have ff:=h.Ac
 obtain⟨ra,b,o,q1,q2,q3,q4,q5,q6,q7⟩:=h1.at hx
 have s1:=st_row (h1.one q1 hx) H1
 have o2:=aJ H1 (dI ra x) 77 0
 have c2:=bo H1 (dI ra x) 77 0
 have n2:(al H1 (dI ra x) 77 0).next=H1.next+1:=rfl
 generalize dh:al H1 (dI ra x) 77 0=H2 at *
 have e4:av H2 H1.next 0 4=some (rv ra.dx x.1.st ra.tx ra.sx):=c2.av 4 0 (by simp[dI])
 obtain⟨dx,xs,tx,sx,H3,r1,r2,r3,r4⟩:=cloneU_c (q7.out0 o2) (mJ x (aaF hx))
 have en:cellAt H3 H1.next 4=some (.str x.2):=(c2.out r3 (by simp)).cellAt rfl
 have en2:cellAt H2 H1.next 4=some (.str x.2):=c2.cellAt rfl
 have c1':=(c1.out o2 (by simp)).out r3 (by simp)
 obtain⟨H4,t1,t2,t3,t4⟩:=fN (n:=4) (vs:=rv dx x.1.st tx sx) c1' rfl rfl r2.v.ones
 have en4:cellAt H4 H1.next 4=some (.str x.2):=((c2.out r3 (by simp)).out t3 (by simp;omega)).cellAt rfl
 have ek:av H4 H.next 0 4=some (rv dx x.1.st tx sx):=t2.av 4 0 (by simp)
 have hv4:=r2.v.out t3 fun j hj q=>by rw[No] at q;have:=r4 j hj;have:=o1.1;have:=o2.1;omega
 refine⟨dx,xs,tx,sx,H4,SJ ?_,hv4,((o1.trans o2).trans r3).then t3 fun j hj => .inr (by rw[No] at hj;omega),fun j hj=>by have:=r4 j hj;have:=o1.1;have:=o2.1;omega⟩
 unfold IE
 simp(disch:=first|exact zqz|fail)only[dq,d1,d2,k3,ff,w1,q2,q6,s1,dh,e4,r1,en,en2,t1,en4,lK (same_st x.2),ek,ar,au,aj,ai,simprocAttr]
theorem run_c {H:Hp}{p:Nat}{a:FA}{f:Fm}(h:FL H p a f)(hr:f.az.length<=1000)(mJ:∀ x∈f.az,Sm x.1){i:Nat}{x:Rn × aq}(hx:f.az[i]? = some x) :
  ∃ dx xs tx sx H',cK (.func (.func 46) [] []) [.ptr p 0,.int .i64 ((i:Nat)+1)] H=some (.tuple [.agg (rv dx x.1.st tx sx),.str x.2,.bool true],H')/\RV H' dx xs tx sx x.1/\Out [] H H':=by
 obtain⟨dx,xs,tx,sx,H',h1,h2,h3,_⟩:=run_cf h hr mJ hx
 exact⟨dx,xs,tx,sx,H',h1,h2,h3⟩
theorem st_rt1 (t:RT)(H:Hp):st 4 (.ptr H.next 0) (.agg (eG t)) (al H [(.int .i64 0),(.int .i64 0),(.int .i64 0),(.str [])] 132 0)=some (al H (eG t) 132 0):=iV rfl rfl rfl (by decide) rfl
theorem first1_loop {R:Rn}{b i:Nat}{tx rx ln ii:AV}(hi:i<1000)(hn:R.rs.length<=1000):∀ (r:List RT) (k:Nat) (H:Hp),k<=R.rs.length->R.rs.drop k=r->RL H 4 tx (gz R.rs)->cellAt H b 1=some (.int .i64 R.st)->b<H.next->
  (∃ k' t H',R.rs[k']? = some t/\(∀ (aD:K.Fn 0) (fH js:K.Fn 3),BT JN GO cK aD fH js (.int .i64 (i:Nat)) (.ptr b 0) rx ln ii tx (.int .i64 (R.rs.length:Nat)) (.int .i64 (k:Nat)) H=some (.tuple [.int .i64 ((i:Nat)+1),.int .i64 (k':Nat),.int .i64 (fC (t.tr+1)),.bool true],H'))/\Out [] H H')\/
  ∃ H',(∀ (aD:K.Fn 0) (fH js:K.Fn 3),BT JN GO cK aD fH js (.int .i64 (i:Nat)) (.ptr b 0) rx ln ii tx (.int .i64 (R.rs.length:Nat)) (.int .i64 (k:Nat)) H=js rx ln ii H')/\Out [] H H'
 | [],k,H,hk,h,hx,hb,gj=>by
  obtain rfl:=drop_nil hk h
  refine .inr ⟨H,fun aD fH js => ?_,Out.refl _ _⟩
  rw[Bk]
  simp only[bl_flow_Flow_First1,fZ,aj,ai,simprocAttr]
 | t::r,k,H,hk,h,hx,hb,gj=>by
  obtain⟨h1,h2,h3⟩:=gy h
  have es:=gq h1 (by omega)
  have ei:IntKind.wrap .i64 (((i:Nat):Int)+1)=((i:Nat):Int)+1:=by rw[wrap_i64 (by omega) (by omega)]
  have et:IntKind.wrap .i64 (t.tr+1)=fC (t.tr+1):=rfl
  obtain⟨m,o,q1,q2,q3,q4,q5⟩:=hx.at (by decide) (qw h2)
  have hz:=st_rt1 t H
  have o1:=aJ H (eG t) 132 0
  have c1:=bo H (eG t) 132 0
  have n1:(al H (eG t) 132 0).next=H.next+1:=rfl
  generalize dq:al H (eG t) 132 0=H1 at *
  have e0:cellAt H1 H.next 0=some (.int .i64 t.ph):=c1.cellAt rfl
  have e1:cellAt H1 H.next 1=some (.int .i64 t.tr):=c1.cellAt rfl
  have uQ:cellAt H1 b 1=some (.int .i64 R.st):=by
   unfold cellAt at hb ⊢
   rw[o1.2 b gj (by simp)];exact hb
  rcases first1_loop (tx:=tx) (rx:=rx) (ln:=ln) (ii:=ii) hi hn r (k+1) H1 h1 h3 (hx.out0 o1) uQ (by omega) with⟨k',t',H',g1,g2,g3⟩ | ⟨H',g2,g3⟩
  ·cases d1:(R.st==0) with
   | true=>
    cases d2:(t.ph==1) with
    | true=>
     refine .inl ⟨k,t,H1,h2,fun aD fH js => ?_,o1⟩
     rw[Bk]
     simp(disch:=first|exact zqz|fail)only[bl_flow_Flow_First1,bH h1,q1,q4,hz,dq,e0,e1,uQ,d1,d2,ei,et,ar,au,aj,ai,simprocAttr]
    | false=>
     refine .inl ⟨k',t',H',g1,fun aD fH js => ?_,o1.trans g3⟩
     rw[Bk]
     simp(disch:=first|exact zqz|fail)only[bl_flow_Flow_First1,bH h1,q1,q4,hz,dq,e0,e1,uQ,d1,d2,es,g2,ar,au,aj,ai,simprocAttr]
   | false=>
    refine .inl ⟨k',t',H',g1,fun aD fH js => ?_,o1.trans g3⟩
    rw[Bk]
    simp(disch:=first|exact zqz|fail)only[bl_flow_Flow_First1,bH h1,q1,q4,hz,dq,e0,e1,uQ,d1,es,g2,ar,au,aj,ai,simprocAttr]
  ·cases d1:(R.st==0) with
   | true=>
    cases d2:(t.ph==1) with
    | true=>
     refine .inl ⟨k,t,H1,h2,fun aD fH js => ?_,o1⟩
     rw[Bk]
     simp(disch:=first|exact zqz|fail)only[bl_flow_Flow_First1,bH h1,q1,q4,hz,dq,e0,e1,uQ,d1,d2,ei,et,ar,au,aj,ai,simprocAttr]
    | false=>
     refine .inr ⟨H',fun aD fH js => ?_,o1.trans g3⟩
     rw[Bk]
     simp(disch:=first|exact zqz|fail)only[bl_flow_Flow_First1,bH h1,q1,q4,hz,dq,e0,e1,uQ,d1,d2,es,g2,ar,au,aj,ai,simprocAttr]
   | false=>
    refine .inr ⟨H',fun aD fH js => ?_,o1.trans g3⟩
    rw[Bk]
    simp(disch:=first|exact zqz|fail)only[bl_flow_Flow_First1,bH h1,q1,q4,hz,dq,e0,e1,uQ,d1,es,g2,ar,au,aj,ai,simprocAttr]
theorem first_loop {p:Nat}{a:FA}{f:Fm}(hn:f.az.length<=900)(mJ:∀ x∈f.az,Sm x.1):∀ (r:List (Rn × aq)) (i:Nat) (H:Hp),i<=f.az.length->f.az.drop i=r->FL H p a f->
  (∃ i' x k t H',f.az[i']? = some x/\x.1.rs[k]? = some t/\(∀ aD:K.Fn 0,Dv JN GO cK aD a.rx (.int .i64 (f.az.length:Nat)) (.int .i64 (i:Nat)) H=some (.tuple [.int .i64 ((i':Nat)+1),.int .i64 (k:Nat),.int .i64 (fC (t.tr+1)),.bool true],H'))/\Out [] H H')\/
  ∃ H',(∀ aD:K.Fn 0,Dv JN GO cK aD a.rx (.int .i64 (f.az.length:Nat)) (.int .i64 (i:Nat)) H=aD H')/\Out [] H H'
 | [],i,H,hi,h,hF=>by
  obtain rfl:=drop_nil hi h
  refine .inr ⟨H,fun aD => ?_,Out.refl _ _⟩
  rw[KH]
  simp only[bl_flow_Flow_First,fZ,aj,ai,simprocAttr]
 | x::r,i,H,hi,h,hF=>by
  obtain⟨h1,h2,h3⟩:=gy h
  have es:=gq h1 (by omega)
  obtain⟨ra,m,o,q1,q2,q3,q4,q5,q6,q7⟩:=hF.at h2
  have s1:=st_row (hF.one q1 h2) H
  have o1:=aJ H (dI ra x) 77 0
  have c1:=bo H (dI ra x) 77 0
  have n1:(al H (dI ra x) 77 0).next=H.next+1:=rfl
  generalize dq:al H (dI ra x) 77 0=H1 at *
  have e2:cellAt H1 H.next 2=some ra.tx:=c1.cellAt rfl
  have e1:cellAt H1 H.next 1=some (.int .i64 x.1.st):=c1.cellAt rfl
  have hs:=mJ x (aaF h2)
  have aI:=(q7.t.out0 o1).len (by decide)
  rw[yG] at aI
  rcases first1_loop (R:=x.1) (b:=H.next) (i:=i) (tx:=ra.tx) (rx:=a.rx) (ln := .int .i64 (f.az.length:Nat)) (ii := .int .i64 (i:Nat)) (by omega) hs.r x.1.rs 0 H1 (ac4 _) ada (q7.t.out0 o1) e1 (by omega) with⟨k',t',H',g1,g2,g3⟩ | ⟨H2,g2,g3⟩
  ·rw[show (((0:Nat):Int))=0 from rfl] at g2
   refine .inl ⟨i,x,k',t',H',h2,g1,fun aD => ?_,o1.trans g3⟩
   rw[KH]
   simp(disch:=first|exact zqz|fail)only[bl_flow_Flow_First,bH h1,q2,q6,s1,dq,e2,aI,g2,ar,au,aj,ai,simprocAttr]
  ·rw[show (((0:Nat):Int))=0 from rfl] at g2
   have dW:=o1.trans g3
   rcases first_loop hn mJ r (i+1) H2 h1 h3 (hF.out0 dW) with⟨i',x',k',t',H',y1,y2,y3,y4⟩ | ⟨H',y3,y4⟩
   ·refine .inl ⟨i',x',k',t',H',y1,y2,fun aD => ?_,dW.trans y4⟩
    rw[KH]
    simp(disch:=first|exact zqz|fail)only[bl_flow_Flow_First,bH h1,q2,q6,s1,dq,e2,aI,g2,es,y3,ar,au,aj,ai,simprocAttr]
   ·refine .inr ⟨H',fun aD => ?_,dW.trans y4⟩
    rw[KH]
    simp(disch:=first|exact zqz|fail)only[bl_flow_Flow_First,bH h1,q2,q6,s1,dq,e2,aI,g2,es,y3,ar,au,aj,ai,simprocAttr]
theorem first_c {H:Hp}{p:Nat}{a:FA}{f:Fm}(h:FL H p a f)(hn:f.az.length<=900)(mJ:∀ x∈f.az,Sm x.1) :
  (∃ i x k t H',f.az[i]? = some x/\x.1.rs[k]? = some t/\cK (.func (.func 28) [] []) [.ptr p 0] H=some (.tuple [.int .i64 ((i:Nat)+1),.int .i64 (k:Nat),.int .i64 (fC (t.tr+1)),.bool true],H')/\Out [] H H')\/
  ∃ H',cK (.func (.func 28) [] []) [.ptr p 0] H=some (.tuple [.int .i64 0,.int .i64 0,.int .i64 0,.bool false],H')/\Out [] H H':=by
 have k3:cellAt H p 3=some a.rx:=h.c.cellAt rfl
 have ff:=h.Ac
 rcases first_loop hn mJ f.az 0 H (ac4 _) ada h with⟨i',x',k',t',H',y1,y2,y3,y4⟩ | ⟨H',y3,y4⟩
 ·rw[show (((0:Nat):Int))=0 from rfl] at y3
  refine .inl ⟨i',x',k',t',H',y1,y2,Sy ?_,y4⟩
  unfold P9
  simp(disch:=first|exact zqz|fail)only[k3,ff,y3,ar,au,aj,ai,simprocAttr]
 ·rw[show (((0:Nat):Int))=0 from rfl] at y3
  refine .inr ⟨H',Sy ?_,y4⟩
  unfold P9
  simp(disch:=first|exact zqz|fail)only[k3,ff,y3,ar,au,aj,ai,simprocAttr]
def shortS (s:aq):Prop:=s.length<=40/\∀ b∈s,b<256
theorem dec_short {n:Int}(h0:0<=n)(h1:n<=1000):(dec n).length<=4/\∀ b∈dec n,b<256:=by
 obtain⟨_,a,b⟩:=zA h0 h1
 exact⟨a,fun c hc=>by have:=b c hc;omega⟩
theorem fl_2 (a b:aq):fl [(.str []),(.str [])] [(0,1,.str a),(1,1,.str b)]=some [.str a,.str b]:=rfl
theorem fl_1 (a:aq):fl [(.str [])] [(0,1,.str a)]=some [.str a]:=rfl
theorem ashow_loop {rs:List RT}{tx:AV}{N:Nat}(hn:rs.length<=100)(hrs:∀ r∈rs,0<=r.ph/\r.ph<=5/\0<=r.tr/\r.tr<=9)(aI:∀ j∈ak tx,j<N):∀ (r:List RT) (k:Nat) (H:Hp) (x:AV) (L:List aq),k<=rs.length->rs.drop k=r->RL H 4 tx (gz rs)->Ow H 9 1 x (strs L)->(∀ j∈ak x,N<=j)->N<=H.next->L.length<=2+k->(∀ s∈L,shortS s)->Gl H->11<=N->
  ∃ x' L' H',(∀ jw:K.Fn 1,HO JN GO cK jw x tx (.int .i64 (rs.length:Nat)) (.int .i64 (k:Nat)) H=jw x' H')/\Ow H' 9 1 x' (strs L')/\L'.length<=102/\(∀ s∈L',shortS s)/\Out (ak x) H H'
 | [],k,H,x,L,hk,h,ht,hx,hd,hN,hL,hs,hg,gY=>by
  obtain rfl:=drop_nil hk h
  refine⟨x,L,H,fun jw => ?_,hx,by omega,hs,Out.refl _ _⟩
  rw[Yv]
  simp only[bl_admit_Show,fZ,aj,ai,simprocAttr]
 | t::r,k,H,x,L,hk,h,ht,hx,hd,hN,hL,hs,hg,gY=>by
  obtain⟨h1,h2,h3⟩:=gy h
  have es:=gq h1 (by omega)
  obtain⟨m,o,q1,q2,q3,q4,q5⟩:=ht.at (by decide) (qw h2)
  have hz:=st_rt1 t H
  have o1:=aJ H (eG t) 132 0
  have c1:=bo H (eG t) 132 0
  have n1:(al H (eG t) 132 0).next=H.next+1:=rfl
  generalize dq:al H (eG t) 132 0=H1 at *
  have e0:cellAt H1 H.next 0=some (.int .i64 t.ph):=c1.cellAt rfl
  obtain⟨b1,b2,b3,b4⟩:=hrs t (aaF h2)
  obtain⟨H2,i1,i2⟩:=HZ (n:=t.ph) (by omega) (by omega) (hg.out0 o1)
  have e1:cellAt H2 H.next 1=some (.int .i64 t.tr):=(c1.out i2 (by simp)).cellAt rfl
  have e1':cellAt H1 H.next 1=some (.int .i64 t.tr):=c1.cellAt rfl
  obtain⟨H3,j1,j2⟩:=HZ (n:=t.tr) (by omega) (by omega) ((hg.out0 o1).out0 i2)
  obtain⟨d1,d2⟩:=dec_short (n:=t.ph) b1 (by omega)
  obtain⟨d3,d4⟩:=dec_short (n:=t.tr) b3 (by omega)
  have s1:=tG (a:=dec t.ph) (b:=[46]) (by simp;omega)
  have s2:=tG (a:=dec t.ph++[46]) (b:=dec t.tr) (by simp;omega)
  have o123:=(o1.trans i2).trans j2
  obtain⟨x',H5,p1,p2,p3,p4,p5⟩:=uf (fJ:=9) (z:=[(.str [])]) (vs:=[.str (dec t.ph++[46]++dec t.tr)]) (hx.out o123 fun j hj=>by simp) rfl rfl (by decide) (by rw[ji];simp;omega)
  have oz:shortS (dec t.ph++[46]++dec t.tr):=⟨by simp;omega,fun b hb=>by
   rcases abV.1 hb with hb | hb
   ·rcases abV.1 hb with hb | hb
    ·exact d2 b hb
    ·rw[No] at hb;omega
   ·exact d4 b hb⟩
  have Mk:=(ht.out0 o123).out p3 fun j hj z=>by have:=aI j hj;have:=hd j z;omega
  have wH:=o123.1
  have hg3:=((hg.out0 o1).out0 i2).out0 j2
  have zg:∀ j∈ak x',N<=j:=fun j hj=>(p4 j hj).elim (hd j) fun z=>by omega
  have hx5:Ow H5 9 1 x' (strs (L++[dec t.ph++[46]++dec t.tr])):=by rw[EJ];exact p2
  obtain⟨x2,L2,H6,y1,y2,y3,y4,y5⟩:=ashow_loop hn hrs aI r (k+1) H5 x' (L++[dec t.ph++[46]++dec t.tr]) h1 h3 Mk hx5 zg (by have:=p3.1;omega) (by simp;omega) (fun s ry=>(abV.1 ry).elim (hs s) fun z=>by rw[No] at z;rw[z];exact oz) (hg3.out p3 fun j hj=>by have:=hd j hj;omega) gY
  refine⟨x2,L2,H6,fun jw => ?_,y2,y3,y4,((o123.mono fun j hj=>by cases hj).trans p3).then y5 fun j hj=>(p4 j hj).imp id fun z=>by omega⟩
  rw[Yv]
  simp(disch:=first|exact zqz|fail)only[bl_admit_Show,bH h1,q1,q4,hz,dq,e0,i1,s1,e1,j1,s2,fl_1,p1,e1',JW,es,y1,ar,au,aj,ai,simprocAttr]
theorem ashow_c {H:Hp}{p:Nat}{a:FA}{f:Fm}(h:FL H p a f)(hI:FI f)(hg:Gl H)(id:Int) :
  ∃ s H',cK (.func (.func 47) [] []) [.ptr p 0,.int .i64 id] H=some (.str s,H')/\Out [] H H':=by
 by_cases hid:id<1\/(f.az.length:Int)<id
 ·obtain⟨H1,r1,r2⟩:=run_out h id hid
  have hz:st 4 (.ptr H1.next 0) (.agg zR) (al H1 zR 75 0)=some (al H1 zR 75 0):=iV rfl rfl rfl (by decide) rfl
  refine⟨[],_,aaB ?_,r2.trans (aJ H1 zR 75 0)⟩
  unfold Rc
  simp(disch:=first|exact zqz|fail)only[r1,hz,ar,au,aj,ai,simprocAttr]
 ·obtain⟨i,rfl⟩:∃ i:Nat,id=(i:Nat)+1:=⟨(id-1).toNat,by omega⟩
  obtain⟨x,hx⟩:∃ x,f.az[i]? = some x:=⟨_,aau (by omega)⟩
  have yv:=hI.nr
  obtain⟨hr,t,ht,_⟩:=hI.run x (aaF hx)
  obtain⟨dx,xs,tx,sx,H1,r1,r2,r3⟩:=run_c h (by omega) (fun y hy=>(hI.run y hy).1.i0.ok.sm) hx
  have hz:=st_zr r2.ones H1
  have o1:=aJ H1 (rv dx x.1.st tx sx) 75 0
  have c1:=bo H1 (rv dx x.1.st tx sx) 75 0
  have n1:(al H1 (rv dx x.1.st tx sx) 75 0).next=H1.next+1:=rfl
  generalize dq:al H1 (rv dx x.1.st tx sx) 75 0=H2 at *
  have e1:cellAt H2 H1.next 1=some (.int .i64 x.1.st):=c1.cellAt rfl
  have jy:=(hg.out0 r3).out0 o1
  obtain⟨H3,i1,i2⟩:=HZ (n:=x.1.st) (by have:=hr.st;omega) (by have:=hr.st;omega) jy
  have o3:=aJ H3 [.str x.2,.str (dec x.1.st)] 9 0
  have c3:=bo H3 [.str x.2,.str (dec x.1.st)] 9 0
  have n3:(al H3 [.str x.2,.str (dec x.1.st)] 9 0).next=H3.next+1:=rfl
  generalize mn:al H3 [.str x.2,.str (dec x.1.st)] 9 0=H4 at *
  have e2:cellAt H4 H1.next 2=some tx:=((c1.out i2 (by simp)).out o3 (by simp)).cellAt rfl
  have jJ:=o1.1
  have gK:=i2.1
  have hT:=((r2.t.out0 o1).out0 i2).out0 o3
  have aI:=hT.len (by decide)
  rw[yG] at aI
  have wA:uL x.2=true:=(hI.tx _ (getT_mem ht)).1
  obtain⟨_,k2,k3⟩:=Qb wA
  obtain⟨d1,d2⟩:=dec_short (n:=x.1.st) hr.st.1 (by have:=hr.st.2;omega)
  have Pg:Ow H4 9 1 (.slice H3.next 0 2 2 true 1) (strs [x.2,dec x.1.st]):=c3.ow (by decide) rfl (fun v hv=>by
   rcases aaY.1 hv with rfl | hv
   ·rfl
   ·rw[No] at hv;rw[hv];rfl) true
  have dm:∀ b∈p9,b<256:=by decide
  obtain⟨x',L',H5,y1,y2,y3,y4,y5⟩:=ashow_loop (rs:=x.1.rs) (tx:=tx) (N:=H3.next) (by have:=hr.i0.n2;omega) (fun r eH=>by
   obtain⟨j,hj⟩:=List.mem_iff_getElem?.1 eH
   obtain⟨d,hd⟩:∃ d,x.1.ts[j]? = some d:=⟨_,aau (by rw[<-hr.i0.ok.len];exact (aas.1 hj).1)⟩
   obtain⟨z1,z2,_,_⟩:=hr.i0.tr j d r hd hj
   have hp:=(hr.ti r eH).ph
   have:=hr.i0.td d (aaF hd)
   exact⟨hp.1,hp.2,z1,by omega⟩) (fun j hj=>by have:=((r2.t.out0 o1).out0 i2).1.lt j hj;exact this) x.1.rs 0 H4 (.slice H3.next 0 2 2 true 1) [x.2,dec x.1.st] (ac4 _) ada hT Pg (fun j hj=>Nat.le_of_eq (No.1 hj).symm) (by omega) (by simp) (fun s hs=>by
    rcases aaY.1 hs with rfl | hs
    ·exact⟨by omega,fun b hb=>dm b (k3 b hb)⟩
    ·rw[No] at hs;rw[hs];exact⟨by omega,d2⟩) ((jy.out0 i2).out0 o3) (by have:=jy.nx;omega)
  rw[show (((0:Nat):Int))=0 from rfl] at y1
  obtain⟨H6,w1,w2⟩:=TG (sep:=[32]) rfl y2.rw (by omega) (fun s hs=>by have:=(y4 s hs).1;omega) (by
   have:∀ l:List aq,(∀ s∈l,shortS s)->cO l<=l.length*40:=by
    intro l
    induction l with
    | nil=>intro _;simp[cO]
    | cons s l ih=>
     intro hs
     have h1:=(hs s (.head _)).1
     have h2:=ih fun u hu=>hs u (.tail _ hu)
     unfold cO at h2 ⊢
     rw[adK,ajY,aaN];omega
   have:=this L' y4
   omega) (fun s hs=>by
    rcases aaY.1 hs with rfl | hs
    ·intro b hb;rw[No] at hb;omega
    ·exact (y4 s hs).2)
  have oT:Out [] H H6:=((((r3.trans o1).trans i2).trans o3).then y5 fun j hj => .inr (by have iQ:=No.1 hj;have:=r3.1;omega)).trans w2
  refine⟨uw [32] L',H6,aaB ?_,oT⟩
  unfold Rc
  simp(disch:=first|exact zqz|fail)only[r1,hz,dq,e1,i1,fl_2,mn,e2,aI,y1,w1,ar,au,aj,ai,simprocAttr]
structure Cm where
 kd:Int
 rn:Int
 tk:Int
 ty:Int
 n:Int
 ep:Int
 nm:aq
 ky:aq
 dt:aq
structure Rp where
 er:Int
 rn:Int
 tk:Int
 ty:Int
 ep:Int
 tx:aq
def cmC (c:Cm):List AV:=[.int .i64 c.kd,.int .i64 c.rn,.int .i64 c.tk,.int .i64 c.ty,.int .i64 c.n,.int .i64 c.ep,.str c.nm,.str c.ky,.str c.dt]
def rpC (r:Rp):List AV:=[.int .i64 r.er,.int .i64 r.rn,.int .i64 r.tk,.int .i64 r.ty,.int .i64 r.ep,.str r.tx]
abbrev evZ:Ev:=⟨0,0,0,0,0,[],[],[]⟩
abbrev rpE (e:Int):Rp:=⟨e,0,0,0,0,[]⟩
abbrev evz:List AV:=[.int .i64 0,.int .i64 0,.int .i64 0,.int .i64 0,.int .i64 0,.str [],.str [],.str []]
abbrev rpz:List AV:=[.int .i64 0,.int .i64 0,.int .i64 0,.int .i64 0,.int .i64 0,.str []]
structure An where
 e:Ev
 r:Rp
 put:Bool
abbrev noA (r:Rp):An:=⟨evZ,r,false⟩
noncomputable def tryA (f:Fm)(e:Ev)(r:Rp):An:=if (applyM f e).2=0 then ⟨e,{ r with rn:=e.rn },true⟩ else noA (rpE (applyM f e).2)
noncomputable def tailA (f:Fm)(c:Cm)(ep:Int)(e:Ev)(r:Rp):An:=if (c.kd=4\/c.kd=5)/\c.ep≠ep then noA (rpE 8) else tryA f e r
structure OfR (f:Fm)(c:Cm)(ep:Int)(A:An):Prop where
 yes:A.put=true->A.r.er=0/\(applyM f A.e).2=0
 no:A.put=false->A.e=evZ/\(A.r.er≠0->A.r=rpE A.r.er)
 def1:c.kd=1->A=tryA f ⟨1,0,0,0,0,c.nm,[],c.dt⟩ (rpE 0)
 key2:c.kd=2->A=if c.ky≠[]/\(iT f.ks (c.nm,c.ky)).isSome=true then noA ⟨0,(iT f.ks (c.nm,c.ky)).getD 0,0,0,0,[]⟩ else tryA f ⟨2,if (64:Int)<(f.az.length:Nat)+1 then 64 else (f.az.length:Nat)+1,0,0,0,c.nm,c.ky,[]⟩ (rpE 0)
theorem tryA_ok {f:Fm}{e:Ev}{r:Rp}(hr:r.er=0):((tryA f e r).put=true->(tryA f e r).r.er=0/\(applyM f (tryA f e r).e).2=0)/\((tryA f e r).put=false->(tryA f e r).e=evZ/\((tryA f e r).r.er≠0->(tryA f e r).r=rpE (tryA f e r).r.er)):=by
 unfold tryA
 by_cases h:(applyM f e).2=0
 ·rw[if_pos h];exact⟨fun _=>⟨hr,h⟩,fun q=>by cases q⟩
 ·rw[if_neg h];exact⟨fun q=>(by cases q),fun _=>⟨rfl,fun _=>rfl⟩⟩
theorem tailA_ok {f:Fm}{c:Cm}{ep:Int}{e:Ev}{r:Rp}(hr:r.er=0):((tailA f c ep e r).put=true->(tailA f c ep e r).r.er=0/\(applyM f (tailA f c ep e r).e).2=0)/\((tailA f c ep e r).put=false->(tailA f c ep e r).e=evZ/\((tailA f c ep e r).r.er≠0->(tailA f c ep e r).r=rpE (tailA f c ep e r).r.er)):=by
 unfold tailA
 by_cases h:(c.kd=4\/c.kd=5)/\c.ep≠ep
 ·rw[if_pos h];exact⟨fun q=>(by cases q),fun _=>⟨rfl,fun _=>rfl⟩⟩
 ·rw[if_neg h];exact tryA_ok hr
theorem tailA_ne {f:Fm}{c:Cm}{ep:Int}{e:Ev}{r:Rp}(h4:c.kd≠4)(h5:c.kd≠5):tailA f c ep e r=tryA f e r:=by
 unfold tailA
 rw[if_neg (fun h=>h.1.elim h4 h5)]
def Say (H:Hp)(A:An)(x:R):Prop:=∃ H',x=some (.tuple [.agg (aG A.e),.agg (rpC A.r),.bool A.put],H')/\Out [] H H'
theorem JN_ex {m:Nat}{f:K.Fn m->R}{k:K.Fn m}{C:R->Prop}(T:K.Fn m->Prop)(hk:T k)(hf:∀ t,T t->C (f t)):C (JN m f k):=hf k hk
theorem BN_of {o:Option (Nat × Hp)}{i:Nat}{H:Hp}(h:o=some (i,H))(k:Nat->Hp->R):BN o k=k i H:=by rw[h];rfl
structure Mid (H0:Hp)(p:Nat)(a:FA)(f:Fm)(c:Cm)(e:Ev)(r:Rp)(H:Hp):Prop where
 fl:FL H p a f
 g:Gl H
 c0:Cs H H0.next (cmC c) 37 0
 c1:Cs H (H0.next+1) (aG e) 26 0
 c2:Cs H (H0.next+1+1) (rpC r) 39 0
 o:Out [] H0 H
 l:∀ j∈own p a,j<H0.next
 m:∀ j∈DfK.dB a,j<H0.next
 n:11<=H0.next
theorem evC_one (e:Ev):(aG e).all ba=true:=rfl
theorem rpC_one (r:Rp):(rpC r).all ba=true:=rfl
section
variable {H0:Hp}{p:Nat}{a:FA}{f:Fm}{c:Cm}{e:Ev}{r:Rp}{H:Hp}
theorem Mid.out (m:Mid H0 p a f c e r H){H':Hp}(k:Out [] H H'):Mid H0 p a f c e r H':=
 ⟨m.fl.out0 k,m.g.out0 k,m.c0.out k (by simp),m.c1.out k (by simp),m.c2.out k (by simp),m.o.trans k,m.l,m.m,m.n⟩
theorem Mid.evO (m:Mid H0 p a f c e r H)(e':Ev):∃ H',st 8 (.ptr (H0.next+1) 0) (.agg (aG e')) H=some H'/\Mid H0 p a f c e' r H'/\Out [H0.next+1] H H':=by
 obtain⟨H',h1,h2,h3,h4⟩:=fN m.c1 (n:=8) (vs:=aG e') rfl rfl (evC_one e')
 have hS:∀ j∈[H0.next+1],H0.next<=j:=fun j hj=>by rw[No] at hj;omega
 exact⟨H',h1,⟨m.fl.hi h3 m.l m.m hS,m.g.out h3 fun j hj=>by have:=hS j hj;have:=m.n;omega,m.c0.out h3 (by simp),h2,m.c2.out h3 (by simp),m.o.then h3 fun j hj => .inr (hS j hj),m.l,m.m,m.n⟩,h3⟩
theorem Mid.ev (m:Mid H0 p a f c e r H)(e':Ev):∃ H',st 8 (.ptr (H0.next+1) 0) (.agg (aG e')) H=some H'/\Mid H0 p a f c e' r H':=by
 obtain⟨H',h1,h2,_⟩:=m.evO e'
 exact⟨H',h1,h2⟩
theorem Mid.rp (m:Mid H0 p a f c e r H)(r':Rp):∃ H',st 6 (.ptr (H0.next+1+1) 0) (.agg (rpC r')) H=some H'/\Mid H0 p a f c e r' H':=by
 obtain⟨H',h1,h2,h3,h4⟩:=fN m.c2 (n:=6) (vs:=rpC r') rfl rfl (rpC_one r')
 have hS:∀ j∈[H0.next+1+1],H0.next<=j:=fun j hj=>by rw[No] at hj;omega
 exact⟨H',h1,m.fl.hi h3 m.l m.m hS,m.g.out h3 fun j hj=>by have:=hS j hj;have:=m.n;omega,m.c0.out h3 (by simp;omega),m.c1.out h3 (by simp),h2,m.o.then h3 fun j hj => .inr (hS j hj),m.l,m.m,m.n⟩
theorem Mid.le (m:Mid H0 p a f c e r H):av H (H0.next+1) 0 8=some (aG e):=m.c1.av 8 0 (by show 0+8<=8;omega)
theorem Mid.lr (m:Mid H0 p a f c e r H):av H (H0.next+1+1) 0 6=some (rpC r):=m.c2.av 6 0 (by show 0+6<=6;omega)
theorem Mid.rn (m:Mid H0 p a f c e r H)(z:Int):∃ H',st 1 (.ptr (H0.next+1+1) 1) (.int .i64 z) H=some H'/\Mid H0 p a f c e { r with rn:=z } H':=by
 obtain⟨H',h1,h2,h3,h4⟩:=fG m.c2 (by decide) (o:=1) (by show 1<6;omega) (v := .int .i64 z) rfl
 have hS:∀ j∈[H0.next+1+1],H0.next<=j:=fun j hj=>by rw[No] at hj;omega
 exact⟨H',h1,m.fl.hi h3 m.l m.m hS,m.g.out h3 fun j hj=>by have:=hS j hj;have:=m.n;omega,m.c0.out h3 (by simp;omega),m.c1.out h3 (by simp),h2,m.o.then h3 fun j hj => .inr (hS j hj),m.l,m.m,m.n⟩
theorem same_ev (e:Ev):same (.agg (aG e)) (.agg (aG e))=true:=by simp[same,aG,tA,n0]
theorem same_rp (r:Rp):same (.agg (rpC r)) (.agg (rpC r))=true:=by simp[same,rpC,tA,n0]
theorem SM_str (s:aq)(x:R):SM (.str s) (.str s) x=x:=lK (same_st s)
theorem Mid.none (m:Mid H0 p a f c e r H)(r':Rp):∃ H1 H2,st 8 (.ptr (H0.next+1) 0) (.agg evz) H=some H1/\st 6 (.ptr (H0.next+1+1) 0) (.agg (rpC r')) H1=some H2/\av H2 (H0.next+1) 0 8=some evz/\av H2 (H0.next+1+1) 0 6=some (rpC r')/\Out [] H0 H2/\Cs H1 H0.next (cmC c) 37 0:=by
 obtain⟨H1,a1,m1⟩:=m.ev evZ
 obtain⟨H2,a2,m2⟩:=m1.rp r'
 exact⟨H1,H2,a1,a2,m2.le,m2.lr,m2.o,m1.c0⟩
end
theorem of_c {H:Hp}{p:Nat}{a:FA}{f:Fm}(h:FL H p a f)(hI:FI f)(hg:Gl H)(c:Cm)(ep:Int) :
  ∃ A,Say H A (cK (.func (.func 20) [] []) [.ptr p 0,.agg (cmC c),.int .i64 ep] H)/\OfR f c ep A:=by
 have yv:=hI.nr
 have mf:=hI.nn
 have Sd:=hI.nk
 suffices hs:∃ A,Say H A (Iq JN GO cK (.ptr p 0) (.agg (cmC c)) (.int .i64 ep) H)/\OfR f c ep A by
  obtain⟨A,⟨H',h1,h2⟩,h3⟩:=hs
  exact⟨A,⟨H',aoB h1,h2⟩,h3⟩
 have o0:=aJ H (cmC c) 37 0
 have o1:=aJ (al H (cmC c) 37 0) evz 26 0
 have o2:=aJ (al (al H (cmC c) 37 0) evz 26 0) rpz 39 0
 have o012:=(o0.trans o1).trans o2
 have m0:Mid H p a f c evZ (rpE 0) (al (al (al H (cmC c) 37 0) evz 26 0) rpz 39 0):=
  ⟨h.out0 o012,hg.out0 o012,((bo H (cmC c) 37 0).out o1 (by simp)).out o2 (by simp),(bo (al H (cmC c) 37 0) evz 26 0).out o2 (by simp),bo (al (al H (cmC c) 37 0) evz 26 0) rpz 39 0,o012,h.lt,fun j hj=>(h.dB j hj).2,hg.nx⟩
 unfold Iq
 rw[BN_of (iW (show (cmC c).length<=16777216 by show 9<=16777216;omega)),BN_of (gB (by decide)),BN_of (gB (by decide))]
 rw[show (al H (cmC c) 37 0).next=H.next+1 from rfl,show (al (al H (cmC c) 37 0) evz 26 0).next=H.next+1+1 from rfl]
 generalize al (al (al H (cmC c) 37 0) evz 26 0) rpz 39 0=H1 at *
 refine JN_ex (C:=fun x=>∃ A,Say H A x/\OfR f c ep A) (fun j=>∀ e r H',Mid H p a f c e r H'->Say H (tailA f c ep e r) (j (.ptr p 0) (.int .i64 ep) (.ptr H.next 0) (.ptr (H.next+1) 0) (.ptr (H.next+1+1) 0) H')) ?_ ?_
 ·intro e r H2 m
  have C0:cellAt H2 H.next 0=some (.int .i64 c.kd):=m.c0.cellAt rfl
  have C5:cellAt H2 H.next 5=some (.int .i64 c.ep):=m.c0.cellAt rfl
  refine JN_ex (C:=Say H (tailA f c ep e r)) (fun j=>∀ H',Mid H p a f c e r H'->Say H (tryA f e r) (j (.ptr p 0) (.ptr (H.next+1) 0) (.ptr (H.next+1+1) 0) H')) ?_ ?_
  ·intro H2 m
   obtain⟨q,b,H3,k1,k2,k3,k4,k5⟩:=fclone_c m.fl (by have:=m.o.1;have:=m.n;omega) (by omega) (by omega) (by omega) hI.kd
   have m3:=m.out k3
   obtain⟨b',H4,w1,w2,w3⟩:=apply_c k2 m3.g hI.ok e
   have m4:=m.out (k3.then w3.o fun j hj => .inr (k4 j hj))
   have L2:=m.le
   have L3:=m3.le
   have hs:=same_ev e
   unfold tryA
   by_cases h0:(applyM f e).2=0
   ·have b0:((applyM f e).2 != 0)=false:=by simp[h0]
    have R1:cellAt H4 (H.next+1) 1=some (.int .i64 e.rn):=m4.c1.cellAt rfl
    obtain⟨H5,s1,m5⟩:=m4.rn e.rn
    have L5:=m5.le
    have M5:=m5.lr
    obtain⟨H6,s2,m6⟩:=m5.ev e
    obtain⟨H7,s3,m7⟩:=m6.rp { r with rn:=e.rn }
    have M6:=m6.lr
    have L7:=m7.le
    have M7:=m7.lr
    have hr:=same_rp { r with rn:=e.rn }
    rw[if_pos h0]
    refine⟨H7,?_,m7.o⟩
    simp(disch:=first|exact zqz|fail)only[k1,L3,w1,L2,lK hs,b0,R1,s1,L5,M5,s2,s3,M6,lK hr,L7,M7,ar,au,aj,ai,simprocAttr]
   ·have b0:((applyM f e).2 != 0)=true:=by simp[h0]
    obtain⟨H5,H6,s1,s2,s3,s4,s5,s6⟩:=m4.none (rpE (applyM f e).2)
    dsimp only[rpC] at s2 s4
    rw[if_neg h0]
    refine⟨H6,?_,s5⟩
    simp(disch:=first|exact zqz|fail)only[k1,L3,w1,L2,lK hs,b0,s1,s2,s3,s4,ar,au,aj,ai,simprocAttr]
    rfl
  ·intro j1 h1
   by_cases aC:(c.kd=4\/c.kd=5)/\c.ep≠ep
   ·obtain⟨H5,H6,s1,s2,s3,s4,s5,s6⟩:=m.none (rpE 8)
    dsimp only[rpC] at s2 s4
    have d:(c.ep != ep)=true:=by simp[aC.2]
    unfold tailA
    rw[if_pos aC]
    refine⟨H6,?_,s5⟩
    by_cases b4:c.kd=4
    ·have q4:(c.kd==4)=true:=by simp[b4]
     simp(disch:=first|exact zqz|fail)only[C0,C5,q4,d,s1,s2,s3,s4,ar,au,aj,ai,simprocAttr]
     rfl
    ·have q4:(c.kd==4)=false:=by simp[b4]
     have q5:(c.kd==5)=true:=by simp[aC.1.resolve_left b4]
     simp(disch:=first|exact zqz|fail)only[C0,C5,q4,q5,d,s1,s2,s3,s4,ar,au,aj,ai,simprocAttr]
     rfl
   ·have h2:=h1 _ m
    unfold tailA
    rw[if_neg aC]
    by_cases b4:c.kd=4
    ·have q4:(c.kd==4)=true:=by simp[b4]
     have d:(c.ep != ep)=false:=by
      by_cases z:c.ep=ep
      ·simp[z]
      ·exact absurd ⟨.inl b4,z⟩ aC
     simp(disch:=first|exact zqz|fail)only[C0,C5,q4,d,ar,au,aj,ai,simprocAttr]
     exact h2
    ·have q4:(c.kd==4)=false:=by simp[b4]
     by_cases b5:c.kd=5
     ·have q5:(c.kd==5)=true:=by simp[b5]
      have d:(c.ep != ep)=false:=by
       by_cases z:c.ep=ep
       ·simp[z]
       ·exact absurd ⟨.inr b5,z⟩ aC
      simp(disch:=first|exact zqz|fail)only[C0,C5,q4,q5,d,ar,au,aj,ai,simprocAttr]
      exact h2
     ·have q5:(c.kd==5)=false:=by simp[b5]
      simp(disch:=first|exact zqz|fail)only[C0,C5,q4,q5,ar,au,aj,ai,simprocAttr]
      exact h2
 ·intro j6 hj
  have E0:cellAt H1 H.next 0=some (.int .i64 c.kd):=m0.c0.cellAt rfl
  have E1:cellAt H1 H.next 1=some (.int .i64 c.rn):=m0.c0.cellAt rfl
  have E2:cellAt H1 H.next 2=some (.int .i64 c.tk):=m0.c0.cellAt rfl
  have E3:cellAt H1 H.next 3=some (.int .i64 c.ty):=m0.c0.cellAt rfl
  have E4:cellAt H1 H.next 4=some (.int .i64 c.n):=m0.c0.cellAt rfl
  have E6:cellAt H1 H.next 6=some (.str c.nm):=m0.c0.cellAt rfl
  have E7:cellAt H1 H.next 7=some (.str c.ky):=m0.c0.cellAt rfl
  have E8:cellAt H1 H.next 8=some (.str c.dt):=m0.c0.cellAt rfl
  by_cases b1:c.kd=1
  ·have q1:(c.kd==1)=true:=by simp[b1]
   obtain⟨H2,z1,z2⟩:=m0.ev ⟨1,0,0,0,0,c.nm,[],c.dt⟩
   dsimp only[aG] at z1
   refine⟨tailA f c ep ⟨1,0,0,0,0,c.nm,[],c.dt⟩ (rpE 0),?_,(tailA_ok rfl).1,(tailA_ok rfl).2,fun _=>tailA_ne (by omega) (by omega),fun q=>by omega⟩
   have hz:=hj _ _ _ z2
   simp(disch:=first|exact zqz|fail)only[E0,E6,E8,q1,z1,ar,au,aj,ai,simprocAttr]
   exact hz
  have q1:(c.kd==1)=false:=by simp[b1]
  by_cases b2:c.kd=2
  ·have q2:(c.kd==2)=true:=by simp[b2]
   obtain⟨H2,k1,k2⟩:=VT m0.fl c.nm c.ky
   have m2:=m0.out k2
   have e7:cellAt H2 H.next 7=some (.str c.ky):=m2.c0.cellAt rfl
   have e6:cellAt H2 H.next 6=some (.str c.nm):=m2.c0.cellAt rfl
   by_cases hy:c.ky≠[]/\(iT f.ks (c.nm,c.ky)).isSome=true
   ·have q3:(c.ky==[])=false:=by simp[hy.1]
    have q4:=hy.2
    obtain⟨H3,H4,s1,s2,s3,s4,s5,s6⟩:=m2.none ⟨0,(iT f.ks (c.nm,c.ky)).getD 0,0,0,0,[]⟩
    dsimp only[rpC] at s2 s4
    refine⟨noA ⟨0,(iT f.ks (c.nm,c.ky)).getD 0,0,0,0,[]⟩,⟨H4,?_,s5⟩,fun q=>(by cases q),fun _=>⟨rfl,fun q=>absurd rfl q⟩,fun q=>by omega,fun _=>(if_pos hy).symm⟩
    simp(disch:=first|exact zqz|fail)only[E0,E6,E7,q1,q2,k1,q4,e7,q3,s1,s2,s3,s4,ar,au,aj,ai,simprocAttr]
    rfl
   ·obtain⟨H3,z1,z2⟩:=m2.ev ⟨2,if (64:Int)<(f.az.length:Nat)+1 then 64 else (f.az.length:Nat)+1,0,0,0,c.nm,c.ky,[]⟩
    dsimp only[aG] at z1
    have w1:IntKind.wrap .i64 (((f.az.length:Nat):Int)+1)=((f.az.length:Nat):Int)+1:=wrap_i64 (by omega) (by omega)
    have hl:=Un m2.fl
    refine⟨tailA f c ep ⟨2,if (64:Int)<(f.az.length:Nat)+1 then 64 else (f.az.length:Nat)+1,0,0,0,c.nm,c.ky,[]⟩ (rpE 0),?_,(tailA_ok rfl).1,(tailA_ok rfl).2,fun q=>by omega,fun _=>(tailA_ne (by omega) (by omega)).trans (if_neg hy).symm⟩
    have hz:=hj _ _ _ z2
    by_cases h4:(iT f.ks (c.nm,c.ky)).isSome=true
    ·have h5:c.ky=[]:=Decidable.byContradiction fun q=>hy ⟨q,h4⟩
     have q3:(c.ky==[])=true:=by simp[h5]
     simp(disch:=first|exact zqz|fail)only[E0,E6,E7,q1,q2,k1,h4,e7,e6,q3,hl,w1,z1,SM_str,Av,ar,au,aj,ai,simprocAttr]
     exact hz
    ·have h5:(iT f.ks (c.nm,c.ky)).isSome=false:=by simpa using h4
     simp(disch:=first|exact zqz|fail)only[E0,E6,E7,q1,q2,k1,h5,e7,e6,hl,w1,z1,SM_str,Av,ar,au,aj,ai,simprocAttr]
     exact hz
  have q2:(c.kd==2)=false:=by simp[b2]
  by_cases b3:c.kd=3
  ·have q3:(c.kd==3)=true:=by simp[b3]
   rcases first_c m0.fl (by omega) (fun x hx=>(hI.run x hx).1.i0.ok.sm) with⟨i,x,k,t,H2,i1,i2,i3,i4⟩ | ⟨H2,i3,i4⟩
   ·have m2:=m0.out i4
    obtain⟨dx,xs,tx,sx,H3,r1,r2,r3,r4⟩:=run_cf m2.fl (by omega) (fun y hy=>(hI.run y hy).1.i0.ok.sm) i1
    have hz:=st_zr r2.ones H3
    have o3:=aJ H3 (rv dx x.1.st tx sx) 75 0
    have c3:=bo H3 (rv dx x.1.st tx sx) 75 0
    generalize hA:al H3 (rv dx x.1.st tx sx) 75 0=H4 at *
    have m4:=(m2.out r3).out o3
    have wH:=r3.1
    have gK:=i4.1
    have jJ:=m0.c2.1
    have hr:=(hI.run x (aaF i1)).1
    obtain⟨d,hd⟩:∃ d,x.1.ts[k]? = some d:=⟨_,aau (by rw[<-hr.i0.ok.len];exact (aas.1 i2).1)⟩
    obtain⟨H5,z1,z2,oe⟩:=m4.evO ⟨3,(i:Nat)+1,(k:Nat),fC (t.tr+1),0,[],[],[]⟩
    dsimp only[aG] at z1
    obtain⟨H6,z3,z4⟩:=z2.rp ⟨0,0,(k:Nat),fC (t.tr+1),ep,d.name⟩
    dsimp only[rpC] at z3
    have e0:cellAt H5 H3.next 0=some dx:=(c3.out oe (by simp;omega)).cellAt rfl
    obtain⟨y,b,o,-,-,-,y1,-,-,y2⟩:=((r2.d.out0 o3).out oe (fun j hj q=>by rw[No] at q;have:=r4 j (abA _ hj);omega)).at hd
    refine⟨tailA f c ep ⟨3,(i:Nat)+1,(k:Nat),fC (t.tr+1),0,[],[],[]⟩ ⟨0,0,(k:Nat),fC (t.tr+1),ep,d.name⟩,?_,(tailA_ok rfl).1,(tailA_ok rfl).2,fun q=>by omega,fun q=>by omega⟩
    have hf:=hj _ _ _ z4
    simp(disch:=first|exact zqz|fail)only[E0,q1,q2,q3,i3,r1,hz,hA,z1,e0,y1,y2,z3,ar,au,aj,ai,simprocAttr]
    exact hf
   ·have m2:=m0.out i4
    obtain⟨H3,H4,s1,s2,s3,s4,s5,s6⟩:=m2.none (rpE 4)
    dsimp only[rpC] at s2 s4
    refine⟨noA (rpE 4),⟨H4,?_,s5⟩,fun q=>(by cases q),fun _=>⟨rfl,fun _=>rfl⟩,fun q=>by omega,fun q=>by omega⟩
    simp(disch:=first|exact zqz|fail)only[E0,q1,q2,q3,i3,s1,s2,s3,s4,ar,au,aj,ai,simprocAttr]
    rfl
  have q3:(c.kd==3)=false:=by simp[b3]
  by_cases b4:c.kd=4
  ·have q4:(c.kd==4)=true:=by simp[b4]
   obtain⟨H2,z1,z2⟩:=m0.ev ⟨4,c.rn,c.tk,c.ty,0,[],[],c.dt⟩
   dsimp only[aG] at z1
   refine⟨tailA f c ep ⟨4,c.rn,c.tk,c.ty,0,[],[],c.dt⟩ (rpE 0),?_,(tailA_ok rfl).1,(tailA_ok rfl).2,fun q=>by omega,fun q=>by omega⟩
   have hz:=hj _ _ _ z2
   simp(disch:=first|exact zqz|fail)only[E0,E1,E2,E3,E8,q1,q2,q3,q4,z1,ar,au,aj,ai,simprocAttr]
   exact hz
  have q4:(c.kd==4)=false:=by simp[b4]
  by_cases b5:c.kd=5
  ·have q5:(c.kd==5)=true:=by simp[b5]
   obtain⟨H2,z1,z2⟩:=m0.ev ⟨5,c.rn,c.tk,c.ty,0,[],[],[]⟩
   dsimp only[aG] at z1
   refine⟨tailA f c ep ⟨5,c.rn,c.tk,c.ty,0,[],[],[]⟩ (rpE 0),?_,(tailA_ok rfl).1,(tailA_ok rfl).2,fun q=>by omega,fun q=>by omega⟩
   have hz:=hj _ _ _ z2
   simp(disch:=first|exact zqz|fail)only[E0,E1,E2,E3,q1,q2,q3,q4,q5,z1,ar,au,aj,ai,simprocAttr]
   exact hz
  have q5:(c.kd==5)=false:=by simp[b5]
  by_cases b6:c.kd=6
  ·have q6:(c.kd==6)=true:=by simp[b6]
   obtain⟨H2,z1,z2⟩:=m0.ev ⟨6,0,0,0,c.n,[],[],[]⟩
   dsimp only[aG] at z1
   refine⟨tailA f c ep ⟨6,0,0,0,c.n,[],[],[]⟩ (rpE 0),?_,(tailA_ok rfl).1,(tailA_ok rfl).2,fun q=>by omega,fun q=>by omega⟩
   have hz:=hj _ _ _ z2
   simp(disch:=first|exact zqz|fail)only[E0,E4,q1,q2,q3,q4,q5,q6,z1,ar,au,aj,ai,simprocAttr]
   exact hz
  have q6:(c.kd==6)=false:=by simp[b6]
  by_cases b7:c.kd=7
  ·have q7:(c.kd==7)=true:=by simp[b7]
   obtain⟨H2,z1,z2⟩:=m0.ev ⟨7,c.rn,0,0,0,c.nm,[],[]⟩
   dsimp only[aG] at z1
   refine⟨tailA f c ep ⟨7,c.rn,0,0,0,c.nm,[],[]⟩ (rpE 0),?_,(tailA_ok rfl).1,(tailA_ok rfl).2,fun q=>by omega,fun q=>by omega⟩
   have hz:=hj _ _ _ z2
   simp(disch:=first|exact zqz|fail)only[E0,E1,E6,q1,q2,q3,q4,q5,q6,q7,z1,ar,au,aj,ai,simprocAttr]
   exact hz
  have q7:(c.kd==7)=false:=by simp[b7]
  by_cases b8:c.kd=8
  ·have q8:(c.kd==8)=true:=by simp[b8]
   obtain⟨H2,z1,z2⟩:=m0.ev ⟨8,c.rn,0,0,0,[],[],[]⟩
   dsimp only[aG] at z1
   refine⟨tailA f c ep ⟨8,c.rn,0,0,0,[],[],[]⟩ (rpE 0),?_,(tailA_ok rfl).1,(tailA_ok rfl).2,fun q=>by omega,fun q=>by omega⟩
   have hz:=hj _ _ _ z2
   simp(disch:=first|exact zqz|fail)only[E0,E1,q1,q2,q3,q4,q5,q6,q7,q8,z1,ar,au,aj,ai,simprocAttr]
   exact hz
  have q8:(c.kd==8)=false:=by simp[b8]
  by_cases b9:c.kd=9
  ·have q9:(c.kd==9)=true:=by simp[b9]
   obtain⟨s,H2,k1,k2⟩:=ashow_c m0.fl hI m0.g c.rn
   have m2:=m0.out k2
   by_cases hs:s=[]
   ·subst hs
    obtain⟨H3,H4,s1,s2,s3,s4,s5,s6⟩:=m2.none (rpE 4)
    dsimp only[rpC] at s2 s4
    refine⟨noA (rpE 4),⟨H4,?_,s5⟩,fun q=>(by cases q),fun _=>⟨rfl,fun _=>rfl⟩,fun q=>by omega,fun q=>by omega⟩
    have q0:(([]:List Nat)==[])=true:=rfl
    simp(disch:=first|exact zqz|fail)only[E0,E1,q1,q2,q3,q4,q5,q6,q7,q8,q9,k1,q0,s1,s2,s3,s4,ar,au,aj,ai,simprocAttr]
    rfl
   ·have q0:(s==[])=false:=by simp[hs]
    obtain⟨H3,H4,s1,s2,s3,s4,s5,s6⟩:=m2.none ⟨0,c.rn,0,0,0,s⟩
    dsimp only[rpC] at s2 s4
    have e1:cellAt H2 H.next 1=some (.int .i64 c.rn):=m2.c0.cellAt rfl
    have e3:cellAt H3 H.next 1=some (.int .i64 c.rn):=s6.cellAt rfl
    refine⟨noA ⟨0,c.rn,0,0,0,s⟩,⟨H4,?_,s5⟩,fun q=>(by cases q),fun _=>⟨rfl,fun q=>absurd rfl q⟩,fun q=>by omega,fun q=>by omega⟩
    simp(disch:=first|exact zqz|fail)only[E0,E1,q1,q2,q3,q4,q5,q6,q7,q8,q9,k1,q0,e1,e3,JW,s1,s2,s3,s4,ar,au,aj,ai,simprocAttr]
    rfl
  have q9:(c.kd==9)=false:=by simp[b9]
  obtain⟨H3,H4,s1,s2,s3,s4,s5,s6⟩:=m0.none (rpE 1)
  dsimp only[rpC] at s2 s4
  refine⟨noA (rpE 1),⟨H4,?_,s5⟩,fun q=>(by cases q),fun _=>⟨rfl,fun _=>rfl⟩,fun q=>absurd q b1,fun q=>absurd q b2⟩
  simp(disch:=first|exact zqz|fail)only[E0,q1,q2,q3,q4,q5,q6,q7,q8,q9,s1,s2,s3,s4,ar,au,aj,ai,simprocAttr]
  rfl
theorem ne_ev (a b:Ev)(H:Hp):gA P .neq 26 false (.agg (aG a)) (.agg (aG b))=true/\eA P .neq 26 (.agg (aG a)) (.agg (aG b)) H=some (.bool (!(yt a b))):=by
 constructor
 ·show (!(Program.eqGuardType P P.depth 26))=true
  rw[X3];rfl
 ·show (dC P 50 26 (.agg (aG a)) (.agg (aG b)) H).map (fun b=>AV.bool (!b))=_
  have h:dC P 50 26 (.agg (aG a)) (.agg (aG b)) H=_:=ZX a.kd a.rn a.tk a.ty a.n a.nm a.ky a.dt b.kd b.rn b.tk b.ty b.n b.nm b.ky b.dt H
  rw[h,AP]
  simp[yt]
def eqR' (a b:Rp):Bool:=(a.er==b.er)&&((a.rn==b.rn)&&((a.tk==b.tk)&&((a.ty==b.ty)&&((a.ep==b.ep)&&(a.tx==b.tx)))))
theorem eqA_rp (a b c d e:Int)(f:aq)(a' b' c' d' e':Int)(f':aq)(H:Hp):dC P 50 39 (.agg [.int .i64 a,.int .i64 b,.int .i64 c,.int .i64 d,.int .i64 e,.str f]) (.agg [.int .i64 a',.int .i64 b',.int .i64 c',.int .i64 d',.int .i64 e',.str f']) H=rR (fun z:Bool=>some z) [a==a',b==b',c==c',d==d',e==e',f==f']:=by kernel_rfl
theorem eqG_rp:Program.eqGuardType P P.depth 39=false:=by kernel_rfl
theorem eq_rp (a b:Rp)(H:Hp):gA P .eql 39 false (.agg (rpC a)) (.agg (rpC b))=true/\eA P .eql 39 (.agg (rpC a)) (.agg (rpC b)) H=some (.bool (eqR' a b)):=by
 constructor
 ·show (!(Program.eqGuardType P P.depth 39))=true
  rw[eqG_rp];rfl
 ·show (dC P 50 39 (.agg (rpC a)) (.agg (rpC b)) H).map (fun b=>AV.bool b)=_
  have h:dC P 50 39 (.agg (rpC a)) (.agg (rpC b)) H=_:=eqA_rp a.er a.rn a.tk a.ty a.ep a.tx b.er b.rn b.tk b.ty b.ep b.tx H
  rw[h,AP]
  simp[eqR']
theorem ne_rp (a b:Rp)(H:Hp):gA P .neq 39 false (.agg (rpC a)) (.agg (rpC b))=true/\eA P .neq 39 (.agg (rpC a)) (.agg (rpC b)) H=some (.bool (!(eqR' a b))):=by
 constructor
 ·show (!(Program.eqGuardType P P.depth 39))=true
  rw[eqG_rp];rfl
 ·show (dC P 50 39 (.agg (rpC a)) (.agg (rpC b)) H).map (fun b=>AV.bool (!b))=_
  have h:dC P 50 39 (.agg (rpC a)) (.agg (rpC b)) H=_:=eqA_rp a.er a.rn a.tk a.ty a.ep a.tx b.er b.rn b.tk b.ty b.ep b.tx H
  rw[h,AP]
  simp[eqR']
theorem eqE_refl (e:Ev):yt e e=true:=by simp[yt]
theorem eqR_refl (r:Rp):eqR' r r=true:=by simp[eqR']
theorem cm_len (c:Cm):(cmC c).length=9:=rfl
theorem heavyA_c (c:Cm)(H:Hp):∃ b H',cK (.func (.func 19) [] []) [.agg (cmC c)] H=some (.bool b,H')/\Out [] H H':=by
 have b1:bx 37 (.agg (cmC c)) H=some (H.next,al H (cmC c) 37 0):=iW (by rw[cm_len];omega)
 have o1:=aJ H (cmC c) 37 0
 have c1:=bo H (cmC c) 37 0
 generalize al H (cmC c) 37 0=H1 at *
 have k5:cellAt H1 H.next 6=some (.str c.nm):=c1.cellAt rfl
 have k6:cellAt H1 H.next 7=some (.str c.ky):=c1.cellAt rfl
 have k7:cellAt H1 H.next 8=some (.str c.dt):=c1.cellAt rfl
 cases d1:decide ((40:Int)<(c.nm.length:Int)) with
 | true=>
  refine⟨true,H1,Nl ?_,o1⟩
  unfold JL
  simp(disch:=first|exact zqz|fail)only[b1,k5,k6,k7,d1,ar,au,aj,ai,simprocAttr]
 | false=>
  cases d2:decide ((40:Int)<(c.ky.length:Int)) with
  | true=>
   refine⟨true,H1,Nl ?_,o1⟩
   unfold JL
   simp(disch:=first|exact zqz|fail)only[b1,k5,k6,k7,d1,d2,ar,au,aj,ai,simprocAttr]
  | false=>
   refine⟨decide ((950:Int)<(c.dt.length:Int)),H1,Nl ?_,o1⟩
   unfold JL
   simp(disch:=first|exact zqz|fail)only[b1,k5,k6,k7,d1,d2,ar,au,aj,ai,simprocAttr]
abbrev evA:Ev:=⟨1,0,0,0,0,[100],[],[97]⟩
abbrev cmA:Cm:=⟨2,0,0,0,0,0,[100],[],[]⟩
abbrev evB:Ev:=⟨2,1,0,0,0,[100],[],[]⟩
noncomputable abbrev fmA:Fm:=allM rW [evA]
theorem fmA_n:fmA.az.length=0:=by kernel_rfl
theorem fmA_B:(applyM fmA evB).2=0:=by kernel_rfl
theorem hold_c (H:Hp)(e:Ev)(r:Rp):∃ H3 H4,st 8 (.ptr H.next 0) (.agg (aG e)) (al (al H evz 26 0) rpz 39 0)=some H3/\st 6 (.ptr (H.next+1) 0) (.agg (rpC r)) H3=some H4/\Cs H4 H.next (aG e) 26 0/\Cs H4 (H.next+1) (rpC r) 39 0/\Out [] H H4:=by
 have o1:=aJ H evz 26 0
 have c1:=bo H evz 26 0
 have o2:=aJ (al H evz 26 0) rpz 39 0
 have c2:Cs (al (al H evz 26 0) rpz 39 0) (H.next+1) rpz 39 0:=bo (al H evz 26 0) rpz 39 0
 have c1':=c1.out o2 (by simp)
 generalize al (al H evz 26 0) rpz 39 0=H2 at *
 obtain⟨H3,s1,s2,s3,s4⟩:=fN c1' (n:=8) (vs:=aG e) rfl rfl (evC_one e)
 obtain⟨H4,t1,t2,t3,t4⟩:=fN (c2.out s3 (by simp)) (n:=6) (vs:=rpC r) rfl rfl (rpC_one r)
 exact⟨H3,H4,s1,t1,s2.out t3 (by simp),t2,((o1.trans o2).then s3 fun j hj => .inr (by rw[No] at hj;omega)).then t3 fun j hj => .inr (by rw[No] at hj;omega)⟩
theorem awakeA_c {H:Hp}(hg:Gl H):∃ H',cK (.func (.func 17) [] []) [] H=some (.bool true,H')/\Out [] H H':=by
 have kP:=hg.nx
 have o1:=aJ H (aG evA) 26 0
 have c1:=bo H (aG evA) 26 0
 have n1:(al H (aG evA) 26 0).next=H.next+1:=rfl
 have dq:aE H (aG evA) 26 0=some (H.next,al H (aG evA) 26 0):=gB (by rw[nf];omega)
 generalize al H (aG evA) 26 0=H1 at *
 have hr:RL H1 8 (.slice H.next 0 1 1 true 8) (evs [evA]):=⟨(c1.ow (n:=1) (es:=8) (by decide) rfl (fun v hv=>adY.1 (evC_one evA) v hv) true).rw,fun c hc=>by rw[No.1 hc];rfl⟩
 obtain⟨p,a,H2,i1,i2,i3,i4,i5⟩:=all_c (l:=[evA]) (by simp) (hg.out0 o1) (by omega) hr
 obtain⟨A,⟨H3,a1,a2⟩,R⟩:=of_c i2 (all_fi fi0) ((hg.out0 o1).out0 i3) cmA 4
 have hA:A=⟨evB,⟨0,1,0,0,0,[]⟩,true⟩:=by
  rw[R.key2 rfl,if_neg (fun h=>h.1 rfl)]
  show tryA fmA ⟨2,if (64:Int)<((fmA.az.length:Nat):Int)+1 then 64 else ((fmA.az.length:Nat):Int)+1,0,0,0,[100],[],[]⟩ (rpE 0)=_
  rw[fmA_n]
  show tryA fmA evB (rpE 0)=_
  unfold tryA
  rw[if_pos fmA_B]
 subst hA
 obtain⟨H4,H5,s1,s2,s3,s4,s5⟩:=hold_c H3 evB ⟨0,1,0,0,0,[]⟩
 have k8:av H5 H3.next 0 8=some (aG evB):=s3.av 8 0 (by rw[nf];omega)
 have k6:av H5 (H3.next+1) 0 6=some (rpC ⟨0,1,0,0,0,[]⟩):=s4.av 6 0 (by show 0+6<=6;omega)
 obtain⟨e1,e2⟩:=Wy evB evB H5
 obtain⟨e3,e4⟩:=eq_rp ⟨0,1,0,0,0,[]⟩ ⟨0,1,0,0,0,[]⟩ H5
 rw[eqE_refl] at e2
 rw[eqR_refl] at e4
 have hl:=Un ((i2.out0 a2).out0 s5)
 rw[fmA_n] at hl
 have z0:((((0:Nat):Int))==0)=true:=rfl
 dsimp only[aG,rpC] at s1 s2 k8 k6 e1 e2 e3 e4 a1 dq
 dsimp only[cmC] at a1
 refine⟨H5,an4 ?_,((o1.trans i3).trans a2).trans s5⟩
 unfold Mr
 simp(disch:=first|exact zqz|fail)only[dq,i1,a1,bI,s1,s2,k8,k6,e1,e2,e3,e4,hl,z0,lf,ar,au,aj,ai,simprocAttr]
def cms (l:List Cm):List (List AV):=l.map cmC
theorem cms_get {l:List Cm}{i:Nat}{c:Cm}(h:l[i]? = some c):(cms l)[i]? = some (cmC c):=by unfold cms;rw[adX,h];rfl
theorem cms_len {H:Hp}{x:AV}{l:List Cm}(h:RL H 9 x (cms l)):bq x=some (.int .i64 (l.length:Nat)):=by
 have:=h.len (by decide);unfold cms at this;rwa[adV] at this
theorem good_of {f:Fm}{e:Ev}(h:(applyM f e).2=0):uW e=true:=by
 cases hg:uW e with
 | true=>rfl
 | false=>unfold applyM at h;rw[hg,if_neg (by simp)] at h;exact absurd (show (1:Int)=0 from h) (by decide)
theorem takes_loop {p:Nat}{x:AV}{l:List Cm}{ep:Int}(hl:l.length<=1000):∀ (r:List Cm) (i:Nat) (H:Hp) (a:FA) (f:Fm),i<=l.length->l.drop i=r->RL H 9 x (cms l)->(∀ j∈ak x,j∉own p a)->FL H p a f->FI f->Gl H->
  (∃ H',∀ j8:K.Fn 0,BR JN GO cK j8 x (.int .i64 ep) (.ptr p 0) (.int .i64 (i:Nat)) H=some (.bool true,H'))\/∃ H',∀ j8:K.Fn 0,BR JN GO cK j8 x (.int .i64 ep) (.ptr p 0) (.int .i64 (i:Nat)) H=j8 H'
 | [],i,H,a,f,hi,h,hx,hd,hF,hI,hg=>by
  obtain rfl:=drop_nil hi h
  have nu:=cms_len hx
  refine .inr ⟨H,fun j8 => ?_⟩
  rw[zj]
  simp only[bl_outriderlaw20_AdmitTakes,nu,fZ,aj,ai,simprocAttr]
 | c::r,i,H,a,f,hi,h,hx,hd,hF,hI,hg=>by
  obtain⟨h1,h2,h3⟩:=gy h
  have es:=gq h1 (by omega)
  have nu:=cms_len hx
  obtain⟨b,o,q1,q2,q3,q4,q5⟩:=hx.at (by decide) (cms_get h2)
  obtain⟨v,H1,u1,u2⟩:=heavyA_c c H
  cases v with
  | true=>
   refine .inl ⟨H1,fun j8 => ?_⟩
   rw[zj]
   simp(disch:=first|exact zqz|fail)only[bl_outriderlaw20_AdmitTakes,nu,bH h1,q1,q4,u1,ar,au,aj,ai,simprocAttr]
  | false=>
   have jN:=hx.out0 u2
   have hF1:=hF.out0 u2
   have uN:=hg.out0 u2
   have w4:av H1 b o 9=some (cmC c):=(u2.av q3 (by simp)).trans q4
   obtain⟨⟨e,rp,put⟩,⟨H2,a1,a2⟩,R⟩:=of_c hF1 hI uN c ep
   dsimp only at a1
   obtain⟨H3,H4,s1,s2,s3,s4,s5⟩:=hold_c H2 e rp
   have k8:av H4 H2.next 0 8=some (aG e):=s3.av 8 0 (by rw[nf];omega)
   have k6:av H4 (H2.next+1) 0 6=some (rpC rp):=s4.av 6 0 (by show 0+6<=6;omega)
   have k0:cellAt H4 (H2.next+1) 0=some (.int .i64 rp.er):=s4.cellAt rfl
   have hx4:=(jN.out0 a2).out0 s5
   have hF4:=(hF1.out0 a2).out0 s5
   have hg4:=(uN.out0 a2).out0 s5
   cases put with
   | true=>
    obtain⟨y1,y2⟩:=R.yes rfl
    dsimp only at y1 y2
    have y3:=good_of y2
    have b0:(rp.er != 0)=false:=by simp[y1]
    have b1:((applyM f e).2 != 0)=false:=by simp[y2]
    obtain⟨H5,g1,g2⟩:=ab1 e H4
    rw[y3] at g1
    have k8':av H5 H2.next 0 8=some (aG e):=(g2.av s3.1 (by simp)).trans k8
    obtain⟨a',H6,w1,w2,w3⟩:=apply_c (hF4.out0 g2) (hg4.out0 g2) hI.ok e
    have hx5:=hx4.out0 g2
    have dH:=hx5.1.lt
    rcases takes_loop (ep:=ep) hl r (i+1) H6 a' (applyM f e).1 h1 h3 (hx5.out w3.o fun j hj z=>hd j hj z) (fun j hj z=>(w3.w j z).elim (hd j hj) fun z=>by have:=dH j hj;omega) w2 (apply_fi hI e) ((hg4.out0 g2).out w3.o hF.lo) with⟨H',i1⟩ | ⟨H',i1⟩
    ·refine .inl ⟨H',fun j8 => ?_⟩
     rw[zj]
     simp(disch:=first|exact zqz|fail)only[bl_outriderlaw20_AdmitTakes,nu,bH h1,q1,q4,u1,w4,a1,bI,s1,s2,k8,k0,b0,g1,k8',w1,b1,es,i1,ar,au,aj,ai,simprocAttr]
    ·refine .inr ⟨H',fun j8 => ?_⟩
     rw[zj]
     simp(disch:=first|exact zqz|fail)only[bl_outriderlaw20_AdmitTakes,nu,bH h1,q1,q4,u1,w4,a1,bI,s1,s2,k8,k0,b0,g1,k8',w1,b1,es,i1,ar,au,aj,ai,simprocAttr]
   | false=>
    obtain⟨y1,y2⟩:=R.no rfl
    dsimp only at y1 y2
    subst y1
    obtain⟨e1,e2⟩:=ne_ev evZ evZ H4
    rw[eqE_refl] at e2
    have ih:=takes_loop (ep:=ep) hl r (i+1) H4 a f h1 h3 hx4 hd hF4 hI hg4
    by_cases h0:rp.er=0
    ·have b0:(rp.er != 0)=false:=by simp[h0]
     dsimp only[aG] at s1 k8 e1 e2 a1
     rcases ih with⟨H',i1⟩ | ⟨H',i1⟩
     ·refine .inl ⟨H',fun j8 => ?_⟩
      rw[zj]
      simp(disch:=first|exact zqz|fail)only[bl_outriderlaw20_AdmitTakes,nu,bH h1,q1,q4,u1,w4,a1,bI,s1,s2,k8,k0,b0,e1,e2,es,i1,lf,ar,au,aj,ai,simprocAttr]
     ·refine .inr ⟨H',fun j8 => ?_⟩
      rw[zj]
      simp(disch:=first|exact zqz|fail)only[bl_outriderlaw20_AdmitTakes,nu,bH h1,q1,q4,u1,w4,a1,bI,s1,s2,k8,k0,b0,e1,e2,es,i1,lf,ar,au,aj,ai,simprocAttr]
    ·have b0:(rp.er != 0)=true:=by simp[h0]
     have y3:=y2 h0
     obtain⟨e3,e4⟩:=ne_rp rp (rpE rp.er) H4
     rw[show eqR' rp (rpE rp.er)=true by rw[<-y3];exact eqR_refl rp] at e4
     dsimp only[rpC] at s2 k6 e3 e4
     dsimp only[aG,rpC] at s1 k8 e1 e2 a1
     rcases ih with⟨H',i1⟩ | ⟨H',i1⟩
     ·refine .inl ⟨H',fun j8 => ?_⟩
      rw[zj]
      simp(disch:=first|exact zqz|fail)only[bl_outriderlaw20_AdmitTakes,nu,bH h1,q1,q4,u1,w4,a1,bI,s1,s2,k8,k6,k0,b0,e1,e2,e3,e4,es,i1,lf,ar,au,aj,ai,simprocAttr]
     ·refine .inr ⟨H',fun j8 => ?_⟩
      rw[zj]
      simp(disch:=first|exact zqz|fail)only[bl_outriderlaw20_AdmitTakes,nu,bH h1,q1,q4,u1,w4,a1,bI,s1,s2,k8,k6,k0,b0,e1,e2,e3,e4,es,i1,lf,ar,au,aj,ai,simprocAttr]
theorem admitTakes_c {x:AV}{l:List Cm}{ep:Int}{H:Hp}(hg:Gl H)(hx:RL H 9 x (cms l)):∃ H',cK (.func (.func 4) [] []) [x,.int .i64 ep] H=some (.bool true,H'):=by
 obtain⟨H1,a1,a2⟩:=awakeA_c hg
 have nu:=cms_len hx
 by_cases lg:(50:Int)<(l.length:Nat)
 ·have d:decide ((50:Int)<(l.length:Nat))=true:=decide_eq_true lg
  refine⟨H1,abR ?_⟩
  unfold LD
  simp(disch:=first|exact zqz|fail)only[a1,nu,d,ar,au,aj,ai,simprocAttr]
 ·have d:decide ((50:Int)<(l.length:Nat))=false:=decide_eq_false lg
  have dH:=(hx.out0 a2).1.lt
  obtain⟨p,a,H2,n1,n2,n3,n4,n5⟩:=Mv (hg.out0 a2).nx
  rcases takes_loop (ep:=ep) (by omega) l 0 H2 a rW (ac4 _) ada ((hx.out0 a2).out0 n3) (fun j hj z=>by have:=dH j hj;have:=n4 j z;omega) n2 fi0 ((hg.out0 a2).out0 n3) with⟨H',i1⟩ | ⟨H',i1⟩ <;>
   rw[show (((0:Nat):Int))=0 from rfl] at i1<;>refine⟨H',abR ?_⟩<;>unfold LD <;>
   simp(disch:=first|exact zqz|fail)only[a1,nu,d,n1,i1,ar,au,aj,ai,simprocAttr]
abbrev CmTy:Ty := .struct 9 [(0,1,.int .i64),(1,1,.int .i64),(2,1,.int .i64),(3,1,.int .i64),(4,1,.int .i64),(5,1,.int .i64),(6,1,.str),(7,1,.str),(8,1,.str)]
theorem nine {l:List AV}(h:l.length=9){a b c d e f g i j:AV}(h0:(l.drop 0).take 1=[a])(h1:(l.drop 1).take 1=[b])(h2:(l.drop 2).take 1=[c])(h3:(l.drop 3).take 1=[d])(h4:(l.drop 4).take 1=[e])(h5:(l.drop 5).take 1=[f])(h6:(l.drop 6).take 1=[g])(h7:(l.drop 7).take 1=[i])(h8:(l.drop 8).take 1=[j]):l=[a,b,c,d,e,f,g,i,j]:=by
 match l,h with
 | [x0,x1,x2,x3,x4,x5,x6,x7,x8],_=>
  simp at h0 h1 h2 h3 h4 h5 h6 h7 h8
  simp[h0,h1,h2,h3,h4,h5,h6,h7,h8]
theorem cm_of {H:Hp}{l:List AV}{d:D}(hl:l.length=9)(h:Is H CmTy l d):∃ c:Cm,l=cmC c/\True:=by
 cases h with
 | @struct _ _ _ ds _ hn hd=>
  have at':∀ j,j<9->∃ d,ds[j]? = some d:=fun j hj=>⟨_,aau (by rw[hn];exact hj)⟩
  obtain⟨d0,e0⟩:=at' 0 (by omega)
  obtain⟨d1,e1⟩:=at' 1 (by omega)
  obtain⟨d2,e2⟩:=at' 2 (by omega)
  obtain⟨d3,e3⟩:=at' 3 (by omega)
  obtain⟨d4,e4⟩:=at' 4 (by omega)
  obtain⟨d5,e5⟩:=at' 5 (by omega)
  obtain⟨d6,e6⟩:=at' 6 (by omega)
  obtain⟨d7,e7⟩:=at' 7 (by omega)
  obtain⟨d8,e8⟩:=at' 8 (by omega)
  obtain⟨z0,f0,_⟩:=is_i (hd 0 _ _ rfl e0)
  obtain⟨z1,f1,_⟩:=is_i (hd 1 _ _ rfl e1)
  obtain⟨z2,f2,_⟩:=is_i (hd 2 _ _ rfl e2)
  obtain⟨z3,f3,_⟩:=is_i (hd 3 _ _ rfl e3)
  obtain⟨z4,f4,_⟩:=is_i (hd 4 _ _ rfl e4)
  obtain⟨z5,f5,_⟩:=is_i (hd 5 _ _ rfl e5)
  obtain⟨s6,f6,_⟩:=is_s (hd 6 _ _ rfl e6)
  obtain⟨s7,f7,_⟩:=is_s (hd 7 _ _ rfl e7)
  obtain⟨s8,f8,_⟩:=is_s (hd 8 _ _ rfl e8)
  exact⟨⟨z0,z1,z2,z3,z4,z5,s6,s7,s8⟩,nine hl f0 f1 f2 f3 f4 f5 f6 f7 f8,trivial⟩
theorem cms_of {H:Hp}{x:AV}{d:D}(h:Is H (.slice 9 CmTy) [x] d):∃ l:List Cm,RL H 9 x (cms l)/\∀ c∈l,True:=
 row_of cmC (fun _=>rfl) (fun _=>True) (fun l d hl hi=>cm_of hl hi) (by decide) h
theorem takes_top {H:Hp}{aS:List AV}{ds:List D}(h:Ce H [.slice 9 CmTy,.int .i64] aS ds)(hT:DE H pf)(hn:11<=H.next):∃ H',cK (.func (.func 4) [] []) aS H=some (.bool true,H'):=by
 cases h with
 | cons h0 h=>
 cases h with
 | cons h1 h=>
 cases h
 obtain⟨l,hl,_⟩:=cms_of (agq h0)
 obtain⟨z,rfl,_⟩:=aho h1
 exact admitTakes_c (Gl.of hT hn) hl
end Go.Proofs.YtodfajmihkagnaaGreatDoor.DfK
namespace Go.Proofs.YtodfajmihkagnaaGreatDoor.Hand
open Go
theorem size_open {P:Program}{w:World}(h:w.ShapedOpen P){g:Nat}(hg:g+1=P.globals.size)(hr:(((begin P (fun _ _=>0) default).world.heap[g]?).bind Obj.row?).isSome=true):P.globals.size<=w.heap.size:=by
 obtain⟨⟨zero,t⟩,hr⟩:=ahU.1 hr
 obtain⟨cs,hc,_⟩:=h.1 g zero t (by omega) hr
 have:=(acH.1 hc).1
 omega
variable {H:Type}{enc:TypeId × Value->H}
theorem handed {a:Assume}{C:Checked}{os:Os}{f:FuncId}{fn:Func}{s:ChangeSpec}{conds:List PathCond}{apart fresh handsOn again:Bool}{X:World->Array Value->Prop}{g:Nat}
  (hg:g+1=C.prog.globals.size) (hr:(((begin C.prog (fun _ _=>0) default).world.heap[g]?).bind Obj.row?).isSome=true)
  (hX:∀ (w w':World) (args:Array Value),w.heap=w'.heap->X w args->X w' args)
  (own:ownKnob C.prog.godebug=none) (started:os.Started) (noInit:C.prog.inits.idxOf? f=none) (vt:C.prog.funcs[f]? = some fn)
  (witness:∃ (w:World) (tape:Tape) (i:Input),w.os=os/\(w.forCall tape i).Shaped C.prog/\i.vars=[]/\Input.okWide C.prog (w.forCall tape i) .any w.heap.size f i/\
   ((s.pre enc C.prog fn conds apart (w.forCall tape i).memory i.args/\X (w.forCall tape i).memory i.args)/\sizedMet enc C.prog fn (OpenSpec.ofChange s) apart (w.forCall tape i).memory i.args)/\a.holds C.prog (lone (Frame.enter C.prog f i.args .normal) [] (w.forCall tape i)))
  (contract:∀ (W:World) (base:Nat) (args:Array Value) (ds gs:List (DataW H)) (before:List MemPlace),C.prog.globals.size<=W.heap.size->
   (∀ (j:Nat) t v,fn.params[j]? = some t->args[j]? = some v->Value.okWide C.prog W .any base t v)->
   DataW.Whole enc C.prog fn.params.toList s.vars apart W args.toList ds gs before->
   conds.all (PathCond.test C.prog ⟨fn.params.toList,ds,s.plain.varTypes C.prog,gs⟩)=true->
   (DataW.weightsEach C.prog (fn.params.toList++s.plain.varTypes C.prog) (ds++gs)).all (·<=reachBytes)=true->X W args->
   a.holds C.prog (lone (Frame.enter C.prog f args .normal) [] W)->
   Calls C.prog f args W fun e W'=>∃ v,e = .returned v/\s.post enc C.prog fn apart fresh handsOn again W args v W') :
  ReturnsInHanded a C os f .any (fun w args=>(s.pre enc C.prog fn conds apart w args/\X w args)/\sizedMet enc C.prog fn (OpenSpec.ofChange s) apart w args) (s.post enc C.prog fn apart fresh handsOn again):=
 returnsInHanded_of_calls own started noInit witness fun w tape i _ oz _ wA hpre hholds=>by
  obtain⟨_,_,_,fn',hfn',_,_,_,_,Az⟩:=wA
  obtain rfl:fn'=fn:=adw (hfn'.symm.trans vt)
  obtain⟨⟨⟨ds,gs,before,hw,hc⟩,hx⟩,hz⟩:=hpre
  refine (contract (w.forCall tape i) w.heap.size i.args ds gs before (size_open oz hg hr) Az (DataW.Whole.of_heap (w':=w.forCall tape i) (by rfl) hw) hc (hz.weights hw) (hX _ _ _ (by rfl) hx) hholds).mono fun e W' hp => ?_
  obtain⟨v,rfl,hp⟩:=hp
  exact ChangeSpec.post_blind hp
end Go.Proofs.YtodfajmihkagnaaGreatDoor.Hand
