/- Laws that the proof uses. -/
import Derived.Test.YtodfajmihkagnaaGreatDoorDfD6
import Derived.Test.YtodfajmihkagnaaGreatDoorDfKb
import Derived.Handed
import Derived.Test.YtodfajmihkagnaaGreatDoorProg
set_option linter.unusedVariables false
set_option linter.unusedSimpArgs false
set_option maxRecDepth 100000
set_option maxHeartbeats 4000000
namespace Go.Proofs.YtodfajmihkagnaaGreatDoor.DfK
open Go Am Am.K kb mc jR nU
theorem TM {text:aq}{H:Hp}(hg:Gl H):∃ dx xs H',cK (.func (.func 53) [] []) [.str text] H=some (.tuple [dv dx,.int .i64 (aK text).2],H')/\RD H' dx xs (aK text).1/\Out [] H H'/\∀ j∈kX dx xs,H.next<=j:=by
 by_cases hl:text.length<=4294967296
 ·exact akl hg hl
 have o1:=aI H [.ah] 72 0
 have d:decide ((1024:Int)<(text.length:Int))=true:=decide_eq_true (by omega)
 have aC:st 1 (.ptr H.next 0) (.agg [.ah]) (al H [.ah] 72 0)=some (al H [.ah] 72 0):=iI rfl rfl rfl (by decide) rfl
 unfold aK
 rw[if_pos (by omega)]
 refine⟨.ah,[],al H [.ah] 72 0,EK ?_,RD.nil _,o1,fun j hj=>by cases hj⟩
 unfold AB
 simp(disch:=first|exact zqz|fail)only[d,aC,av,au,ai,aj,simprocAttr]
theorem apZ (i:Nat):same (.map i) (.map i)=true:=by simp[same,oz,agQ]
def ou:Fm:=⟨0,[],[],[],[]⟩
theorem P3 {H:Hp}(hn:11<=H.next):∃ p a H',cK (.func (.func 18) [] []) [] H=some (.ptr p 0,H')/\FL H' p a ou/\Out [] H H'/\(∀ j∈own p a,H.next<=j)/\a.ras=[]:=by
 obtain⟨H1,m1,m2,m3,m4⟩:=IG H
 obtain⟨kp,km,H2,k1,k2,k3,k4,k5⟩:=al2 H1
 have jS:=k2.lt
 have hf:fl [(.int .i64 0),.ah,.jk,.ah,.fD] [(2,1,.map H.next),(4,1,.ptr kp 0)]=some (fv ⟨H.next,kp,km,.ah,.ah,.ah,[]⟩ ou):=rfl
 have aW:bx 67 (.agg (fv ⟨H.next,kp,km,.ah,.ah,.ah,[]⟩ ou)) H2=some (H2.next,al H2 (fv ⟨H.next,kp,km,.ah,.ah,.ah,[]⟩ ou) 67 0):=ji (by simp)
 have o3:=aI H2 (fv ⟨H.next,kp,km,.ah,.ah,.ah,[]⟩ ou) 67 0
 have c3:=bg H2 (fv ⟨H.next,kp,km,.ah,.ah,.ah,[]⟩ ou) 67 0
 have l1:=jS kp (.head _)
 have l2:=jS km (.tail _ (.head _))
 have n2:=k3.1
 have KP:∀ j∈own H2.next ⟨H.next,kp,km,.ah,.ah,.ah,[]⟩,H.next<=j:=by
  intro j hj
  simp[own,gV,ak] at hj
  omega
 refine⟨H2.next,⟨H.next,kp,km,.ah,.ah,.ah,[]⟩,al H2 (fv ⟨H.next,kp,km,.ah,.ah,.ah,[]⟩ ou) 67 0,aco ?_,⟨c3,.nil,⟨[],0,rfl,(m2.out k3 (by simp)).out o3 (by simp)⟩,by simp[ou],OL.nil _ _ _,fun i r x hr=>by simp at hr,rfl,k2.out0 o3,?_,fun j hj => ?_,fun j hj=>by simp[da] at hj⟩,(m3.trans k3).trans o3,KP,rfl⟩
 ·unfold Vn
  simp only[m1,k1,hf,aW,ai,aj,simprocAttr]
 ·have JE:=k2.d1
  simp[gV,Dj,ak]
  omega
 ·have:=KP j hj;omega
theorem FL.Bg {H:Hp}{p:Nat}{a:FA}{f:Fm}(h:FL H p a f):bq a.rx=some (.int .i64 (f.az.length:Nat)):=by
 have:=h.r.rl.len (by decide)
 rw[agd,h.len,Nat.min_self] at this
 exact this
theorem XK {H:Hp}{p:Nat}{a:FA}{f:Fm}(h:FL H p a f):cK (.func (.func 29) [] []) [.ptr p 0] H=some (.int .i64 (f.az.length:Nat),H):=by
 have k3:cellAt H p 3=some a.rx:=h.c.cellAt rfl
 refine aoP ?_
 unfold X0
 simp(disch:=first|exact zqz|fail)only[k3,h.Bg,av,au,ai,aj,simprocAttr]
theorem aaz {H:Hp}{p:Nat}{a:FA}{f:Fm}(h:FL H p a f)(s t:aq):∃ H',cK (.func (.func 45) [] []) [.ptr p 0,.str s,.str t] H=some (.tuple [.int .i64 ((getK f.ks (s,t)).getD 0),.bool (getK f.ks (s,t)).isSome],H')/\Out [] H H':=by
 have k4:cellAt H p 4=some (.ptr a.kp 0):=h.c.cellAt rfl
 have hf:fl [(.str []),(.str [])] [(0,1,.str s),(1,1,.str t)]=some (cj (s,t)):=rfl
 obtain⟨H',g1,g2⟩:=ajT h.k (s,t)
 refine⟨H',aiC ?_,g2⟩
 unfold aaT
 simp(disch:=first|exact zqz|fail)only[k4,hf,g1,av,au,ai,aj,simprocAttr]
noncomputable def PH (f:Fm)(s:aq):List Tk:=match jq f.txs s with | none=>[] | some t=>(aK t).1
theorem anW {H:Hp}{p:Nat}{a:FA}{f:Fm}(h:FL H p a f)(hg:Gl H)(s:aq) :
  ∃ dx xs H',cK (.func (.func 56) [] []) [.ptr p 0,.str s] H=some (.tuple [dv dx,.bool (jq f.txs s).isSome],H')/\RD H' dx xs (PH f s)/\Out [] H H'/\∀ j∈kX dx xs,H.next<=j:=by
 have o1:=aI H [.ah] 72 0
 have c1:=bg H [.ah] 72 0
 have n1:(al H [.ah] 72 0).next=H.next+1:=rfl
 generalize di:al H [.ah] 72 0=H1 at *
 have h1:=h.out0 o1
 have k2:cellAt H1 p 2=some (.map a.tm):=h1.c.cellAt rfl
 have lk:=XL h1.t h1.rM s true
 unfold PH
 cases hs:jq f.txs s with
 | none=>
  rw[hs] at lk
  obtain⟨H2,t1,t2,t3,t4⟩:=fx (n:=1) (vs:=[.ah]) c1 rfl rfl rfl
  have k3:ar H2 H.next 0 1=some [.ah]:=t2.ar 1 0 (by simp)
  refine⟨.ah,[],H2,YK ?_,RD.nil _,gi o1 t3 (jX (aaC _)),fun j hj=>by cases hj⟩
  unfold L4
  simp(disch:=first|exact zqz|fail)only[di,k2,lk,Option.getD_none,ae6,cond_true,t1,k3,av,au,ai,aj,simprocAttr]
 | some t=>
  rw[hs] at lk
  obtain⟨dx,xs,H2,p1,p2,p3,p4⟩:=TM (text:=t) (hg.out0 o1)
  have gy:=p2.row.one
  have n2:=p3.nx
  have o3:=aI H2 [dx] 72 0
  have c3:=bg H2 [dx] 72 0
  have aC:st 1 (.ptr H2.next 0) (.agg [dx]) (al H2 [.ah] 72 0)=some (al H2 [dx] 72 0):=iI (by simp[gy]) rfl rfl (by decide) rfl
  generalize kF:al H2 [dx] 72 0=H3 at *
  have k4:ar H3 H2.next 0 1=some [dx]:=c3.ar 1 0 (by simp)
  have cR:=(c1.out p3 (by simp)).out o3 (by simp)
  obtain⟨H4,t1,t2,t3,t4⟩:=fx (n:=1) (vs:=[dx]) cR rfl rfl (by simp[gy])
  have k5:ar H4 H.next 0 1=some [dx]:=t2.ar 1 0 (by simp)
  refine⟨dx,xs,H4,YK ?_,((p2.out0 o3).out t3 fun j hj=>by rw[No];have:=p4 j hj;omega),gi ((o1.trans p3).trans o3) t3 (jX (aaC _)),fun j hj=>by have:=p4 j hj;omega⟩
  unfold L4
  simp(disch:=first|exact zqz|fail)only[di,k2,lk,afG,afV,cond_true,p1,aC,k4,t1,k5,av,au,ai,aj,simprocAttr]
noncomputable def DD (f:Fm)(s t:aq):Fm × Int:=
 if (jq f.txs s).isSome then (f,5) else if (aK t).2≠0 then (f,(aK t).2) else if f.nms.length=16 then (f,6) else
  ({ f with nms:=f.nms++[s],txs:=f.txs++[(s,oZ (aK t).1)] },0)
theorem FSt.end {H H1 H2:Hp}{p:Nat}{a b:FA}(h:Out [] H H1)(k:FSt H1 H2 p a b):FSt H H2 p a b:=(FSt.same h p a).trans k
theorem anb {H:Hp}{p:Nat}{a:FA}{f:Fm}(h:FL H p a f)(hg:Gl H)(hn:f.nms.length<=16)(s t:aq) :
  ∃ a' H',cK (.func (.func 40) [] []) [.ptr p 0,.str s,.str t] H=some (.int .i64 (DD f s t).2,H')/\FL H' p a' (DD f s t).1/\FSt H H' p a a':=by
 have k2:cellAt H p 2=some (.map a.tm):=h.c.cellAt rfl
 have lk:=XL h.t h.rM s true
 unfold DD
 cases hs:jq f.txs s with
 | some t0=>
  rw[hs] at lk
  rw[if_pos (show (some t0).isSome=true from rfl)]
  refine⟨a,H,JK ?_,h,FSt.same (Out.refl _ _) p a⟩
  unfold BS
  simp(disch:=first|exact zqz|fail)only[k2,lk,afG,afV,cond_true,av,au,ai,aj,simprocAttr]
 | none=>
  rw[hs] at lk
  rw[if_neg (by simp)]
  obtain⟨dx,xs,H2,p1,p2,p3,p4⟩:=TM (text:=t) hg
  have gy:=p2.row.one
  have o3:=aI H2 [dx] 72 0
  have c3:=bg H2 [dx] 72 0
  have n3:(al H2 [dx] 72 0).next=H2.next+1:=rfl
  have aC:st 1 (.ptr H2.next 0) (.agg [dx]) (al H2 [.ah] 72 0)=some (al H2 [dx] 72 0):=iI (by simp[gy]) rfl rfl (by decide) rfl
  have DW:st 1 (.ptr H2.next 0) (dv dx) (al H2 [.ah] 72 0)=some (al H2 [dx] 72 0):=aC
  generalize kF:al H2 [dx] 72 0=H3 at *
  have gS:=p3.trans o3
  have h3:=h.out0 gS
  by_cases hp:(aK t).2=0
  ·have dp:((aK t).2 != 0)=false:=by simp[hp]
   rw[if_neg (by simp[hp])]
   have k1:cellAt H3 p 1=some a.nx:=h3.c.cellAt rfl
   have eS:=h3.n.rw.mQ
   rw[iZ] at eS
   by_cases bD:f.nms.length=16
   ·have d16:(((f.nms.length:Nat):Int)==16)=true:=by simp[bD]
    rw[if_pos bD]
    refine⟨a,H3,JK ?_,h3,FSt.same gS p a⟩
    unfold BS
    simp(disch:=first|exact zqz|fail)only[k2,lk,Option.getD_none,ae6,cond_true,p1,aC,DW,dp,k1,eS,d16,av,au,ai,aj,simprocAttr]
   ·have d16:(((f.nms.length:Nat):Int)==16)=false:=by rw[beq_eq_false_iff_ne];omega
    rw[if_neg bD]
    obtain⟨fY,H4,H5,a1,a2,a3,a4,a5⟩:=h3.aok s (by omega)
    have HR:=a1 H3.next rfl
    have hf:fl [(.str [])] [(0,1,.str s)]=some [.str s]:=rfl
    have dL:aE H3 [.str s] 9 0=some (H3.next,al H3 [.str s] 9 0):=gk (by simp)
    have alq:H2.next∉own p a:=fun q=>by have:=h.lt _ q;have:=p3.1;omega
    have c5:Cs H5 H2.next [dx] 72 0:=c3.out a4.o alq
    have k5:ar H5 H2.next 0 1=some [dx]:=c5.ar 1 0 (by simp)
    have kR:=To hp
    have ahW:RD H5 dx xs (aK t).1:=(p2.out0 o3).out a4.o fun j hj q=>by have:=p4 j hj;have:=h.lt _ q;omega
    have hg5:Gl H5:=(hg.out0 gS).out a4.o h.lo
    obtain⟨H6,s1,s2⟩:=aiE hg5 kR.2.1 kR.2.2.1 kR.2.2.2.1 kR.1 ahW
    have h6:=a3.out0 s2
    obtain⟨H7,u1,u2,u3⟩:=h6.ah4 (s:=s) (by simpa using hs) (oZ (aK t).1)
    have k6:cellAt H5 p 2=some (.map a.tm):=a3.c.cellAt rfl
    have k7:cellAt H6 p 2=some (.map a.tm):=h6.c.cellAt rfl
    refine⟨{ a with nx:=fY },H7,JK ?_,u2,FSt.end gS (a4.trans ((FSt.same s2 p _).trans u3))⟩
    unfold BS
    simp(disch:=first|exact zqz|fail)only[k2,lk,Option.getD_none,ae6,cond_true,p1,aC,DW,dp,k1,eS,d16,hf,dL,HR,a2,k5,k6,k7,s1,u1,lT (apZ _),av,au,ai,aj,simprocAttr]
  ·have dp:((aK t).2 != 0)=true:=by simp[hp]
   rw[if_pos hp]
   refine⟨a,H3,JK ?_,h3,FSt.same gS p a⟩
   unfold BS
   simp(disch:=first|exact zqz|fail)only[k2,lk,Option.getD_none,ae6,cond_true,p1,aC,DW,dp,av,au,ai,aj,simprocAttr]
theorem parse_bad {text:aq}(h:(aK text).2≠0):(aK text).1=[]:=by
 unfold aK at h ⊢
 by_cases h1:1024<text.length
 ·rw[if_pos h1]
 ·rw[if_neg h1] at h ⊢
  cases qL:nC ((cq 59 text).map nV) (cq 59 text) with
  | none=>rfl
  | some ts=>
   rw[qL] at h
   by_cases h2:iY ts=0
   ·simp only[if_pos h2] at h;exact absurd rfl h
   ·simp only[if_neg h2]
theorem parse_bd (text:aq):(aK text).1.length<=16/\∀ t∈(aK text).1,t.after.length<=16:=by
 by_cases h:(aK text).2=0
 ·obtain⟨g1,g2,g3,g4,g5,g6⟩:=L9 h
  exact⟨g3,Yg g3 g4⟩
 ·rw[parse_bad h]
  exact⟨acD _,fun t ht=>by cases ht⟩
noncomputable def startM (f:Fm)(e:Ev):Fm × Int:=
 match jq f.txs e.nm with
 | none=>(f,4)
 | some t=>if e.ky≠[]/\(getK f.ks (e.nm,e.ky)).isSome=true then (f,5) else if f.az.length=64 then (f,6) else if e.rn≠(f.az.length:Int)+1 then (f,1) else
  if (bL (aK t).1).2≠0 then (f,(bL (aK t).1).2) else
  ({ f with az:=f.az++[((bL (aK t).1).1,e.nm)],ks:=if e.ky=[] then f.ks else f.ks++[((e.nm,e.ky),e.rn)] },0)
theorem start_c {H:Hp}{p:Nat}{a:FA}{f:Fm}(h:FL H p a f)(hg:Gl H)(hk:f.ks.length<128)(hr:f.az.length<=64)(e:Ev) :
  ∃ a' H',cK (.func (.func 41) [] []) [.ptr p 0,.agg (aG e)] H=some (.int .i64 (startM f e).2,H')/\FL H' p a' (startM f e).1/\FSt H H' p a a':=by
 have aW:bx 26 (.agg (aG e)) H=some (H.next,al H (aG e) 26 0):=ji (by rw[mD];omega)
 have o1:=aI H (aG e) 26 0
 have c1:=bg H (aG e) 26 0
 have n1:(al H (aG e) 26 0).next=H.next+1:=rfl
 generalize al H (aG e) 26 0=H1 at *
 have h1:=h.out0 o1
 have E1:cellAt H1 H.next 1=some (.int .i64 e.rn):=c1.cellAt rfl
 have E5:cellAt H1 H.next 5=some (.str e.nm):=c1.cellAt rfl
 have E6:cellAt H1 H.next 6=some (.str e.ky):=c1.cellAt rfl
 obtain⟨dx,xs,H2,p1,p2,p3,p4⟩:=anW h1 (hg.out0 o1) e.nm
 have gy:=p2.row.one
 have o3:=aI H2 [dx] 72 0
 have c3:=bg H2 [dx] 72 0
 have n3:(al H2 [dx] 72 0).next=H2.next+1:=rfl
 have aC:st 1 (.ptr H2.next 0) (dv dx) (al H2 [.ah] 72 0)=some (al H2 [dx] 72 0):=iI (by simp[gy]) rfl rfl (by decide) rfl
 generalize kF:al H2 [dx] 72 0=H3 at *
 have h3:=(h1.out0 p3).out0 o3
 have gS:=(o1.trans p3).trans o3
 have cE3:=(c1.out p3 (by simp)).out o3 (by simp)
 obtain⟨H4,q1,q2⟩:=aaz h3 e.nm e.ky
 have h4:=h3.out0 q2
 have mF:=gS.trans q2
 have cE4:=cE3.out q2 (by simp)
 have F5:cellAt H3 H.next 5=some (.str e.nm):=cE3.cellAt rfl
 have F6:cellAt H3 H.next 6=some (.str e.ky):=cE3.cellAt rfl
 have G1:cellAt H4 H.next 1=some (.int .i64 e.rn):=cE4.cellAt rfl
 have G6:cellAt H4 H.next 6=some (.str e.ky):=cE4.cellAt rfl
 have k3:cellAt H4 p 3=some a.rx:=h4.c.cellAt rfl
 have ff:=h4.Bg
 unfold startM
 unfold PH at p2
 cases hs:jq f.txs e.nm with
 | none=>
  rw[hs] at p1
  refine⟨a,H4,vJ ?_,h4,FSt.same mF p a⟩
  unfold sV
  simp(disch:=first|exact zqz|fail)only[aW,E5,p1,aC,F5,F6,q1,ae6,av,au,ai,aj,simprocAttr]
 | some t=>
  rw[hs] at p1 p2
  simp only at p2 ⊢
  by_cases hky:e.ky=[]
  ·have b1:(!(e.ky==[]))=false:=by simp[hky]
   rw[if_neg (by simp[hky])]
   by_cases sW:f.az.length=64
   ·have b2:(((f.az.length:Nat):Int)==64)=true:=by simp[sW]
    rw[if_pos sW]
    refine⟨a,H4,vJ ?_,h4,FSt.same mF p a⟩
    unfold sV
    simp(disch:=first|exact zqz|fail)only[aW,E5,p1,aC,F5,F6,q1,afV,G6,b1,k3,ff,b2,av,au,ai,aj,simprocAttr]
   ·have b2:(((f.az.length:Nat):Int)==64)=false:=by rw[beq_eq_false_iff_ne];omega
    rw[if_neg sW]
    have hw:IntKind.wrap .i64 (((f.az.length:Nat):Int)+1)=((f.az.length:Nat):Int)+1:=wrap_i64 (by omega) (by omega)
    by_cases tu:e.rn=(f.az.length:Int)+1
    ·have b3:(e.rn != ((f.az.length:Nat):Int)+1)=false:=by simp[tu]
     rw[if_neg (by simp[tu])]
     have hb:=parse_bd t
     have k5:ar H4 H2.next 0 1=some [dx]:=(c3.out q2 (by simp)).ar 1 0 (by simp)
     obtain⟨aw,bh,ay,aB,H5,r1,r2,r3,r4⟩:=Yt ((p2.out0 o3).out0 q2) (by have:=hb.1;omega) (fun u hu=>by have:=hb.2 u hu;omega)
     have o6:=aI H5 (rv aw (bL (aK t).1).1.st ay aB) 75 0
     have c6:=bg H5 (rv aw (bL (aK t).1).1.st ay aB) 75 0
     have n6:(al H5 (rv aw (bL (aK t).1).1.st ay aB) 75 0).next=H5.next+1:=rfl
     have hst4:st 4 (.ptr H5.next 0) (.agg (rv aw (bL (aK t).1).1.st ay aB)) (al H5 [.ah,(.int .i64 0),.ah,.ah] 75 0)=some (al H5 (rv aw (bL (aK t).1).1.st ay aB) 75 0):=iI (by simp[r2.v.d.row.one,r2.t.rl.one,r2.s.jG,kK]) rfl rfl (by decide) rfl
     generalize hA6:al H5 (rv aw (bL (aK t).1).1.st ay aB) 75 0=H6 at *
     have h6:=(h4.out0 r3).out0 o6
     have o16:=(mF.trans r3).trans o6
     by_cases he:(bL (aK t).1).2=0
     ·have b4:((bL (aK t).1).2 != 0)=false:=by simp[he]
      rw[if_neg (by simp[he]),if_pos hky]
      have m3:cellAt H6 p 3=some a.rx:=h6.c.cellAt rfl
      have m4:ar H6 H5.next 0 4=some (rv aw (bL (aK t).1).1.st ay aB):=c6.ar 4 0 (by simp)
      have cE6:=(cE4.out r3 (by simp)).out o6 (by simp)
      have m5:cellAt H6 H.next 5=some (.str e.nm):=cE6.cellAt rfl
      have hRV:RV H6 aw bh ay aB (bL (aK t).1).1:=r2.v.out0 o6
      have vf:∀ j∈(RA.mk aw bh ay aB).fp,j∉own p a:=fun j hj q=>by have:=r4 j hj;have:=h4.lt j q;omega
      obtain⟨eA,H7,H8,a1,a2,a3,a4,a5,a6,a7⟩:=h6.XU (r':=⟨aw,bh,ay,aB⟩) (x:=((bL (aK t).1).1,e.nm)) hRV vf (by omega)
      have HR:=a1 H6.next rfl
      have f1:fl [.ah,(.int .i64 0),.ah,.ah,(.str [])] [(0,4,.agg (rv aw (bL (aK t).1).1.st ay aB)),(4,1,.str e.nm)]=some (dF ⟨aw,bh,ay,aB⟩ ((bL (aK t).1).1,e.nm)):=by
       rw[Br (l:=rv aw (bL (aK t).1).1.st ay aB) (n:=4) rfl (by simp),Ez rfl (by simp),sZ];rfl
      have f2:fl [.ah,(.int .i64 0),.ah,.ah,(.str [])] [(0,5,.agg (dF ⟨aw,bh,ay,aB⟩ ((bL (aK t).1).1,e.nm)))]=some (dF ⟨aw,bh,ay,aB⟩ ((bL (aK t).1).1,e.nm)):=by
       rw[Br (l:=dF ⟨aw,bh,ay,aB⟩ ((bL (aK t).1).1,e.nm)) (n:=5) rfl (by simp),sZ];rfl
      have dL:aE H6 (dF ⟨aw,bh,ay,aB⟩ ((bL (aK t).1).1,e.nm)) 77 0=some (H6.next,al H6 (dF ⟨aw,bh,ay,aB⟩ ((bL (aK t).1).1,e.nm)) 77 0):=gk (by simp[dF])
      have m6:cellAt (al H6 (dF ⟨aw,bh,ay,aB⟩ ((bL (aK t).1).1,e.nm)) 77 0) p 3=some a.rx:=by rw[tQ h6.c.1];exact m3
      have mS:=B5 h6.r.1.rw
      have hEo:H.next∉own p a:=fun q=>by have:=h.lt _ q;omega
      have m8:cellAt H8 H.next 6=some (.str e.ky):=(cE6.out a4 hEo).cellAt rfl
      have hFS:FSt H H8 p a { a with rx:=eA,ras:=a.ras++[⟨aw,bh,ay,aB⟩] }:=by
       have:=mF.1;have:=o16.1
       exact⟨(o16.mono fun j hj=>by cases hj).trans a4,fun j hj=>(a5 j hj).imp (fun q=>q) fun q=>by omega,fun j hj=>(a6 j hj).imp (fun q=>q) fun q=>by have:=r4 j q;omega⟩
      refine⟨_,H8,vJ ?_,a3,hFS⟩
      unfold sV
      simp(disch:=first|exact zqz|fail)only[aW,E5,p1,aC,F5,F6,q1,afV,G6,b1,k3,ff,b2,G1,hw,b3,k5,r1,hst4,b4,m3,m4,m5,f1,f2,dL,HR,a2,m6,lT mS,m8,av,au,ai,aj,simprocAttr]
     ·have b4:((bL (aK t).1).2 != 0)=true:=by simp[he]
      rw[if_pos he]
      refine⟨a,H6,vJ ?_,h6,FSt.same o16 p a⟩
      unfold sV
      simp(disch:=first|exact zqz|fail)only[aW,E5,p1,aC,F5,F6,q1,afV,G6,b1,k3,ff,b2,G1,hw,b3,k5,r1,hst4,b4,av,au,ai,aj,simprocAttr]
    ·have b3:(e.rn != ((f.az.length:Nat):Int)+1)=true:=by simp[tu]
     rw[if_pos tu]
     refine⟨a,H4,vJ ?_,h4,FSt.same mF p a⟩
     unfold sV
     simp(disch:=first|exact zqz|fail)only[aW,E5,p1,aC,F5,F6,q1,afV,G6,b1,k3,ff,b2,G1,hw,b3,av,au,ai,aj,simprocAttr]
  ·have b1:(!(e.ky==[]))=true:=by simp[hky]
   cases hgk:getK f.ks (e.nm,e.ky) with
   | some had=>
    rw[if_pos ⟨hky,rfl⟩]
    rw[hgk] at q1
    refine⟨a,H4,vJ ?_,h4,FSt.same mF p a⟩
    unfold sV
    simp(disch:=first|exact zqz|fail)only[aW,E5,p1,aC,F5,F6,q1,afV,afG,G6,b1,av,au,ai,aj,simprocAttr]
   | none=>
   rw[if_neg (by simp)]
   rw[hgk] at q1
   by_cases sW:f.az.length=64
   ·have b2:(((f.az.length:Nat):Int)==64)=true:=by simp[sW]
    rw[if_pos sW]
    refine⟨a,H4,vJ ?_,h4,FSt.same mF p a⟩
    unfold sV
    simp(disch:=first|exact zqz|fail)only[aW,E5,p1,aC,F5,F6,q1,afV,ae6,G6,b1,k3,ff,b2,av,au,ai,aj,simprocAttr]
   ·have b2:(((f.az.length:Nat):Int)==64)=false:=by rw[beq_eq_false_iff_ne];omega
    rw[if_neg sW]
    have hw:IntKind.wrap .i64 (((f.az.length:Nat):Int)+1)=((f.az.length:Nat):Int)+1:=wrap_i64 (by omega) (by omega)
    by_cases tu:e.rn=(f.az.length:Int)+1
    ·have b3:(e.rn != ((f.az.length:Nat):Int)+1)=false:=by simp[tu]
     rw[if_neg (by simp[tu])]
     have hb:=parse_bd t
     have k5:ar H4 H2.next 0 1=some [dx]:=(c3.out q2 (by simp)).ar 1 0 (by simp)
     obtain⟨aw,bh,ay,aB,H5,r1,r2,r3,r4⟩:=Yt ((p2.out0 o3).out0 q2) (by have:=hb.1;omega) (fun u hu=>by have:=hb.2 u hu;omega)
     have o6:=aI H5 (rv aw (bL (aK t).1).1.st ay aB) 75 0
     have c6:=bg H5 (rv aw (bL (aK t).1).1.st ay aB) 75 0
     have n6:(al H5 (rv aw (bL (aK t).1).1.st ay aB) 75 0).next=H5.next+1:=rfl
     have hst4:st 4 (.ptr H5.next 0) (.agg (rv aw (bL (aK t).1).1.st ay aB)) (al H5 [.ah,(.int .i64 0),.ah,.ah] 75 0)=some (al H5 (rv aw (bL (aK t).1).1.st ay aB) 75 0):=iI (by simp[r2.v.d.row.one,r2.t.rl.one,r2.s.jG,kK]) rfl rfl (by decide) rfl
     generalize hA6:al H5 (rv aw (bL (aK t).1).1.st ay aB) 75 0=H6 at *
     have h6:=(h4.out0 r3).out0 o6
     have o16:=(mF.trans r3).trans o6
     by_cases he:(bL (aK t).1).2=0
     ·have b4:((bL (aK t).1).2 != 0)=false:=by simp[he]
      rw[if_neg (by simp[he]),if_neg hky]
      have m3:cellAt H6 p 3=some a.rx:=h6.c.cellAt rfl
      have m4:ar H6 H5.next 0 4=some (rv aw (bL (aK t).1).1.st ay aB):=c6.ar 4 0 (by simp)
      have cE6:=(cE4.out r3 (by simp)).out o6 (by simp)
      have m5:cellAt H6 H.next 5=some (.str e.nm):=cE6.cellAt rfl
      have hRV:RV H6 aw bh ay aB (bL (aK t).1).1:=r2.v.out0 o6
      have vf:∀ j∈(RA.mk aw bh ay aB).fp,j∉own p a:=fun j hj q=>by have:=r4 j hj;have:=h4.lt j q;omega
      obtain⟨eA,H7,H8,a1,a2,a3,a4,a5,a6,a7⟩:=h6.XU (r':=⟨aw,bh,ay,aB⟩) (x:=((bL (aK t).1).1,e.nm)) hRV vf (by omega)
      have HR:=a1 H6.next rfl
      have f1:fl [.ah,(.int .i64 0),.ah,.ah,(.str [])] [(0,4,.agg (rv aw (bL (aK t).1).1.st ay aB)),(4,1,.str e.nm)]=some (dF ⟨aw,bh,ay,aB⟩ ((bL (aK t).1).1,e.nm)):=by
       rw[Br (l:=rv aw (bL (aK t).1).1.st ay aB) (n:=4) rfl (by simp),Ez rfl (by simp),sZ];rfl
      have f2:fl [.ah,(.int .i64 0),.ah,.ah,(.str [])] [(0,5,.agg (dF ⟨aw,bh,ay,aB⟩ ((bL (aK t).1).1,e.nm)))]=some (dF ⟨aw,bh,ay,aB⟩ ((bL (aK t).1).1,e.nm)):=by
       rw[Br (l:=dF ⟨aw,bh,ay,aB⟩ ((bL (aK t).1).1,e.nm)) (n:=5) rfl (by simp),sZ];rfl
      have dL:aE H6 (dF ⟨aw,bh,ay,aB⟩ ((bL (aK t).1).1,e.nm)) 77 0=some (H6.next,al H6 (dF ⟨aw,bh,ay,aB⟩ ((bL (aK t).1).1,e.nm)) 77 0):=gk (by simp[dF])
      have m6:cellAt (al H6 (dF ⟨aw,bh,ay,aB⟩ ((bL (aK t).1).1,e.nm)) 77 0) p 3=some a.rx:=by rw[tQ h6.c.1];exact m3
      have mS:=B5 h6.r.1.rw
      have hEo:H.next∉own p a:=fun q=>by have:=h.lt _ q;omega
      have m8:cellAt H8 H.next 6=some (.str e.ky):=(cE6.out a4 hEo).cellAt rfl
      have hFS:FSt H H8 p a { a with rx:=eA,ras:=a.ras++[⟨aw,bh,ay,aB⟩] }:=by
       have:=mF.1;have:=o16.1
       exact⟨(o16.mono fun j hj=>by cases hj).trans a4,fun j hj=>(a5 j hj).imp (fun q=>q) fun q=>by omega,fun j hj=>(a6 j hj).imp (fun q=>q) fun q=>by have:=r4 j q;omega⟩
      have m1:cellAt H8 H.next 1=some (.int .i64 e.rn):=(cE6.out a4 hEo).cellAt rfl
      have m9:cellAt H8 H.next 5=some (.str e.nm):=(cE6.out a4 hEo).cellAt rfl
      have m0:cellAt H8 p 4=some (.ptr a.kp 0):=a3.c.cellAt rfl
      have f3:fl [(.str []),(.str [])] [(0,1,.str e.nm),(1,1,.str e.ky)]=some (cj (e.nm,e.ky)):=rfl
      obtain⟨tU,H9,y1,y2,y3⟩:=a3.gx hk hgk e.rn
      have y1':cK (.func (.func 33) [] []) [.ptr a.kp 0,.agg (cj (e.nm,e.ky)),.int .i64 e.rn] H8=some (.tuple [.int .i64 e.rn,.bool true],H9):=y1
      refine⟨_,H9,vJ ?_,y2,hFS.trans y3⟩
      unfold sV
      simp(disch:=first|exact zqz|fail)only[aW,E5,p1,aC,F5,F6,q1,afV,ae6,G6,b1,k3,ff,b2,G1,hw,b3,k5,r1,hst4,b4,m3,m4,m5,f1,f2,dL,HR,a2,m6,lT mS,m8,m1,m9,m0,f3,y1',av,au,ai,aj,simprocAttr]
     ·have b4:((bL (aK t).1).2 != 0)=true:=by simp[he]
      rw[if_pos he]
      refine⟨a,H6,vJ ?_,h6,FSt.same o16 p a⟩
      unfold sV
      simp(disch:=first|exact zqz|fail)only[aW,E5,p1,aC,F5,F6,q1,afV,ae6,G6,b1,k3,ff,b2,G1,hw,b3,k5,r1,hst4,b4,av,au,ai,aj,simprocAttr]
    ·have b3:(e.rn != ((f.az.length:Nat):Int)+1)=true:=by simp[tu]
     rw[if_pos tu]
     refine⟨a,H4,vJ ?_,h4,FSt.same mF p a⟩
     unfold sV
     simp(disch:=first|exact zqz|fail)only[aW,E5,p1,aC,F5,F6,q1,afV,ae6,G6,b1,k3,ff,b2,G1,hw,b3,av,au,ai,aj,simprocAttr]
def tickAt (now:Int)(R:Rn)(i:Nat):Rn:=match R.rs[i]?,R.ts[i]? with
 | some t,some d=>if R.st≠0\/now<t.kN then R else if t.ph=2 then lY R i t d now else if t.ph=5 then { R with rs:=R.rs.set i { t with ph:=1,kN:=0 } } else R
 | _,_=>R
def tickN (now:Int):Nat->Nat->Rn->Rn
 | 0,_,R=>R
 | m+1,i,R=>tickN now m (i+1) (tickAt now R i)
def tickM (R:Rn)(now:Int):Rn:=tickN now R.rs.length 0 R
theorem mem_set {rs:List RT}{i:Nat}{u v:RT}(h:v∈rs.set i u):v∈rs\/v=u:=agu h
theorem failR_keep {R:Rn}{i:Nat}{t:RT}{d:Tk}{now:Int}(ht:R.rs[i]? = some t)(hk:lL R)(hb:ua R):lL (lY R i t d now)/\ua (lY R i t d now)/\(lY R i t d now).ts=R.ts/\(lY R i t d now).sg=R.sg/\(lY R i t d now).rs.length=R.rs.length:=by
 have hbt:=hb.t t (aao ht)
 unfold lY
 split
 ·refine⟨hk.set i _,⟨hb.d,fun u hu => ?_⟩,rfl,rfl,ac4⟩
  rcases mem_set hu with hu | rfl
  ·exact hb.t u hu
  ·exact hbt
 ·have h1:=hk.set i { t with ph:=4,kN:=0 }
  refine⟨⟨⟨h1.sm.n,h1.sm.a,h1.sm.r,h1.sm.s⟩,h1.len,h1.jn⟩,⟨hb.d,fun u hu => ?_⟩,rfl,rfl,ac4⟩
  rcases mem_set hu with hu | rfl
  ·exact hb.t u hu
  ·exact hbt
theorem tickAt_keep {R:Rn}{i:Nat}{now:Int}(hk:lL R)(hb:ua R):lL (tickAt now R i)/\ua (tickAt now R i)/\(tickAt now R i).ts=R.ts/\(tickAt now R i).sg=R.sg/\(tickAt now R i).rs.length=R.rs.length:=by
 unfold tickAt
 split
 ·rename_i t d ht hd
  split
  ·exact⟨hk,hb,rfl,rfl,rfl⟩
  ·split
   ·exact failR_keep ht hk hb
   ·split
    ·refine⟨hk.set i _,⟨hb.d,fun u hu => ?_⟩,rfl,rfl,ac4⟩
     rcases mem_set hu with hu | rfl
     ·exact hb.t u hu
     ·exact hb.t t (aao ht)
    ·exact⟨hk,hb,rfl,rfl,rfl⟩
 ·exact⟨hk,hb,rfl,rfl,rfl⟩
theorem tick_loop {dx tx sx bH:AV}{xs:List AV}{P n:Nat}{now:Int}(hn:n<=1000)(hp:P∉me dx xs tx sx):∀ (m i:Nat) (H:Hp) (R:Rn),i+m=n->R.rs.length=n->Cs H P (rv dx R.st tx sx) 75 0->RO H dx xs tx sx R->lL R->ua R->
  ∃ H',(∀ cH:K.Fn 2,zn JN GO cK cH (.int .i64 now) (.ptr P 0) bH (.int .i64 (n:Nat)) (.int .i64 (i:Nat)) H=cH (.ptr P 0) bH H')/\Cs H' P (rv dx (tickN now m i R).st tx sx) 75 0/\RO H' dx xs tx sx (tickN now m i R)/\Out (P::ak tx) H H'
 | 0,i,H,R,hm,hl,hC,hO,hk,hb=>by
  obtain rfl:i=n:=by omega
  refine⟨H,fun cH => ?_,hC,hO,Out.refl _ _⟩
  rw[Dk]
  simp only[bl__run_Run_Tick,fU,ai,aj,simprocAttr]
 | m+1,i,H,R,hm,hl,hC,hO,hk,hb=>by
  have h1:i<n:=by omega
  have es:=gf h1 (by omega)
  have ht:R.rs[i]? = some (R.rs[i]'(by omega)):=aai _
  have aJ:R.ts.length=n:=by rw[<-hk.len];exact hl
  have hd:R.ts[i]? = some (R.ts[i]'(by omega)):=aai _
  have kp:=tickAt_keep (i:=i) (now:=now) hk hb
  have hA:tickAt now R i=(if R.st≠0\/now<(R.rs[i]'(by omega)).kN then R else if (R.rs[i]'(by omega)).ph=2 then lY R i (R.rs[i]'(by omega)) (R.ts[i]'(by omega)) now else if (R.rs[i]'(by omega)).ph=5 then { R with rs:=R.rs.set i { (R.rs[i]'(by omega)) with ph:=1,kN:=0 } } else R):=by
   unfold tickAt;rw[ht,hd]
  generalize R.rs[i]'(by omega)=t at *
  generalize R.ts[i]'(by omega)=d at *
  have c1:cellAt H P 1=some (.int .i64 R.st):=hC.cellAt rfl
  have c2:cellAt H P 2=some tx:=hC.cellAt rfl
  obtain⟨b,o,q1,q2,q3,q4,q5⟩:=hO.v.t.at (by decide) (qK ht)
  have r0:cellAt H b o=some (.int .i64 t.ph):=by have:=q5 0 _ (ym t).1;rwa[aej] at this
  have r2:cellAt H b (o+2)=some (.int .i64 t.kN):=q5 2 _ (ym t).2.2.1
  have br:=(aah.1 ht).1
  show ∃ H',(∀ cH:K.Fn 2,_)/\Cs H' P (rv dx (tickN now m (i+1) (tickAt now R i)).st tx sx) 75 0/\RO H' dx xs tx sx (tickN now m (i+1) (tickAt now R i))/\Out (P::ak tx) H H'
  have go:∀ (H1:Hp),Cs H1 P (rv dx (tickAt now R i).st tx sx) 75 0->RO H1 dx xs tx sx (tickAt now R i)->Out (P::ak tx) H H1->(∀ H':Hp,(∀ cH:K.Fn 2,zn JN GO cK cH (.int .i64 now) (.ptr P 0) bH (.int .i64 (n:Nat)) (.int .i64 ((i+1:Nat):Int)) H1=cH (.ptr P 0) bH H')->∀ cH:K.Fn 2,zn JN GO cK cH (.int .i64 now) (.ptr P 0) bH (.int .i64 (n:Nat)) (.int .i64 (i:Nat)) H=cH (.ptr P 0) bH H')->
    ∃ H',(∀ cH:K.Fn 2,zn JN GO cK cH (.int .i64 now) (.ptr P 0) bH (.int .i64 (n:Nat)) (.int .i64 (i:Nat)) H=cH (.ptr P 0) bH H')/\Cs H' P (rv dx (tickN now m (i+1) (tickAt now R i)).st tx sx) 75 0/\RO H' dx xs tx sx (tickN now m (i+1) (tickAt now R i))/\Out (P::ak tx) H H':=by
   intro H1 a1 a2 a3 a4
   obtain⟨H',i1,i2,i3,i4⟩:=tick_loop (bH:=bH) hn hp m (i+1) H1 (tickAt now R i) (by omega) (kp.2.2.2.2.trans hl) a1 a2 kp.1 kp.2.1
   exact⟨H',a4 H' i1,i2,i3,a3.trans i4⟩
  clear kp
  by_cases h0:R.st=0
  ·have d0:(R.st != 0)=false:=by simp[h0]
   by_cases h2:now<t.kN
   ·have d2:decide (now<t.kN)=true:=decide_eq_true h2
    rw[if_pos (.inr h2)] at hA
    rw[hA] at go ⊢
    refine go H hC hO (Out.refl _ _) fun H' i1 cH => ?_
    rw[Dk]
    simp(disch:=first|exact zqz|fail)only[bl__run_Run_Tick,bI h1,c1,c2,q1,d0,r2,d2,es,i1,av,au,ai,aj,simprocAttr]
   ·have d2:decide (now<t.kN)=false:=decide_eq_false h2
    rw[if_neg (fun q=>q.elim (fun z=>z h0) h2)] at hA
    by_cases h3:t.ph=2
    ·have d3:(t.ph==2)=true:=by simp[h3]
     rw[if_pos h3] at hA
     rw[hA] at go ⊢
     have bd:=hb.d d (aao hd)
     have bt:=hb.t t (aao ht)
     obtain⟨H1,f1,f2,f3,f4⟩:=UL hC hO hp ht hd bd.1 bd.2 bt.1 bt.2 now
     refine go H1 f2 f3 f4 fun H' i1 cH => ?_
     rw[Dk]
     simp(disch:=first|exact zqz|fail)only[bl__run_Run_Tick,bI h1,c1,c2,q1,d0,r2,d2,r0,d3,f1,es,i1,av,au,ai,aj,simprocAttr]
    ·have d3:(t.ph==2)=false:=by simp[h3]
     rw[if_neg h3] at hA
     by_cases h5:t.ph=5
     ·have d5:(t.ph==5)=true:=by simp[h5]
      rw[if_pos h5] at hA
      rw[hA] at go ⊢
      obtain⟨H2,w1,w2,w3,w4⟩:=hO.t.fG (k:=0) (v := .int .i64 1) (qK ht) q1 rfl (by decide)
      have e2:((gq R.rs).set i ((eC t).set 0 (.int .i64 1)))[i]? = some ((eC t).set 0 (.int .i64 1)):=afy (by rw[yP];exact br)
      obtain⟨H3,v1,v2,v3,v4⟩:=w2.fG (k:=2) (v := .int .i64 0) e2 q1 rfl (by decide)
      rw[List.set_set] at v2
      have fh:((eC t).set 0 (.int .i64 1)).set 2 (.int .i64 0)=eC { t with ph:=1,kN:=0 }:=rfl
      rw[fh,JR] at v2
      rw[aej] at w1
      have o3:=w3.trans v3
      have wU:P∉ak tx:=fun z=>hp (abr _ (abG _ z))
      refine go H3 (hC.out o3 wU) (hO.bP v2 o3) (o3.mono fun j hj => .tail _ hj) fun H' i1 cH => ?_
      rw[Dk]
      simp(disch:=first|exact zqz|fail)only[bl__run_Run_Tick,bI h1,c1,c2,q1,d0,r2,d2,r0,d3,d5,w1,v1,es,i1,av,au,ai,aj,simprocAttr]
     ·have d5:(t.ph==5)=false:=by simp[h5]
      rw[if_neg h5] at hA
      rw[hA] at go ⊢
      refine go H hC hO (Out.refl _ _) fun H' i1 cH => ?_
      rw[Dk]
      simp(disch:=first|exact zqz|fail)only[bl__run_Run_Tick,bI h1,c1,c2,q1,d0,r2,d2,r0,d3,d5,es,i1,av,au,ai,aj,simprocAttr]
  ·have d0:(R.st != 0)=true:=by simp[h0]
   rw[if_pos (.inl h0)] at hA
   rw[hA] at go ⊢
   refine go H hC hO (Out.refl _ _) fun H' i1 cH => ?_
   rw[Dk]
   simp(disch:=first|exact zqz|fail)only[bl__run_Run_Tick,bI h1,c1,c2,q1,d0,es,i1,av,au,ai,aj,simprocAttr]
theorem tick_c {H:Hp}{dx tx sx:AV}{xs:List AV}{R:Rn}(h:RV H dx xs tx sx R)(hk:lL R)(hb:ua R)(now:Int) :
  ∃ aw bh ay aB H',cK (.func (.func 77) [] []) [.agg (rv dx R.st tx sx),.int .i64 now] H=some (.agg (rv aw (tickM R now).st ay aB),H')/\RO H' aw bh ay aB (tickM R now)/\Out [] H H'/\∀ j∈me aw bh ay aB,H.next<=j:=by
 have aW:bx 75 (.agg (rv dx R.st tx sx)) H=some (H.next,al H (rv dx R.st tx sx) 75 0):=ji (by simp)
 have o1:=aI H (rv dx R.st tx sx) 75 0
 have c1:=bg H (rv dx R.st tx sx) 75 0
 have n1:(al H (rv dx R.st tx sx) 75 0).next=H.next+1:=rfl
 generalize al H (rv dx R.st tx sx) 75 0=H1 at *
 have o2:=aI H1 zR 75 0
 have c2:=bg H1 zR 75 0
 have n2:(al H1 zR 75 0).next=H.next+2:=by rw[bK,n1]
 rw[n1] at c2
 generalize dc:al H1 zR 75 0=H2 at *
 have dQ:=o1.trans o2
 have js:=c1.out o2 (by simp)
 have k1:ar H2 H.next 0 4=some (rv dx R.st tx sx):=js.ar 4 0 (by simp)
 obtain⟨aw,bh,ay,aB,H4,r1,r2,r3,r4⟩:=yV (h.out0 dQ) hk.sm
 have n4:=r3.nx
 have ones:∀ z:Int,(rv aw z ay aB).all aY=true:=fun z=>by simp[r2.v.d.row.one,r2.t.rl.one,r2.s.jG,kK]
 obtain⟨H5,s1,s2,s3,s4⟩:=fx (n:=4) (vs:=rv aw R.st ay aB) (js.out r3 (by simp)) rfl rfl (ones _)
 have fr:∀ m,m<H.next+2->∀ j∈me aw bh ay aB,j∉[m]:=fun m hm j hj=>by rw[No];have:=r4 j hj;omega
 have R5:=r2.out s3 (fr _ (by omega))
 have ve:∀ m,m<H.next+2->m∉ak ay:=fun m hm z=>by have:=r4 m (abr _ (abG _ z));omega
 have hr:=hk.sm.r
 obtain⟨H7,t1,t2,t3,t4⟩:=tick_loop (bH := .ptr (H.next+1) 0) (P:=H.next) (now:=now) hr (fun z=>by have:=r4 _ z;omega) R.rs.length 0 H5 R (by omega) rfl s2 R5 hk hb
 rw[show (((0:Nat):Int))=0 from rfl] at t1
 have ht2:Cs H7 H.next (rv aw (tickM R now).st ay aB) 75 0:=t2
 have K1:RO H7 aw bh ay aB (tickM R now):=t3
 have FD:∀ m,m<H.next+2->m≠H.next->m∉H.next::ak ay:=fun m hm aO z=>(aaD.1 z).elim aO (ve m hm)
 have GL:=((c2.out r3 (by simp)).out s3 (by rw[No];omega)).out t4 (FD _ (by omega) (by omega))
 have k5:cellAt H5 H.next 2=some ay:=s2.cellAt rfl
 have tl:=R5.v.TS
 have k7:ar H7 H.next 0 4=some (rv aw (tickM R now).st ay aB):=ht2.ar 4 0 (by simp)
 obtain⟨H8,w1,w2,w3,w4⟩:=fx (n:=4) (vs:=rv aw (tickM R now).st ay aB) GL rfl rfl (ones _)
 have k8:ar H8 (H.next+1) 0 4=some (rv aw (tickM R now).st ay aB):=w2.ar 4 0 (by simp)
 have qM:∀ j∈ak ay,H.next<=j:=fun j hj=>by have:=r4 j (abr _ (abG _ hj));omega
 have out:=gi (gi (gi (dQ.trans r3) s3 (jX (aaC _))) t4 (fun j hj=>(aaD.1 hj).elim (fun e=>by omega) (qM j))) w3 (jX (afh _))
 refine⟨aw,bh,ay,aB,H8,al0 ?_,K1.out w3 (fr _ (by omega)),out,fun j hj=>by have:=r4 j hj;omega⟩
 unfold OK
 simp(disch:=first|exact zqz|fail)only[aW,n1,dc,k1,r1,s1,k5,tl,t1,k7,w1,k8,av,au,ai,aj,simprocAttr]
def cancelM (R:Rn):Rn × Int:=if R.st≠0 then (qD,9) else ({ R with st:=3 },0)
theorem cancel_c {H:Hp}{dx tx sx:AV}{xs:List AV}{R:Rn}(h:RV H dx xs tx sx R)(hk:lL R) :
  mP (.func (.func 82) [] []) [.agg (rv dx R.st tx sx)] H (cancelM R).1 (cancelM R).2:=by
 have aW:bx 75 (.agg (rv dx R.st tx sx)) H=some (H.next,al H (rv dx R.st tx sx) 75 0):=ji (by simp)
 have o1:=aI H (rv dx R.st tx sx) 75 0
 have c1:=bg H (rv dx R.st tx sx) 75 0
 have n1:(al H (rv dx R.st tx sx) 75 0).next=H.next+1:=rfl
 generalize al H (rv dx R.st tx sx) 75 0=H1 at *
 have o2:=aI H1 zR 75 0
 have c2:=bg H1 zR 75 0
 have n2:(al H1 zR 75 0).next=H.next+2:=by rw[bK,n1]
 rw[n1] at c2
 generalize dc:al H1 zR 75 0=H2 at *
 have dQ:=o1.trans o2
 have js:=c1.out o2 (by simp)
 have k1:cellAt H2 H.next 1=some (.int .i64 R.st):=js.cellAt rfl
 have k4:ar H2 H.next 0 4=some (rv dx R.st tx sx):=js.ar 4 0 (by simp)
 unfold cancelM
 by_cases h0:R.st=0
 ·have d0:(R.st != 0)=false:=by simp[h0]
  rw[if_neg (by simp[h0])]
  obtain⟨aw,bh,ay,aB,H3,r1,r2,r3,r4⟩:=yV (h.out0 dQ) hk.sm
  obtain⟨H4,s1,s2,s3,s4⟩:=fx (n:=4) (vs:=rv aw R.st ay aB) (js.out r3 (by simp)) rfl rfl (by simp[r2.v.d.row.one,r2.t.rl.one,r2.s.jG,kK])
  obtain⟨H5,t1,t2,t3,t4⟩:=fG s2 (by decide) (o:=1) (by simp) (v := .int .i64 3) rfl
  have fh:(rv aw R.st ay aB).set 1 (.int .i64 3)=rv aw 3 ay aB:=rfl
  rw[fh] at t2
  have k5:ar H5 H.next 0 4=some (rv aw 3 ay aB):=t2.ar 4 0 (by simp)
  have aO:H.next+1∉[H.next]:=by rw[No];omega
  have cQ:=((c2.out r3 (by simp)).out s3 aO).out t3 aO
  obtain⟨H6,u1,u2,u3,u4⟩:=fx (n:=4) (vs:=rv aw 3 ay aB) cQ rfl rfl (by simp[r2.v.d.row.one,r2.t.rl.one,r2.s.jG,kK])
  have k6:ar H6 (H.next+1) 0 4=some (rv aw 3 ay aB):=u2.ar 4 0 (by simp)
  have fr:∀ m,m<H.next+2->∀ j∈me aw bh ay aB,j∉[m]:=fun m hm j hj=>by rw[No];have:=r4 j hj;omega
  have R6:=((r2.out s3 (fr _ (by omega))).out t3 (fr _ (by omega))).out u3 (fr _ (by omega))
  have out:=gi (gi (gi (dQ.trans r3) s3 (jX (aaC _))) t3 (jX (aaC _))) u3 (jX (afh _))
  refine⟨aw,bh,ay,aB,H6,TL ?_,⟨⟨R6.v.d,R6.v.t,R6.v.s⟩,R6.t,R6.s,R6.dt,R6.ds⟩,out,fun j hj=>by have:=r4 j hj;omega⟩
  unfold Pd
  simp(disch:=first|exact zqz|fail)only[aW,n1,dc,k1,d0,k4,r1,s1,t1,k5,u1,k6,av,au,ai,aj,simprocAttr]
 ·have d0:(R.st != 0)=true:=by simp[h0]
  rw[if_pos h0]
  have k5:ar H2 (H.next+1) 0 4=some zR:=c2.ar 4 0 (by simp)
  refine mP.err (H1:=H2) (m:=H.next+1) (TL (?_:_=some (_,H2))) dQ (Out.refl _ _) (afh _)
  have hz:st 4 (.ptr (H.next+1) 0) (.agg zR) (al H1 zR 75 0)=some H2:=by rw[<-dc];exact iI rfl rfl n1.symm (by decide) rfl
  rw[dc] at hz
  unfold Pd
  simp(disch:=first|exact zqz|fail)only[aW,n1,dc,k1,d0,hz,k5,av,au,ai,aj,simprocAttr]
def tkx (now:Int)(x:Rn × aq):Rn × aq:=(tickM x.1 now,x.2)
def tickF (f:Fm)(now:Int):Fm × Int:=if now<=f.ck then (f,10) else ({ f with ck:=now,az:=f.az.map (tkx now) },0)
def tkd (f:Fm)(now:Int)(i:Nat):Fm:={ f with ck:=now,az:=(f.az.take i).map (tkx now)++f.az.drop i }
theorem tkd_at {f:Fm}{now:Int}{i:Nat}{x:Rn × aq}(h:f.az[i]? = some x):(tkd f now i).az[i]? = some x:=by
 have hi:=(aah.1 h).1
 show ((f.az.take i).map (tkx now)++f.az.drop i)[i]? = _
 rw[abT (by rw[ads,aes];omega),ads,aes,afL,Nat.min_eq_left (by omega),ahb,aej]
 exact h
theorem tkd_set {f:Fm}{now:Int}{i:Nat}{x:Rn × aq}(h:f.az[i]? = some x):(tkd f now i).az.set i (tkx now x)=(tkd f now (i+1)).az:=by
 have hi:=(aah.1 h).1
 show ((f.az.take i).map (tkx now)++f.az.drop i).set i (tkx now x)=(f.az.take (i+1)).map (tkx now)++f.az.drop (i+1)
 have hd:f.az.drop i=x::f.az.drop (i+1):=by
  rw[ah7 hi]
  rw[aai hi] at h
  rw[acN h]
 rw[aiu _ _ (by rw[ads,aes];omega),ads,aes,Nat.min_eq_left (by omega),ahb,hd,agZ,h,List.set_cons_zero,adI,aeR]
 rfl
theorem FL.at {H:Hp}{p:Nat}{a:FA}{f:Fm}(h:FL H p a f){i:Nat}{x:Rn × aq}(hx:f.az[i]? = some x) :
  ∃ r b o,a.ras[i]? = some r/\(∀ kd,ia 5 a.rx (.int kd i)=some (.ptr b o))/\b∈ak a.rx/\b<H.next/\ar H b o 4=some (rv r.dx x.1.st r.tx r.sx)/\ar H b o 5=some (dF r x)/\RV H r.dx r.xs r.tx r.sx x.1:=by
 have br:=(aah.1 hx).1
 have hr:a.ras[i]? = some (a.ras[i]'(by rw[h.len];exact br)):=aai _
 obtain⟨b,o,q1,q2,q3,q4,q5⟩:=h.r.rl.at (by decide) (OM hr hx)
 refine⟨_,b,o,hr,q1,q2,q3,?_,q4,h.v i _ x hr hx⟩
 have e0:=q5 0 _ rfl
 have e1:=q5 1 _ rfl
 have e2:=q5 2 _ rfl
 have e3:=q5 3 _ rfl
 rw[aej] at e0
 simp only[ar,e0,e1,e2,e3,acC,acK]
 rfl
theorem ftick_loop {p:Nat}{f:Fm}{now:Int}(hr:f.az.length<=64)(vg:∀ x∈f.az,lL x.1/\ua x.1):∀ (r:List (Rn × aq)) (i:Nat) (H:Hp) (a:FA),i<=f.az.length->f.az.drop i=r->FL H p a (tkd f now i)->
  ∃ a' H',(∀ cn:K.Fn 0,G2 JN GO cK cn (.ptr p 0) (.int .i64 now) (.int .i64 (f.az.length:Nat)) (.int .i64 (i:Nat)) H=cn H')/\FL H' p a' (tkd f now f.az.length)/\FSt H H' p a a'
 | [],i,H,a,hi,h,hF=>by
  obtain rfl:=drop_nil hi h
  refine⟨a,H,fun cn => ?_,hF,FSt.same (Out.refl _ _) p a⟩
  rw[ab9]
  simp only[bl_flow_Flow_tick,fU,ai,aj,simprocAttr]
 | x::r,i,H,a,hi,h,hF=>by
  obtain⟨g1,g2,g3⟩:=gG h
  have es:=gf g1 (by omega)
  have k3:cellAt H p 3=some a.rx:=hF.c.cellAt rfl
  obtain⟨ra,b,o,q1,q2,q3,q4,q5,q6,q7⟩:=hF.at (tkd_at (now:=now) g2)
  obtain⟨xR,ok2⟩:=vg x (aao g2)
  obtain⟨aw,bh,ay,aB,H1,t1,t2,t3,t4⟩:=tick_c q7 xR ok2 now
  have hF1:=hF.out0 t3
  have vf:∀ j∈(RA.mk aw bh ay aB).fp,j∉own p a:=fun j hj q=>by have:=t4 j hj;have:=hF.lt j q;omega
  obtain⟨H2,s1,s2,s3,s4⟩:=hF1.Xv (tkd_at (now:=now) g2) q2 (r':=⟨aw,bh,ay,aB⟩) t2.v vf
  have Eg:cellAt H1 p 3=some a.rx:=hF1.c.cellAt rfl
  have hFS:FSt H H2 p a { a with ras:=a.ras.set i ⟨aw,bh,ay,aB⟩ }:=⟨(t3.mono fun j hj=>by cases hj).trans (s3.mono fun j hj=>fI (k:=5) rfl hj),fun j hj => .inl hj,fun j hj=>(s4 j hj).imp (fun q=>q) fun q=>t4 j q⟩
  have hF2:FL H2 p { a with ras:=a.ras.set i ⟨aw,bh,ay,aB⟩ } (tkd f now (i+1)):=by
   have:=tkd_set (now:=now) g2
   have e:{ tkd f now i with az:=(tkd f now i).az.set i (tickM x.1 now,x.2) }=tkd f now (i+1):=by
    show ({ ck:=now,nms:=f.nms,txs:=f.txs,az:=_,ks:=f.ks }:Fm)=_
    rw[show (tickM x.1 now,x.2)=tkx now x from rfl,this];rfl
   rw[e] at s2
   exact s2
  obtain⟨a',H',i1,i2,i3⟩:=ftick_loop hr vg r (i+1) H2 _ g1 g3 hF2
  refine⟨a',H',fun cn => ?_,i2,hFS.trans i3⟩
  rw[ab9]
  simp(disch:=first|exact zqz|fail)only[bl_flow_Flow_tick,bI g1,k3,q2,q5,t1,s1,Eg,lT (B5 hF.r.1.rw),es,i1,av,au,ai,aj,simprocAttr]
theorem ftick_c {H:Hp}{p:Nat}{a:FA}{f:Fm}(h:FL H p a f)(hr:f.az.length<=64)(vg:∀ x∈f.az,lL x.1/\ua x.1)(now:Int) :
  ∃ a' H',cK (.func (.func 42) [] []) [.ptr p 0,.int .i64 now] H=some (.int .i64 (tickF f now).2,H')/\FL H' p a' (tickF f now).1/\FSt H H' p a a':=by
 have k0:cellAt H p 0=some (.int .i64 f.ck):=h.c.cellAt rfl
 unfold tickF
 by_cases hn:now<=f.ck
 ·have d:decide (now<=f.ck)=true:=decide_eq_true hn
  rw[if_pos hn]
  refine⟨a,H,acb ?_,h,FSt.same (Out.refl _ _) p a⟩
  unfold P8
  simp(disch:=first|exact zqz|fail)only[k0,d,av,au,ai,aj,simprocAttr]
 ·have d:decide (now<=f.ck)=false:=decide_eq_false hn
  rw[if_neg hn]
  obtain⟨H1,s1,s2,s3⟩:=h.clock now
  have s2':FL H1 p a (tkd f now 0):=s2
  have k3:cellAt H1 p 3=some a.rx:=s2.c.cellAt rfl
  have ff:=s2.Bg
  obtain⟨a',H',i1,i2,i3⟩:=ftick_loop hr vg f.az 0 H1 a (acD _) acI s2'
  rw[show (((0:Nat):Int))=0 from rfl] at i1
  have e:tkd f now f.az.length={ f with ck:=now,az:=f.az.map (tkx now) }:=by
   unfold tkd
   rw[List.take_length,List.drop_length,ag8]
  rw[e] at i2
  refine⟨a',H',acb ?_,i2,s3.trans i3⟩
  unfold P8
  simp(disch:=first|exact zqz|fail)only[k0,d,s1,k3,ff,i1,av,au,ai,aj,simprocAttr]
noncomputable def opM (R:Rn)(e:Ev)(ck:Int):Rn × Int:=
 if e.kd=3 then oA R e.tk e.ty ck else if e.kd=4 then p8 R e.tk e.ty e.dt else if e.kd=5 then vG R e.tk e.ty ck else if e.kd=7 then rE R e.nm else cancelM R
noncomputable def changeM (f:Fm)(e:Ev):Fm × Int:=match f.az[(e.rn-1).toNat]? with
 | none=>(f,0)
 | some x=>if (opM x.1 e f.ck).2=0 then ({ f with az:=f.az.set (e.rn-1).toNat ((opM x.1 e f.ck).1,x.2) },0) else (f,(opM x.1 e f.ck).2)
theorem change_c {H:Hp}{p:Nat}{a:FA}{f:Fm}(h:FL H p a f)(hr:f.az.length<=64)(vg:∀ x∈f.az,lL x.1/\ua x.1/\x.1.sg.length<=900)(e:Ev)(h1:1<=e.rn)(h2:e.rn<=f.az.length) :
  ∃ a' H',cK (.func (.func 43) [] []) [.ptr p 0,.agg (aG e)] H=some (.int .i64 (changeM f e).2,H')/\FL H' p a' (changeM f e).1/\FSt H H' p a a':=by
 obtain⟨i,hi⟩:∃ i:Nat,e.rn=(i:Int)+1:=⟨(e.rn-1).toNat,by omega⟩
 have br:i<f.az.length:=by omega
 have hx:f.az[i]? = some (f.az[i]'br):=aai _
 generalize f.az[i]'br=x at hx
 obtain⟨xR,ok2,ok3⟩:=vg x (aao hx)
 have mN:(e.rn-1).toNat=i:=by omega
 have hw:IntKind.wrap .i64 (e.rn-1)=((i:Nat):Int):=by rw[hi,wrap_i64 (by omega) (by omega)];omega
 have aW:bx 26 (.agg (aG e)) H=some (H.next,al H (aG e) 26 0):=ji (by rw[mD];omega)
 have o1:=aI H (aG e) 26 0
 have c1:=bg H (aG e) 26 0
 have n1:(al H (aG e) 26 0).next=H.next+1:=rfl
 generalize al H (aG e) 26 0=H1 at *
 have F1:=h.out0 o1
 have k3:cellAt H1 p 3=some a.rx:=F1.c.cellAt rfl
 have E1:cellAt H1 H.next 1=some (.int .i64 e.rn):=c1.cellAt rfl
 have dL:aE H1 zR 75 0=some (H.next+1,al H1 zR 75 0):=by rw[<-n1];exact gk (by simp)
 have o2:=aI H1 zR 75 0
 have c2:=bg H1 zR 75 0
 have n2:(al H1 zR 75 0).next=H.next+2:=by rw[bK,n1]
 rw[n1] at c2
 generalize dc:al H1 zR 75 0=H2 at *
 have F2:=F1.out0 o2
 have dQ:=o1.trans o2
 have cE:=c1.out o2 (by simp)
 have E0:cellAt H2 H.next 0=some (.int .i64 e.kd):=cE.cellAt rfl
 have E2:cellAt H2 H.next 2=some (.int .i64 e.tk):=cE.cellAt rfl
 have E3:cellAt H2 H.next 3=some (.int .i64 e.ty):=cE.cellAt rfl
 have E5:cellAt H2 H.next 5=some (.str e.nm):=cE.cellAt rfl
 have E7:cellAt H2 H.next 7=some (.str e.dt):=cE.cellAt rfl
 have k0:cellAt H2 p 0=some (.int .i64 f.ck):=F2.c.cellAt rfl
 obtain⟨ra,b,o,q1,q2,q3,q4,q5,q6,q7⟩:=F2.at hx
 unfold changeM
 rw[mN,hx]
 simp only
 have fin:∀ (fv:AV) (args:List AV) (R':Rn) (err:Int),mP fv args H2 R' err->∃ (aw:AV) (bh:List AV) (ay aB:AV) (H3 H4:Hp) (a':FA) (H5:Hp),cK fv args H2=some (.tuple [.agg (rv aw R'.st ay aB),.int .i64 err],H3)/\st 4 (.ptr (H.next+1) 0) (.agg (rv aw R'.st ay aB)) H3=some H4/\
   (err=0->ar H4 (H.next+1) 0 4=some (rv aw R'.st ay aB)/\st 4 (.ptr b o) (.agg (rv aw R'.st ay aB)) H4=some H5/\FL H5 p a' { f with az:=f.az.set i (R',x.2) }/\FSt H H5 p a a')/\(err≠0->H5=H4/\a'=a/\FL H4 p a f/\FSt H H4 p a a):=by
  rintro fv args R' err ⟨aw,bh,ay,aB,H3,r1,r2,r3,r4⟩
  obtain⟨H4,s1,s2,s3,s4⟩:=fx (n:=4) (vs:=rv aw R'.st ay aB) (c2.out r3 (by simp)) rfl rfl (by simp[r2.v.d.row.one,r2.t.rl.one,r2.s.jG,kK])
  have o4:Out [] H H4:=gi (dQ.trans r3) s3 (jX (afh _))
  have F4:=h.out0 o4
  by_cases he:err=0
  ·have hRV:RV H4 aw bh ay aB R':=r2.v.out s3 fun j hj=>by rw[No];have:=r4 j hj;omega
   have vf:∀ j∈(RA.mk aw bh ay aB).fp,j∉own p a:=fun j hj q=>by have:=r4 j hj;have:=h.lt j q;omega
   obtain⟨H5,t1,t2,t3,t4⟩:=F4.Xv hx q2 (r':=⟨aw,bh,ay,aB⟩) hRV vf
   exact⟨aw,bh,ay,aB,H3,H4,_,H5,r1,s1,fun _=>⟨s2.ar 4 0 (by simp),t1,t2,(o4.mono fun j hj=>by cases hj).trans (t3.mono fun j hj=>fI (k:=5) rfl hj),fun j hj => .inl hj,fun j hj=>(t4 j hj).imp (fun q=>q) fun q=>by have:=r4 j q;omega⟩,fun q=>absurd he q⟩
  ·exact⟨aw,bh,ay,aB,H3,H4,a,H4,r1,s1,fun q=>absurd q he,fun _=>⟨rfl,rfl,F4,FSt.same o4 p a⟩⟩
 have done:∀ (R':Rn) (err:Int),opM x.1 e f.ck=(R',err)->(∃ (aw:AV) (bh:List AV) (ay aB:AV) (H3 H4:Hp) (a':FA) (H5:Hp),cK (.func (.func 43) [] []) [.ptr p 0,.agg (aG e)] H=some (.int .i64 err,H5)/\
   (err=0->ar H4 (H.next+1) 0 4=some (rv aw R'.st ay aB)/\st 4 (.ptr b o) (.agg (rv aw R'.st ay aB)) H4=some H5/\FL H5 p a' { f with az:=f.az.set i (R',x.2) }/\FSt H H5 p a a')/\(err≠0->H5=H4/\a'=a/\FL H4 p a f/\FSt H H4 p a a)/\H3=H3)->
   ∃ a' H',cK (.func (.func 43) [] []) [.ptr p 0,.agg (aG e)] H=some (.int .i64 (if (opM x.1 e f.ck).2=0 then ({ f with az:=f.az.set i ((opM x.1 e f.ck).1,x.2) },0) else (f,(opM x.1 e f.ck).2):Fm × Int).2,H')/\FL H' p a' (if (opM x.1 e f.ck).2=0 then ({ f with az:=f.az.set i ((opM x.1 e f.ck).1,x.2) },0) else (f,(opM x.1 e f.ck).2):Fm × Int).1/\FSt H H' p a a':=by
  rintro R' err ho ⟨aw,bh,ay,aB,H3,H4,a',H5,w1,w2,w3,_⟩
  rw[ho]
  by_cases he:err=0
  ·obtain⟨_,_,z3,z4⟩:=w2 he
   rw[if_pos he]
   subst he
   exact⟨a',H5,w1,z3,z4⟩
  ·obtain⟨rfl,rfl,z3,z4⟩:=w3 he
   rw[if_neg he]
   exact⟨a',H5,w1,z3,z4⟩
 by_cases b3:e.kd=3
 ·obtain⟨aw,bh,ay,aB,H3,H4,a',H5,w1,w2,w3,w4⟩:=fin _ _ _ _ (akx q7 xR e.tk e.ty f.ck)
  refine done _ _ (by unfold opM;rw[if_pos b3]) ⟨aw,bh,ay,aB,H3,H4,a',H5,FH ?_,w3,w4,rfl⟩
  have d3:(e.kd==3)=true:=by simp[b3]
  unfold Bs
  by_cases he:(oA x.1 e.tk e.ty f.ck).2=0
  ·obtain⟨z1,z2,_⟩:=w3 he
   simp(disch:=first|exact zqz|fail)only[aW,k3,E1,hw,q2,n1,dc,E0,E2,E3,k0,q5,w1,w2,d3,he,z1,z2,av,au,ai,aj,simprocAttr]
  ·obtain⟨rfl,_⟩:=w4 he
   have dn:((oA x.1 e.tk e.ty f.ck).2==0)=false:=by simp[he]
   simp(disch:=first|exact zqz|fail)only[aW,k3,E1,hw,q2,n1,dc,E0,E2,E3,k0,q5,w1,w2,d3,dn,av,au,ai,aj,simprocAttr]
 have d3:(e.kd==3)=false:=by simp[b3]
 by_cases b4:e.kd=4
 ·obtain⟨aw,bh,ay,aB,H3,H4,a',H5,w1,w2,w3,w4⟩:=fin _ _ _ _ (aoF q7 xR e.tk e.ty e.dt)
  refine done _ _ (by unfold opM;rw[if_neg b3,if_pos b4]) ⟨aw,bh,ay,aB,H3,H4,a',H5,FH ?_,w3,w4,rfl⟩
  have d4:(e.kd==4)=true:=by simp[b4]
  unfold Bs
  by_cases he:(p8 x.1 e.tk e.ty e.dt).2=0
  ·obtain⟨z1,z2,_⟩:=w3 he
   simp(disch:=first|exact zqz|fail)only[aW,k3,E1,hw,q2,n1,dc,E0,E2,E3,E7,q5,w1,w2,d3,d4,he,z1,z2,av,au,ai,aj,simprocAttr]
  ·obtain⟨rfl,_⟩:=w4 he
   have dn:((p8 x.1 e.tk e.ty e.dt).2==0)=false:=by simp[he]
   simp(disch:=first|exact zqz|fail)only[aW,k3,E1,hw,q2,n1,dc,E0,E2,E3,E7,q5,w1,w2,d3,d4,dn,av,au,ai,aj,simprocAttr]
 have d4:(e.kd==4)=false:=by simp[b4]
 by_cases b5:e.kd=5
 ·obtain⟨aw,bh,ay,aB,H3,H4,a',H5,w1,w2,w3,w4⟩:=fin _ _ _ _ (anV q7 xR ok2 e.tk e.ty f.ck)
  refine done _ _ (by unfold opM;rw[if_neg b3,if_neg b4,if_pos b5]) ⟨aw,bh,ay,aB,H3,H4,a',H5,FH ?_,w3,w4,rfl⟩
  have d5:(e.kd==5)=true:=by simp[b5]
  unfold Bs
  by_cases he:(vG x.1 e.tk e.ty f.ck).2=0
  ·obtain⟨z1,z2,_⟩:=w3 he
   simp(disch:=first|exact zqz|fail)only[aW,k3,E1,hw,q2,n1,dc,E0,E2,E3,k0,q5,w1,w2,d3,d4,d5,he,z1,z2,av,au,ai,aj,simprocAttr]
  ·obtain⟨rfl,_⟩:=w4 he
   have dn:((vG x.1 e.tk e.ty f.ck).2==0)=false:=by simp[he]
   simp(disch:=first|exact zqz|fail)only[aW,k3,E1,hw,q2,n1,dc,E0,E2,E3,k0,q5,w1,w2,d3,d4,d5,dn,av,au,ai,aj,simprocAttr]
 have d5:(e.kd==5)=false:=by simp[b5]
 by_cases b7:e.kd=7
 ·obtain⟨aw,bh,ay,aB,H3,H4,a',H5,w1,w2,w3,w4⟩:=fin _ _ _ _ (ac9 q7 xR ok3 e.nm)
  refine done _ _ (by unfold opM;rw[if_neg b3,if_neg b4,if_neg b5,if_pos b7]) ⟨aw,bh,ay,aB,H3,H4,a',H5,FH ?_,w3,w4,rfl⟩
  have d7:(e.kd==7)=true:=by simp[b7]
  unfold Bs
  by_cases he:(rE x.1 e.nm).2=0
  ·obtain⟨z1,z2,_⟩:=w3 he
   simp(disch:=first|exact zqz|fail)only[aW,k3,E1,hw,q2,n1,dc,E0,E5,q5,w1,w2,d3,d4,d5,d7,he,z1,z2,av,au,ai,aj,simprocAttr]
  ·obtain⟨rfl,_⟩:=w4 he
   have dn:((rE x.1 e.nm).2==0)=false:=by simp[he]
   simp(disch:=first|exact zqz|fail)only[aW,k3,E1,hw,q2,n1,dc,E0,E5,q5,w1,w2,d3,d4,d5,d7,dn,av,au,ai,aj,simprocAttr]
 have d7:(e.kd==7)=false:=by simp[b7]
 obtain⟨aw,bh,ay,aB,H3,H4,a',H5,w1,w2,w3,w4⟩:=fin _ _ _ _ (cancel_c q7 xR)
 refine done _ _ (by unfold opM;rw[if_neg b3,if_neg b4,if_neg b5,if_neg b7]) ⟨aw,bh,ay,aB,H3,H4,a',H5,FH ?_,w3,w4,rfl⟩
 unfold Bs
 by_cases he:(cancelM x.1).2=0
 ·obtain⟨z1,z2,_⟩:=w3 he
  simp(disch:=first|exact zqz|fail)only[aW,k3,E1,hw,q2,n1,dc,E0,q5,w1,w2,d3,d4,d5,d7,he,z1,z2,av,au,ai,aj,simprocAttr]
 ·obtain⟨rfl,_⟩:=w4 he
  have dn:((cancelM x.1).2==0)=false:=by simp[he]
  simp(disch:=first|exact zqz|fail)only[aW,k3,E1,hw,q2,n1,dc,E0,q5,w1,w2,d3,d4,d5,d7,dn,av,au,ai,aj,simprocAttr]
structure Fok (f:Fm):Prop where
 run:∀ x∈f.az,lL x.1/\ua x.1/\x.1.sg.length<=900
 nr:f.az.length<=64
 nn:f.nms.length<=16
 nk:f.ks.length<128
noncomputable def applyM (f:Fm)(e:Ev):Fm × Int:=
 if wm e=true then (if e.kd=1 then DD f e.nm e.dt else if e.kd=2 then startM f e else if e.kd=6 then tickF f e.n else if e.kd=9 then (f,0) else if (f.az.length:Int)<e.rn then (f,4) else changeM f e) else (f,1)
theorem good_rn {e:Ev}(h:wm e=true)(h1:e.kd≠1)(h6:e.kd≠6)(h9:e.kd≠9):1<=e.rn/\e.rn<=64:=by
 unfold wm at h
 rw[aau,aau] at h
 obtain⟨g1,_,g2⟩:=h
 have hm:(82:Nat)∈fieldsM e.kd:=by
  unfold fieldsM at g1 ⊢
  rw[if_neg h1] at g1 ⊢
  by_cases h2:e.kd=2
  ·rw[if_pos h2];simp
  rw[if_neg h2] at g1 ⊢
  by_cases h3:e.kd=3\/e.kd=5
  ·rw[if_pos h3];simp
  rw[if_neg h3] at g1 ⊢
  by_cases h4:e.kd=4
  ·rw[if_pos h4];simp
  rw[if_neg h4,if_neg (by omega)] at g1 ⊢
  by_cases h7:e.kd=7
  ·rw[if_pos h7];simp
  rw[if_neg h7] at g1 ⊢
  by_cases h8:e.kd=8
  ·rw[if_pos h8];simp
  rw[if_neg h8] at g1
  simp at g1
 have:=adA.1 g2 82 hm
 unfold mw vU at this
 simp at this
 exact this
theorem apply_c {H:Hp}{p:Nat}{a:FA}{f:Fm}(h:FL H p a f)(hg:Gl H)(hk:Fok f)(e:Ev) :
  ∃ a' H',cK (.func (.func 16) [] []) [.ptr p 0,.agg (aG e)] H=some (.int .i64 (applyM f e).2,H')/\FL H' p a' (applyM f e).1/\FSt H H' p a a':=by
 have aW:bx 26 (.agg (aG e)) H=some (H.next,al H (aG e) 26 0):=ji (by rw[mD];omega)
 have o1:=aI H (aG e) 26 0
 have c1:=bg H (aG e) 26 0
 generalize al H (aG e) 26 0=H1 at *
 have k8:ar H1 H.next 0 8=some (aG e):=c1.ar 8 0 (by rw[mD];omega)
 obtain⟨H2,g1,g2⟩:=al1 e H1
 have o2:=o1.trans g2
 have c2:=c1.out g2 (by simp)
 have F2:=h.out0 o2
 have ju:=hg.out0 o2
 have E0:cellAt H2 H.next 0=some (.int .i64 e.kd):=c2.cellAt rfl
 have E1:cellAt H2 H.next 1=some (.int .i64 e.rn):=c2.cellAt rfl
 have E4:cellAt H2 H.next 4=some (.int .i64 e.n):=c2.cellAt rfl
 have E5:cellAt H2 H.next 5=some (.str e.nm):=c2.cellAt rfl
 have E7:cellAt H2 H.next 7=some (.str e.dt):=c2.cellAt rfl
 have k82:ar H2 H.next 0 8=some (aG e):=c2.ar 8 0 (by rw[mD];omega)
 unfold applyM
 cases qM:wm e with
 | false=>
  rw[qM] at g1
  rw[if_neg (by simp)]
  refine⟨a,H2,Bx ?_,F2,FSt.same o2 p a⟩
  unfold wQ
  simp(disch:=first|exact zqz|fail)only[aW,k8,g1,av,au,ai,aj,simprocAttr]
 | true=>
  rw[qM] at g1
  rw[if_pos rfl]
  by_cases b1:e.kd=1
  ·obtain⟨a',H3,d1,d2,d3⟩:=anb F2 ju hk.nn e.nm e.dt
   rw[if_pos b1]
   refine⟨a',H3,Bx ?_,d2,FSt.end o2 d3⟩
   have q1:(e.kd==1)=true:=by simp[b1]
   unfold wQ
   simp(disch:=first|exact zqz|fail)only[aW,k8,g1,E0,E5,E7,q1,d1,av,au,ai,aj,simprocAttr]
  have q1:(e.kd==1)=false:=by simp[b1]
  rw[if_neg b1]
  by_cases b2:e.kd=2
  ·obtain⟨a',H3,d1,d2,d3⟩:=start_c F2 ju hk.nk hk.nr e
   rw[if_pos b2]
   refine⟨a',H3,Bx ?_,d2,FSt.end o2 d3⟩
   have q2:(e.kd==2)=true:=by simp[b2]
   unfold wQ
   simp(disch:=first|exact zqz|fail)only[aW,k8,g1,E0,k82,q1,q2,d1,av,au,ai,aj,simprocAttr]
  have q2:(e.kd==2)=false:=by simp[b2]
  rw[if_neg b2]
  by_cases b6:e.kd=6
  ·obtain⟨a',H3,d1,d2,d3⟩:=ftick_c F2 hk.nr (fun x hx=>⟨(hk.run x hx).1,(hk.run x hx).2.1⟩) e.n
   rw[if_pos b6]
   refine⟨a',H3,Bx ?_,d2,FSt.end o2 d3⟩
   have q6:(e.kd==6)=true:=by simp[b6]
   unfold wQ
   simp(disch:=first|exact zqz|fail)only[aW,k8,g1,E0,E4,q1,q2,q6,d1,av,au,ai,aj,simprocAttr]
  have q6:(e.kd==6)=false:=by simp[b6]
  rw[if_neg b6]
  by_cases b9:e.kd=9
  ·rw[if_pos b9]
   refine⟨a,H2,Bx ?_,F2,FSt.same o2 p a⟩
   have q9:(e.kd==9)=true:=by simp[b9]
   unfold wQ
   simp(disch:=first|exact zqz|fail)only[aW,k8,g1,E0,q1,q2,q6,q9,av,au,ai,aj,simprocAttr]
  have q9:(e.kd==9)=false:=by simp[b9]
  rw[if_neg b9]
  have k3:cellAt H2 p 3=some a.rx:=F2.c.cellAt rfl
  have ff:=F2.Bg
  by_cases aJ:(f.az.length:Int)<e.rn
  ·have d:decide (((f.az.length:Nat):Int)<e.rn)=true:=decide_eq_true aJ
   rw[if_pos aJ]
   refine⟨a,H2,Bx ?_,F2,FSt.same o2 p a⟩
   unfold wQ
   simp(disch:=first|exact zqz|fail)only[aW,k8,g1,E0,E1,q1,q2,q6,q9,k3,ff,d,av,au,ai,aj,simprocAttr]
  ·have d:decide (((f.az.length:Nat):Int)<e.rn)=false:=decide_eq_false aJ
   rw[if_neg aJ]
   obtain⟨a',H3,d1,d2,d3⟩:=change_c F2 hk.nr hk.run e (good_rn qM b1 b6 b9).1 (by omega)
   refine⟨a',H3,Bx ?_,d2,FSt.end o2 d3⟩
   unfold wQ
   simp(disch:=first|exact zqz|fail)only[aW,k8,g1,E0,E1,q1,q2,q6,q9,k3,ff,d,k82,d1,av,au,ai,aj,simprocAttr]
noncomputable def anR:An->An
 | .sq _ _ b=>b
 | x=>x
noncomputable def anC:An:=anR (anR (anR (anR (anR (an 14)))))
theorem anC_eq:an 14 = .sq none .nl (.sq none .nl (.sq (some [0,3]) .nl (.sq (some [0,3]) .nl (.sq (some [0,3]) (.pr [0,3] (Q5 2 3 0)) anC)))):=by kernel_rfl
theorem anF:Re.filter (fun p => !p.2.plain)=[(14,an 14)]:=by kernel_rfl
theorem anOK:vT P an:=by
 refine Wq fun p hp => ?_
 cases hb:p.2.plain with
 | true=>exact .inl rfl
 | false=>
  right
  intro fn b h1 h2
  have hm:p∈Re.filter (fun p => !p.2.plain):=List.mem_filter.2 ⟨hp,by rw[hb];rfl⟩
  rw[anF,No] at hm
  subst hm
  have LN:b=Cw.body:=by unfold Cw.body;rw[h1];show b=(fn.body).getD .skip;rw[h2];rfl
  have hn:fn.ntmps=69:=by
   have:(P.funcs[14]?).map (·.ntmps)=some 69:=by kernel_rfl
   rw[h1] at this
   exact acN this
  rw[hn,LN,Cw.body_eq]
  show jL P 69 _ (an 14)
  rw[anC_eq]
  exact⟨jL.plain P 69 _ _ rfl,jL.plain P 69 _ _ rfl,jL.plain P 69 _ _ rfl,jL.plain P 69 _ _ rfl,Cw.copyOne,jL.plain P 69 _ _ (by kernel_rfl)⟩
theorem dj_setD {L:List (List Nat)}{k:Nat}{l l':List Nat}(h:L.Pairwise Dj)(hk:L[k]? = some l)(hl:∀ j∈l',∀ m∈L,j∉m):(L.set k l').Pairwise Dj:=by
 rw[List.pairwise_iff_getElem] at h ⊢
 intro i j hi hj nM x hx hy
 rw[ac4] at hi hj
 rw[List.getElem_set] at hx hy
 by_cases h1:k=i
 ·rw[if_pos h1] at hx
  rw[if_neg (by omega)] at hy
  exact hl x hx _ (List.getElem_mem hj) hy
 ·rw[if_neg h1] at hx
  by_cases h2:k=j
  ·rw[if_pos h2] at hy
   exact hl x hy _ (List.getElem_mem hi) hx
  ·rw[if_neg h2] at hy
   exact h i j hi hj nM x hx hy
theorem own_setD {p k:Nat}{a a':FA}{l':List Nat}(hs:gV p a'=(gV p a).set k l'):∀ j∈own p a',j∈own p a\/j∈l':=by
 intro j hj
 obtain⟨m,hm,hj⟩:=agW.1 hj
 rw[hs] at hm
 rcases agu hm with q | rfl
 ·exact .inl (agW.2 ⟨m,q,hj⟩)
 ·exact .inr hj
theorem FL.newN {H:Hp}{p:Nat}{a:FA}{f:Fm}(h:FL H p a f){fY:AV}{l:List aq}(hw:Ow H 9 1 fY (strs l))(hd:∀ j∈ak fY,j∉own p a/\11<=j/\j∉DfK.da a) :
  ∃ H2,st 1 (.ptr p 1) fY H=some H2/\FL H2 p { a with nx:=fY } { f with nms:=l }/\Out [p] H H2/\∀ j∈own p { a with nx:=fY },j∈own p a\/j∈ak fY:=by
 obtain⟨H2,s1,s2,s3,s4⟩:=fG h.c (by decide) (o:=1) (by simp) (v:=fY) hw.rw.one
 obtain⟨p0,p4,p1,p5,pk,pv⟩:=h.part s3 (i:=0) rfl
 have hs:gV p { a with nx:=fY }=(gV p a).set 4 (ak fY):=rfl
 have rC:(gV p { a with nx:=fY }).Pairwise Dj:=by rw[hs];exact dj_setD h.dj (k:=4) rfl fun j hj m hm q=>(hd j hj).1 (agW.2 ⟨m,hm,q⟩)
 have oF:=own_setD hs
 exact⟨H2,s1,⟨s2,hw.out s3 fun j hj q=>(hd j hj).1 (fI (k:=0) rfl q),p1 (by decide),h.rM,p5 (by decide),pv,h.len,pk (by decide) (by decide) (by decide),rC,fun j hj=>(oF j hj).elim (h.lo j) fun q=>(hd j q).2.1,fun j hj=>⟨fun q=>(oF j q).elim (h.da j hj).1 fun z=>(hd j z).2.2 hj,adm (h.da j hj).2 s3.1⟩⟩,s3,oF⟩
theorem FL.newR {H:Hp}{p:Nat}{a:FA}{f:Fm}(h:FL H p a f){eA:AV}{ras:List RA}{az:List (Rn × aq)}(hlen:ras.length=az.length)(hw:OL H 77 5 eA (List.zipWith dF ras az))(hv:∀ (i:Nat) (r:RA) (x:Rn × aq),ras[i]? = some r->az[i]? = some x->RV H r.dx r.xs r.tx r.sx x.1)
  (hd:∀ j∈ak eA,j∉own p a/\11<=j) (hi:∀ j∈ras.flatMap RA.fp,j∉own p a/\j∉ak eA/\j<H.next) :
  ∃ H2,st 1 (.ptr p 3) eA H=some H2/\FL H2 p { a with rx:=eA,ras:=ras } { f with az:=az }/\Out [p] H H2/\∀ j∈own p { a with rx:=eA,ras:=ras },j∈own p a\/j∈ak eA:=by
 obtain⟨H2,s1,s2,s3,s4⟩:=fG h.c (by decide) (o:=3) (by simp) (v:=eA) hw.1.rw.one
 obtain⟨p0,p4,p1,p5,pk,pv⟩:=h.part s3 (i:=0) rfl
 have hs:gV p { a with rx:=eA,ras:=ras }=(gV p a).set 5 (ak eA):=rfl
 have rC:(gV p { a with rx:=eA,ras:=ras }).Pairwise Dj:=by rw[hs];exact dj_setD h.dj (k:=5) rfl fun j hj m hm q=>(hd j hj).1 (agW.2 ⟨m,hm,q⟩)
 have oF:=own_setD hs
 have hp0:∀ {j:Nat},j∈[p]->j∈own p a:=fun q=>fI (k:=0) rfl q
 exact⟨H2,s1,⟨s2,p4 (by decide),p1 (by decide),h.rM,hw.out s3 fun j hj q=>(hd j hj).1 (hp0 q),fun i r x hr hx=>(hv i r x hr hx).out s3 fun j hj q=>(hi j (agY.2 ⟨r,aao hr,hj⟩)).1 (hp0 q),hlen,pk (by decide) (by decide) (by decide),rC,fun j hj=>(oF j hj).elim (h.lo j) fun q=>(hd j q).2,fun j hj=>⟨fun q=>(oF j q).elim (hi j hj).1 (hi j hj).2.1,adm (hi j hj).2.2 s3.1⟩⟩,s3,oF⟩
theorem strK_tx:∀ (l:List (aq × aq)) (bs:List Nat),(l.map (·.1)).Nodup->xb (mu (l.zip bs))=true
 | [],bs,_=>by cases bs<;>rfl
 | x::l,[],_=>rfl
 | x::l,b::bs,h=>by
  rw[acW,ahG] at h
  show ((mu (l.zip bs)).all _&&xb (mu (l.zip bs)))=true
  rw[strK_tx l bs h.2,Bool.and_true,adA]
  intro e he
  obtain⟨y,hy,rfl⟩:=acS.1 he
  have:y.1.1≠x.1:=fun q=>h.1 (q▸acS.2 ⟨y.1,(List.of_mem_zip (a:=y.1) (b:=y.2) hy).1,rfl⟩)
  simpa using this
theorem visF_tx:∀ (l:List (aq × aq)) (bs:List Nat) (q:Nat),bs.length=l.length->jV q (mu (l.zip bs))=mu (l.zip (List.range' q l.length))
 | [],bs,q,_=>by cases bs<;>rfl
 | x::l,[],q,h=>by simp at h
 | x::l,b::bs,q,h=>by
  rw[aaL,aiO]
  show (⟨.str x.1,.str x.2,q⟩:ME)::jV (q+1) (mu (l.zip bs))=⟨.str x.1,.str x.2,q⟩::mu (l.zip (List.range' (q+1) l.length))
  rw[visF_tx l bs (q+1) (by simpa using h)]
theorem FL.copyT {H:Hp}{p p':Nat}{a a':FA}{f f':Fm}(h:FL H p a f)(h':FL H p' a' f')(he:f'.txs=[])(aO:a'.tm≠a.tm) :
  ∃ H2,CT 2 (.ptr p' 0) (.ptr p 0) H=some H2/\FL H2 p' a' { f' with txs:=f.txs }/\Out [a'.tm] H H2:=by
 obtain⟨bs,c,t1,t2⟩:=h.t
 obtain⟨WK,c',t1',t2'⟩:=h'.t
 rw[he] at t1' t2'
 have k1:cellAt H p' (0+2)=some (.map a'.tm):=h'.c.cellAt rfl
 have k2:cellAt H p (0+2)=some (.map a.tm):=h.c.cellAt rfl
 have k3:H.h.get a'.tm=some (.map [] c'):=by have:=t2'.2;cases WK<;>exact this
 have hk:(xb (mu (f.txs.zip bs))&&!(Nat.beq a'.tm a.tm))=true:=by
  rw[strK_tx _ _ h.rM,aeD]
  cases hb:Nat.beq a'.tm a.tm with
  | false=>rfl
  | true=>exact absurd (abp hb) aO
 have aJ:=t2'.1
 have ho:Out [a'.tm] H ⟨H.h.bP a'.tm (.map (jV c' (mu (f.txs.zip bs))) (c'+(mu (f.txs.zip bs)).length)),H.next+1⟩:=⟨afh _,fun j hj hn=>by
  show (H.h.bP _ _).get j=_
  rw[Tr.yf _ _ _ _ (by rw[k3];rfl),if_neg (fun q=>hn (by rw[q];exact .head _))]⟩
 obtain⟨p0,p4,p1,p5,pk,pv⟩:=h'.part ho (i:=1) rfl
 refine⟨_,?_,⟨p0 (by decide),p4 (by decide),⟨List.range' c' f.txs.length,c'+(mu (f.txs.zip bs)).length,List.length_range',Nat.lt_succ_of_lt aJ,?_⟩,h.rM,p5 (by decide),pv,h'.len,pk (by decide) (by decide) (by decide),h'.dj,h'.lo,h'.LU ho.1⟩,ho⟩
 ·unfold CT
  simp only[k1,k2,k3,t2.2,hk,cond_true]
 ·show (H.h.bP _ _).get a'.tm=_
  rw[Tr.yf _ _ _ _ (by rw[k3];rfl),if_pos rfl,visF_tx _ _ _ t1]
theorem FL.hi {H H':Hp}{p N:Nat}{a:FA}{f:Fm}{S:List Nat}(h:FL H p a f)(k:Out S H H')(h1:∀ j∈own p a,j<N)(h2:∀ j∈DfK.da a,j<N)(hS:∀ j∈S,N<=j):FL H' p a f:=
 h.out k (fun j hj q=>by have:=h1 j hj;have:=hS j q;omega) fun j hj q=>by have:=h2 j hj;have:=hS j q;omega
theorem fclone_loop {q:Nat}{g:Fm}{ks:List Ke}{ox:AV}(hn:ks.length<=128)(gO:(ks.map (·.1)).Nodup):∀ (r:List Ke) (i:Nat) (H:Hp) (b:FA),i<=ks.length->ks.drop i=r->RL H 3 ox (ks.map lF)->(∀ j∈ak ox,j∉own q b)->FL H q b { g with ks:=ks.take i }->
  ∃ b' H',(∀ eh:K.Fn 1,Ej JN GO cK eh (.ptr q 0) ox (.int .i64 (ks.length:Nat)) (.int .i64 (i:Nat)) H=eh (.ptr q 0) H')/\FL H' q b' { g with ks:=ks }/\FSt H H' q b b'/\b'.ras=b.ras
 | [],i,H,b,hi,h,hx,hd,hF=>by
  obtain rfl:=drop_nil hi h
  rw[List.take_length] at hF
  refine⟨b,H,fun eh => ?_,hF,FSt.same (Out.refl _ _) q b,rfl⟩
  rw[Vp]
  simp only[bl_flow_Flow_Clone,fU,ai,aj,simprocAttr]
 | x::r,i,H,b,hi,h,hx,hd,hF=>by
  obtain⟨h1,h2,h3⟩:=gG h
  have es:=gf h1 (by omega)
  obtain⟨m,o,q1,q2,q3,q4,q5⟩:=hx.at (by decide) (i:=i) (c:=lF x) (by rw[adL,h2];rfl)
  have hz:st 3 (.ptr H.next 0) (.agg (lF x)) (al H [(.str []),(.str []),(.int .i64 0)] 82 0)=some (al H (lF x) 82 0):=iI rfl rfl rfl (by decide) rfl
  have o1:=aI H (lF x) 82 0
  have c1:=bg H (lF x) 82 0
  have n1:(al H (lF x) 82 0).next=H.next+1:=rfl
  generalize di:al H (lF x) 82 0=H1 at *
  have e2:cellAt H1 H.next 2=some (.int .i64 x.2):=c1.cellAt rfl
  have ek:ar H1 H.next 0 2=some (cj x.1):=c1.ar 2 0 (by simp[lF])
  have hF1:=hF.out0 o1
  have k4:cellAt H1 q 4=some (.ptr b.kp 0):=hF1.c.cellAt rfl
  have hg:getK (ks.take i) x.1=none:=by
   cases hg:getK (ks.take i) x.1 with
   | none=>rfl
   | some id=>
    obtain⟨u,v,h4,_⟩:=MZ hg
    have h5:(x.1,id)∈ks.take i:=by rw[h4];simp
    have hs:ks=ks.take i++x::r:=by rw[<-h,ahH]
    rw[hs,adI,aeY] at gO
    exact absurd rfl (gO.2.2 _ (acS.2 ⟨_,h5,rfl⟩) x.1 (by simp))
  obtain⟨tU,H2,u1,u2,u3⟩:=hF1.gx (k:=x.1) (by show (ks.take i).length<128;rw[aes];omega) hg x.2
  have ht:ks.take (i+1)=ks.take i++[x]:=by rw[agZ,h2];rfl
  have hF2:FL H2 q { b with kl:=tU } { g with ks:=ks.take (i+1) }:=by rw[ht];exact u2
  have eg:=hx.1.lt
  obtain⟨b',H',i1,i2,i3,i4⟩:=fclone_loop hn gO r (i+1) H2 _ h1 h3 ((hx.out0 o1).out u3.o fun j hj z=>hd j hj z) (fun j hj z=>(u3.w j z).elim (hd j hj) fun z=>by have:=eg j hj;have:=o1.1;omega) hF2
  refine⟨b',H',fun eh => ?_,i2,((FSt.same o1 q b).trans u3).trans i3,i4⟩
  rw[Vp]
  simp(disch:=first|exact zqz|fail)only[bl_flow_Flow_Clone,bI h1,q1,q4,hz,di,k4,ek,e2,u1,es,i1,av,au,ai,aj,simprocAttr]
theorem cloneOne_c {H:Hp}{x:AV}{l:List AV}(hx:Rw H 5 x l)(ho:∀ v∈l,aY v=true)(hl:l.length<=16777216) :
  ∃ y H',cK (.func (.func 31) [] []) [x] H=some (y,H')/\Ow H' 77 5 y l/\Out [] H H'/\(∀ j∈ak y,H.next<=j):=by
 have hu:P.underlying 64=some (.slice 77):=Tryz.underlying64
 by_cases h0:x = .ah
 ·subst h0
  have:l=[]:=by cases hx;rfl
  subst this
  refine⟨.ah,H,UF ?_,.nil,Out.refl _ _,fun j hj=>by simp[ak] at hj⟩
  unfold Pw
  simp only[EU,mH,Ge hu,ai,aj,simprocAttr]
 ·obtain⟨y,H',h1,h2,h3,h4⟩:=Gt (el:=77) (fH:=77) (z:=[.ah,(.int .i64 0),.ah,.ah,(.str [])]) hx ho (by decide) hl
  refine⟨y,H',UF ?_,h2,h3,h4⟩
  have hq:∃ i o n c ex aM,x = .slice i o n c ex aM:=by
   cases hx with
   | nil=>exact absurd rfl h0
   | emp=>exact⟨_,_,_,_,_,_,rfl⟩
   | mk _ _ _ _=>exact⟨_,_,_,_,_,_,rfl⟩
  obtain⟨i,o,n,c,ex,aM,rfl⟩:=hq
  unfold Pw
  have dL:aE H [] 77 0=some (H.next,al H [] 77 0):=gk (by simp)
  simp only[FW,mH,Ig hu,sZ,dL,h1,ai,aj,simprocAttr]
theorem flat5 (ras:List RA)(az:List (Rn × aq)):(List.zipWith dF ras az).flatten.length<=az.length*5:=by
 have:=xh (L:=List.zipWith dF ras az) (es:=5) fun c hc=>by
  obtain⟨i,hi⟩:=List.mem_iff_getElem?.1 hc
  rw[adT] at hi
  split at hi
  ·cases hi;rfl
  ·cases hi
 rw[this,agd]
 exact aeK _ (ajs _ _)
theorem fclone_c {H:Hp}{p:Nat}{a:FA}{f:Fm}(h:FL H p a f)(ki:11<=H.next)(hn:f.nms.length<=1000)(hr:f.az.length<=1000)(hk:f.ks.length<=128)(cl:(f.ks.map (·.1)).Nodup) :
  ∃ q b H',cK (.func (.func 14) [] []) [.ptr p 0] H=some (.ptr q 0,H')/\FL H' q b f/\Out [] H H'/\(∀ j∈own q b,H.next<=j)/\∀ j∈DfK.da b,j∈DfK.da a:=by
 have aJ:=h.lt
 have gN:∀ j∈DfK.da a,j<H.next:=fun j hj=>(h.da j hj).2
 obtain⟨q,b,H1,n1,n2,n3,n4,n5⟩:=P3 ki
 have mZ:DfK.da b=[]:=by unfold DfK.da;rw[n5];rfl
 have h1:=h.out0 n3
 have a0:cellAt H1 p 0=some (.int .i64 f.ck):=h1.c.cellAt rfl
 obtain⟨H2,c1,c2,c3⟩:=n2.clock f.ck
 have h2:=h1.hi c3.o aJ gN n4
 have a1:cellAt H2 p 1=some a.nx:=h2.c.cellAt rfl
 have l2:=c3.o.1
 have l1:=n3.1
 obtain⟨y,H3,y1,y2,y3,y4,_⟩:=VJ h2.n.rw (fun v hv=>by obtain⟨s,_,rfl⟩:=acS.1 hv;rfl) (by rw[iZ];omega)
 have rb:=c2.out0 y3
 have fT:=c2.lt
 obtain⟨H4,d1,d2,d3,d4⟩:=rb.newN (fY:=y) (l:=f.nms) y2 fun j hj=>⟨fun z=>by have:=y4 j hj;have:=fT j z;omega,by have:=y4 j hj;omega,by rw[mZ];exact fun z=>by cases z⟩
 have vb:∀ j∈own q { b with nx:=y },H.next<=j:=fun j hj=>(d4 j hj).elim (n4 j) fun z=>by have:=y4 j z;omega
 have h4:=(h2.out0 y3).hi d3 aJ gN fun j hj=>n4 j (fI (k:=0) rfl hj)
 obtain⟨H5,e1,e2,e3⟩:=h4.copyT d2 rfl (fun z=>by
  have s1:=vb _ (fI (p:=q) (a:={ b with nx:=y }) (k:=1) rfl (.head _))
  have s2:=aJ _ (fI (p:=p) (a:=a) (k:=1) rfl (.head _))
  have z':b.tm=a.tm:=z
  have WH:H.next<=b.tm:=s1
  omega)
 have h5:=h4.hi e3 aJ gN fun j hj=>vb j (fI (k:=1) rfl hj)
 have a3:cellAt H5 p 3=some a.rx:=h5.c.cellAt rfl
 obtain⟨eA,H6,r1,r2,r3,r4⟩:=cloneOne_c h5.r.1.rw h5.r.1.one (by have:=flat5 a.ras f.az;omega)
 have hb6:=e2.out0 r3
 have hbl6:=e2.lt
 have h6:=h5.out0 r3
 have l45:H.next<=H5.next:=by have:=y3.1;have:=d3.1;have:=e3.1;omega
 obtain⟨H7,g1,g2,g3,g4⟩:=hb6.newR (eA:=eA) (ras:=a.ras) (az:=f.az) h.len ⟨r2,h5.r.2⟩ h6.v (fun j hj=>⟨fun z=>by have:=r4 j hj;have:=hbl6 j z;omega,by have:=r4 j hj;omega⟩) fun j hj=>⟨fun z=>by have:=gN j hj;have:=vb j z;omega,fun z=>by have:=gN j hj;have:=r4 j z;omega,by have:=gN j hj;have:=r3.1;omega⟩
 have qt:∀ j∈own q { b with nx:=y,rx:=eA,ras:=a.ras },H.next<=j:=fun j hj=>(g4 j hj).elim (vb j) fun z=>by have:=r4 j z;omega
 have h7:=h6.hi g3 aJ gN fun j hj=>n4 j (fI (k:=0) rfl hj)
 have a4:cellAt H7 p 4=some (.ptr a.kp 0):=h7.c.cellAt rfl
 obtain⟨ox,H8,x1,x2,x3,x4⟩:=al6 (by omega) h7.k
 have jf:=x2.rl.len (by decide)
 rw[ads] at jf
 have hg7:=g2.lt
 obtain⟨b',H9,i1,i2,i3,i4⟩:=fclone_loop (q:=q) (g:=f) (ks:=f.ks) (ox:=ox) hk cl f.ks 0 H8 { b with nx:=y,rx:=eA,ras:=a.ras } (acD _) acI x2.rl (fun j hj z=>by have:=x4 j hj;have:=hg7 j z;omega) (g2.out0 x3)
 rw[show (((0:Nat):Int))=0 from rfl] at i1
 have oT:Out [] H H9:=by
  have s1:=n3.then c3.o fun j hj => .inr (n4 j hj)
  have s2:=(s1.trans y3).then d3 fun j hj => .inr (n4 j (fI (k:=0) rfl hj))
  have s3:=s2.then e3 fun j hj => .inr (vb j (fI (k:=1) rfl hj))
  have s4:=(s3.trans r3).then g3 fun j hj => .inr (n4 j (fI (k:=0) rfl hj))
  exact (s4.trans x3).then i3.o fun j hj => .inr (qt j hj)
 have l8:H.next<=H8.next:=by have:=r3.1;have:=g3.1;have:=x3.1;omega
 refine⟨q,b',H9,ag5 ?_,i2,oT,fun j hj=>(i3.w j hj).elim (qt j) fun z=>by omega,fun j hj => ?_⟩
 ·unfold R2
  simp(disch:=first|exact zqz|fail)only[n1,a0,c1,a1,y1,d1,e1,a3,r1,g1,a4,x1,jf,i1,av,au,ai,aj,simprocAttr]
 ·unfold DfK.da at hj ⊢
  rw[i4] at hj
  exact hj
def evs (l:List Ev):List (List AV):=l.map aG
def allP {α:Type}(p:α->α->Bool):List α->List α->Bool
 | [],_=>true
 | _::_,[]=>true
 | a::l,b::m=>p a b&&allP p l m
def eqL {α:Type}(p:α->α->Bool)(l m:List α):Bool:=decide (l.length=m.length)&&allP p l m
structure Szr (R:Rn):Prop where
 a:R.rs.length<=16777216
 b:R.sg.length<=16777216
 c:R.ts.length<=16777216
 d:∀ t∈R.ts,t.after.length<=16777216
theorem st_row {r:RA}{x:Rn × aq}(hv:(dF r x).all aY=true)(H:Hp):st 5 (.ptr H.next 0) (.agg (dF r x)) (al H [.ah,(.int .i64 0),.ah,.ah,(.str [])] 77 0)=some (al H (dF r x) 77 0):=iI hv rfl rfl (by decide) rfl
theorem FL.one {H:Hp}{p:Nat}{a:FA}{f:Fm}(h:FL H p a f){i:Nat}{r:RA}{x:Rn × aq}(hr:a.ras[i]? = some r)(hx:f.az[i]? = some x):(dF r x).all aY=true:=h.r.one _ (aao (OM hr hx))
structure SzF (f:Fm):Prop where
 n:f.nms.length<=1000
 r:f.az.length<=1000
 k:f.ks.length<=1000
 z:∀ x∈f.az,Szr x.1
theorem after_le {ts:List Tk}(hn:ts.length<=16)(ha:uY ts):∀ t∈ts,t.after.length<=16:=fun t ht=>by
 obtain⟨i,hi⟩:=adi ht
 obtain⟨x1,x2⟩:=yF ha hi
 have:=Jd (n:=ts.length) (fun a h=>⟨(x1 a h).1,(x1 a h).2.1⟩) x2
 omega
def u3 (r:RT):Bool:=r.ph==3
def u3at (rs:List RT)(k:Nat):Bool:=((rs[k]?).map u3).getD false
theorem ph_u3 (rs:List RT)(a:Int):(xw rs a != 3) = !(u3at rs a.toNat):=by
 unfold xw u3at
 cases rs[a.toNat]? <;> rfl
theorem blk_congr {rs uV:List RT}(h:∀ k,u3at rs k=u3at uV k)(t:Tk):cg rs t=cg uV t:=by
 unfold cg
 refine Nl fun a _ => ?_
 rw[ph_u3,ph_u3,h]
theorem blk_mono {rs uV:List RT}(h:∀ k,u3at rs k=true->u3at uV k=true){t:Tk}(hb:cg rs t=false):cg uV t=false:=by
 unfold cg at hb ⊢
 rw[ahM] at hb ⊢
 intro a ha
 have:=hb a ha
 rw[ph_u3] at this ⊢
 have h1:u3at rs a.toNat=true:=by simpa using this
 rw[h _ h1];simp
theorem settle_at {R:Rn}{i:Nat}{t:Tk}{r:RT}(ht:R.ts[i]? = some t)(hr:R.rs[i]? = some r):(hZ R).rs[i]? = some (jN R.rs R.sg t r):=by
 unfold hZ
 simp only
 rw[adT,ht,hr]
theorem settle_len {R:Rn}(h:R.rs.length=R.ts.length):(hZ R).rs.length=R.rs.length:=by
 unfold hZ
 simp only
 rw[agd];omega
theorem settle_u3 {R:Rn}(h:R.rs.length=R.ts.length):(hZ R).rs.map u3=R.rs.map u3:=by
 apply ahF
 intro k
 rw[adL,adL]
 by_cases hk:k<R.rs.length
 ·have e1:R.rs[k]? = some R.rs[k]:=aai hk
  have e2:R.ts[k]? = some (R.ts[k]'(by omega)):=aai _
  rw[settle_at e2 e1,e1]
  simp only[aee]
  congr 1
  exact PZ _ _ _ _
 ·rw[af1 (by rw[settle_len h];omega),af1 (by omega)]
theorem u3at_map {rs uV:List RT}(h:rs.map u3=uV.map u3)(k:Nat):u3at rs k=u3at uV k:=by
 unfold u3at
 rw[<-adL,<-adL,h]
theorem cnt_map {rs uV:List RT}(h:rs.map u3=uV.map u3):rs.countP u3=uV.countP u3:=by
 have e:∀ l:List RT,l.countP u3=(l.map u3).countP id:=fun l=>by rw[List.countP_map];rfl
 rw[e,e,h]
theorem all_cnt {l:List RT}:(l.all fun r=>r.ph==3)=decide (l.countP u3=l.length):=by
 rw[Bool.eq_iff_iff,adA,decide_eq_true_eq,List.countP_eq_length]
 exact Iff.rfl
theorem settle_st {R:Rn}:(hZ R).st=if R.rs.countP u3=R.rs.length then 1 else R.st:=by
 unfold hZ
 simp only
 rw[all_cnt]
 by_cases h:R.rs.countP u3=R.rs.length
 ·rw[decide_eq_true h,if_pos rfl,if_pos h]
 ·rw[decide_eq_false h,if_neg (by simp),if_neg h]
structure Inv0 (R:Rn):Prop where
 ok:lL R
 n1:1<=R.rs.length
 n2:R.rs.length<=16
 td:∀ t∈R.ts,0<=t.retry/\t.retry<=8/\1<=t.base/\t.base<=1000
 tr:∀ (i:Nat) (t:Tk) (r:RT),R.ts[i]? = some t->R.rs[i]? = some r->0<=r.tr/\r.tr<=t.retry+1/\(r.ph=0\/r.ph=1\/r.ph=5->r.tr<=t.retry)/\(r.ph≠0->cg R.rs t=false)
def stI (R:Rn):Prop:=R.st=1 ↔ ∀ r∈R.rs,r.ph=3
structure Step (R R':Rn):Prop where
 ts:R'.ts=R.ts
 len:R'.rs.length=R.rs.length
 mono:∀ (i:Nat) (r r':RT),R.rs[i]? = some r->R'.rs[i]? = some r'->r.tr<=r'.tr/\(r.ph=3->r'=r)
 sg:R'.sg.length<=R.sg.length+1
theorem Step.refl (R:Rn):Step R R:=⟨rfl,rfl,fun i r r' h h'=>by rw[h] at h';cases h';exact⟨Int.le_refl _,fun _=>rfl⟩,by omega⟩
theorem Inv0.bd {R:Rn}(h:Inv0 R):ua R:=⟨fun t ht=>by have:=h.td t ht;omega,fun r hr=>by
 obtain⟨i,hi⟩:=adi hr
 have br:=(aah.1 hi).1
 have ht:R.ts[i]? = some (R.ts[i]'(by rw[<-h.ok.len];exact br)):=aai _
 have a:=h.tr i _ r ht hi
 have b:=h.td _ (aao ht)
 omega⟩
theorem u3_set {rs:List RT}{i:Nat}{r r1:RT}(hr:rs[i]? = some r)(h3:r.ph≠3):∀ k,u3at rs k=true->u3at (rs.set i r1) k=true:=by
 intro k hk
 by_cases e:i=k
 ·subst e
  unfold u3at at hk
  rw[hr] at hk
  have:(r.ph==3)=true:=hk
  exact absurd (by simpa using this) h3
 ·unfold u3at at hk ⊢
  rw[aia e];exact hk
theorem set_inv {R:Rn}{i:Nat}{t:Tk}{r r1:RT}{s1:Int}(h:Inv0 R)(ht:R.ts[i]? = some t)(hr:R.rs[i]? = some r)(h3:r.ph≠3)(h0:r.ph≠0)(b1:r.tr<=r1.tr)(b2:r1.tr<=t.retry+1)(b3:r1.ph=0\/r1.ph=1\/r1.ph=5->r1.tr<=t.retry) :
  Inv0 { R with rs:=R.rs.set i r1,st:=s1 }/\Step R { R with rs:=R.rs.set i r1,st:=s1 }:=by
 have hu:=u3_set (r1:=r1) hr h3
 have br:=(aah.1 hr).1
 have hk:=h.ok.set i r1
 refine⟨⟨⟨⟨hk.sm.n,hk.sm.a,hk.sm.r,hk.sm.s⟩,hk.len,hk.jn⟩,by show 1<=(R.rs.set i r1).length;rw[ac4];exact h.n1,by show (R.rs.set i r1).length<=16;rw[ac4];exact h.n2,h.td,fun j u q iS hq => ?_⟩,rfl,ac4,fun j q q' hq hq' => ?_,by show R.sg.length<=_;omega⟩
 ·have qt:(R.rs.set i r1)[j]? = some q:=hq
  have qV:R.ts[j]? = some u:=iS
  by_cases e:i=j
  ·subst e
   rw[afy br] at qt
   have e1:r1=q:=acN qt
   have e2:t=u:=acN (ht.symm.trans qV)
   subst e1
   subst e2
   have a:=h.tr i t r ht hr
   exact⟨by omega,b2,b3,fun _=>blk_mono hu (a.2.2.2 h0)⟩
  ·rw[aia e] at qt
   have a:=h.tr j u q qV qt
   exact⟨a.1,a.2.1,a.2.2.1,fun z=>blk_mono hu (a.2.2.2 z)⟩
 ·have qt:(R.rs.set i r1)[j]? = some q':=hq'
  by_cases e:i=j
  ·subst e
   rw[afy br] at qt
   have e1:r1=q':=acN qt
   have e2:r=q:=acN (hr.symm.trans hq)
   subst e1
   subst e2
   exact⟨b1,fun z=>absurd z h3⟩
  ·rw[aia e] at qt
   have e1:q=q':=acN (hq.symm.trans qt)
   subst e1
   exact⟨Int.le_refl _,fun _=>rfl⟩
theorem settle_inv {R:Rn}(h:Inv0 R):Inv0 (hZ R)/\Step R (hZ R):=by
 have hl:=h.ok.len
 have hlen:=settle_len hl
 have hb:∀ t,cg (hZ R).rs t=cg R.rs t:=fun t=>blk_congr (u3at_map (settle_u3 hl)) t
 have ey:∀ (i:Nat) (r:RT),(hZ R).rs[i]? = some r->∃ t r0,R.ts[i]? = some t/\R.rs[i]? = some r0/\r=jN R.rs R.sg t r0:=by
  intro i r hr
  have br:=(aah.1 hr).1
  rw[hlen] at br
  have e1:R.rs[i]? = some R.rs[i]:=aai _
  have e2:R.ts[i]? = some (R.ts[i]'(by rw[<-hl];exact br)):=aai _
  rw[settle_at e2 e1] at hr
  cases hr
  exact⟨_,_,e2,e1,rfl⟩
 have e1:(hZ R).ts=R.ts:=rfl
 have e2:(hZ R).sg=R.sg:=rfl
 refine⟨⟨⟨⟨h.ok.sm.n,h.ok.sm.a,by rw[hlen];exact h.ok.sm.r,h.ok.sm.s⟩,by rw[hlen];exact hl,h.ok.jn⟩,by rw[hlen];exact h.n1,by rw[hlen];exact h.n2,h.td,fun i t r ht hr => ?_⟩,rfl,hlen,fun i r r' hr eu => ?_,by rw[e2];omega⟩
 ·obtain⟨t',r0,k1,k2,rfl⟩:=ey i r hr
  have ht:R.ts[i]? = some t:=ht
  rw[k1] at ht
  cases ht
  have a:=h.tr i t r0 k1 k2
  rw[hb]
  unfold jN
  split
  ·rename_i hy
   unfold yd at hy
   simp only[aau,aix,beq_iff_eq] at hy
   exact⟨a.1,a.2.1,fun _=>a.2.2.1 (.inl hy.1),fun _=>hy.2.1⟩
  ·exact a
 ·obtain⟨t',r0,k1,k2,rfl⟩:=ey i r' eu
  rw[hr] at k2
  cases k2
  unfold jN
  split
  ·rename_i hy
   unfold yd at hy
   rw[aau,beq_iff_eq] at hy
   exact⟨Int.le_refl _,fun z=>by rw[hy.1] at z;cases z⟩
  ·exact⟨Int.le_refl _,fun _=>rfl⟩
theorem Step.trans {A B C:Rn}(h:Step A B)(k:Step B C)(hs:B.sg=A.sg\/C.sg=B.sg):Step A C:=by
 refine⟨k.ts.trans h.ts,k.len.trans h.len,fun i r r' hr eu => ?_,?_⟩
 ·have br:=(aah.1 hr).1
  have e:B.rs[i]? = some (B.rs[i]'(by rw[h.len];exact br)):=aai _
  obtain⟨a1,a2⟩:=h.mono i r _ hr e
  obtain⟨b1,b2⟩:=k.mono i _ r' e eu
  exact⟨by omega,fun z=>by rw[b2 (by rw[a2 z];exact z),a2 z]⟩
 ·have a:=h.sg
  have b:=k.sg
  rcases hs with e | e
  ·rw[e] at b;exact b
  ·rw[e];exact a
theorem stI_of {R:Rn}(h:R.rs.countP u3=R.rs.length->R.st=1)(h':R.rs.countP u3≠R.rs.length->R.st≠1):stI R:=by
 unfold stI
 constructor
 ·intro e r hr
  refine Classical.byContradiction fun q => ?_
  by_cases hc:R.rs.countP u3=R.rs.length
  ·rw[List.countP_eq_length] at hc
   have:=hc r hr
   unfold u3 at this
   exact q (by simpa using this)
  ·exact h' hc e
 ·intro e
  refine h ?_
  rw[List.countP_eq_length]
  intro r hr
  unfold u3
  rw[e r hr];rfl
theorem not_all {R:Rn}{i:Nat}{r:RT}(hr:R.rs[i]? = some r)(h3:r.ph≠3)(hs:R.st≠1):stI R:=by
 unfold stI
 exact⟨fun e=>absurd e hs,fun e=>absurd (e r (aao hr)) h3⟩
theorem settle_stI {R:Rn}(hl:R.rs.length=R.ts.length)(h0:R.st≠1):stI (hZ R):=by
 have hc:=cnt_map (settle_u3 hl)
 have hlen:=settle_len hl
 have aC:=settle_st (R:=R)
 refine stI_of (fun e => ?_) (fun e => ?_)
 ·rw[hc,hlen] at e
  rw[aC,if_pos e]
 ·rw[hc,hlen] at e
  rw[aC,if_neg e];exact h0
def Good1 (R R':Rn)(e:Int):Prop:=e=0->Inv0 R'/\stI R'/\Step R R'
theorem lease_good {R:Rn}(h:Inv0 R)(hs:stI R)(task now:Int)(t:RT)(ht:R.rs[task.toNat]? = some t):Good1 R (oA R task (fA (t.tr+1)) now).1 (oA R task (fA (t.tr+1)) now).2:=by
 intro he
 unfold oA at he ⊢
 by_cases h0:oM R task=0
 ·obtain⟨i,u,rfl,hu,aC⟩:=GR h0
  rw[acr] at ht
  have e0:u=t:=acN (hu.symm.trans ht)
  subst e0
  have br:=(aah.1 hu).1
  have hd:R.ts[i]? = some (R.ts[i]'(by rw[<-h.ok.len];exact br)):=aai _
  rw[if_pos h0,acr,hu,hd] at he ⊢
  simp only at he ⊢
  by_cases h1:u.ph=1
  ·rw[if_pos h1,if_pos trivial]
   have a:=h.tr i _ u hd hu
   have b:=h.td _ (aao hd)
   have c:=a.2.2.1 (.inr (.inl h1))
   have ew:fA (u.tr+1)=u.tr+1:=wrap_i64 (by omega) (by omega)
   obtain⟨k1,k2⟩:=set_inv (s1:=R.st) (r1:=⟨2,fA (u.tr+1),fA (now+(R.ts[i]'(by rw[<-h.ok.len];exact br)).wait),u.xJ⟩) h hd hu (by rw[h1];decide) (by rw[h1];decide) (by show u.tr<=fA (u.tr+1);rw[ew];omega) (by show fA (u.tr+1)<=_;rw[ew];omega) (by intro z;rcases z with z | z | z<;>cases z)
   refine⟨k1,?_,k2⟩
   exact not_all (i:=i) (afy br) (by show (2:Int)≠3;decide) (by show R.st≠1;rw[aC];decide)
  ·rw[if_neg h1] at he;cases he
 ·rw[if_neg h0] at he;exact absurd he h0
theorem done_good {R:Rn}(h:Inv0 R)(hs:stI R)(task bu:Int)(d:aq):Good1 R (p8 R task bu d).1 (p8 R task bu d).2:=by
 intro he
 unfold p8 at he ⊢
 by_cases h0:nb R task bu=0
 ·obtain⟨i,u,rfl,hu,aC,mA,G8⟩:=K3 h0
  have br:=(aah.1 hu).1
  have hd:R.ts[i]? = some (R.ts[i]'(by rw[<-h.ok.len];exact br)):=aai _
  rw[if_pos h0,acr]
  have a:=h.tr i _ u hd hu
  obtain⟨k1,k2⟩:=set_inv (s1:=R.st) (r1:=⟨3,bu,0,d⟩) h hd hu (by rw[mA];decide) (by rw[mA];decide) (by show u.tr<=bu;omega) (by show bu<=_;omega) (by intro z;rcases z with z | z | z<;>cases z)
  obtain⟨m1,m2⟩:=settle_inv k1
  exact⟨m1,settle_stI k1.ok.len (by show R.st≠1;rw[aC];decide),k2.trans m2 (.inr rfl)⟩
 ·rw[if_neg h0] at he;exact absurd he h0
theorem failR_good {R:Rn}(h:Inv0 R){i:Nat}{t:RT}{d:Tk}(hr:R.rs[i]? = some t)(hd:R.ts[i]? = some d)(aC:R.st=0)(mA:t.ph=2)(now:Int):Inv0 (lY R i t d now)/\stI (lY R i t d now)/\Step R (lY R i t d now)/\(lY R i t d now).sg=R.sg:=by
 have br:=(aah.1 hr).1
 have a:=h.tr i d t hd hr
 unfold lY
 split
 ·rename_i hle
  obtain⟨k1,k2⟩:=set_inv (s1:=R.st) (r1:={ t with ph:=5,kN:=fA (now+dM d.base t.tr) }) h hd hr (by rw[mA];decide) (by rw[mA];decide) (Int.le_refl _) a.2.1 (fun _=>hle)
  exact⟨k1,not_all (i:=i) (afy br) (by show (5:Int)≠3;decide) (by show R.st≠1;rw[aC];decide),k2,rfl⟩
 ·obtain⟨k1,k2⟩:=set_inv (s1:=2) (r1:={ t with ph:=4,kN:=0 }) h hd hr (by rw[mA];decide) (by rw[mA];decide) (Int.le_refl _) a.2.1 (by intro z;rcases z with z | z | z<;>cases z)
  exact⟨k1,not_all (i:=i) (afy br) (by show (4:Int)≠3;decide) (by show (2:Int)≠1;decide),k2,rfl⟩
theorem tickAt_good {R:Rn}(h:Inv0 R)(hs:stI R)(i:Nat)(now:Int):Inv0 (tickAt now R i)/\stI (tickAt now R i)/\Step R (tickAt now R i)/\(tickAt now R i).sg=R.sg:=by
 unfold tickAt
 split
 ·rename_i t d ht hd
  split
  ·exact⟨h,hs,Step.refl R,rfl⟩
  ·rename_i hn
   rw[not_or] at hn
   have aC:R.st=0:=ahk.1 hn.1
   split
   ·rename_i mA
    exact failR_good h ht hd aC mA now
   ·split
    ·rename_i mA
     have br:=(aah.1 ht).1
     have a:=h.tr i d t hd ht
     obtain⟨k1,k2⟩:=set_inv (s1:=R.st) (r1:={ t with ph:=1,kN:=0 }) h hd ht (by rw[mA];decide) (by rw[mA];decide) (Int.le_refl _) a.2.1 (fun _=>a.2.2.1 (.inr (.inr mA)))
     exact⟨k1,not_all (i:=i) (afy br) (by show (1:Int)≠3;decide) (by show R.st≠1;rw[aC];decide),k2,rfl⟩
    ·exact⟨h,hs,Step.refl R,rfl⟩
 ·exact⟨h,hs,Step.refl R,rfl⟩
theorem signal_good {R:Rn}(h:Inv0 R)(hs:stI R)(name:aq)(xa:R.sg.length<=900):Good1 R (rE R name).1 (rE R name).2:=by
 intro he
 unfold rE at he ⊢
 by_cases h0:R.st≠0
 ·rw[if_pos h0] at he;cases he
 rw[if_neg h0] at he ⊢
 have aC:R.st=0:=ahk.1 h0
 split at he
 ·cases he
 ·rename_i h5
  rw[if_neg h5]
  split at he
  ·rename_i h6
   rw[if_pos h6]
   have k1:Inv0 { R with sg:=R.sg++[name] }:=⟨⟨⟨h.ok.sm.n,h.ok.sm.a,h.ok.sm.r,by show (R.sg++[name]).length<=1000;rw[aaX];simp;omega⟩,h.ok.len,h.ok.jn⟩,h.n1,h.n2,h.td,h.tr⟩
   have k2:Step R { R with sg:=R.sg++[name] }:=⟨rfl,rfl,(Step.refl R).mono,by show (R.sg++[name]).length<=_;rw[aaX];simp⟩
   obtain⟨m1,m2⟩:=settle_inv k1
   exact⟨m1,settle_stI k1.ok.len (by show R.st≠1;rw[aC];decide),k2.trans m2 (.inr rfl)⟩
  ·cases he
theorem new_inv {ts:List Tk}(hg:iY ts=0)(h1:1<=ts.length)(h2:ts.length<=16)(ha:uY ts)(hq:∀ t∈ts,vM t=false/\sO t=false):Inv0 (bL ts).1/\stI (bL ts).1/\(bL ts).1.sg.length=0/\(bL ts).1.ts=ts/\(bL ts).2=0:=by
 unfold bL
 rw[if_pos hg]
 have dm:=after_le h2 ha
 have h0:Inv0 ⟨ts,0,List.replicate ts.length mT,[]⟩:=by
  refine⟨⟨⟨by show ts.length<=1000;omega,fun t ht=>by have:=dm t ht;omega,by show (List.replicate ts.length mT).length<=1000;rw[aeF];omega,acD _⟩,by show (List.replicate ts.length mT).length=ts.length;rw[aeF],fun t ht a haa => ?_⟩,by show 1<=(List.replicate ts.length mT).length;rw[aeF];exact h1,by show (List.replicate ts.length mT).length<=16;rw[aeF];exact h2,fun t ht => ?_,fun i t r ht hr => ?_⟩
  ·obtain⟨i,hi⟩:=adi ht
   have:=(yF ha hi).1 a haa
   exact⟨this.1,by show a<(ts.length:Int);omega⟩
  ·have:=(hq t ht).2
   unfold sO at this
   simp only[aid,Bool.not_eq_false',aau,decide_eq_true_eq] at this
   omega
  ·have:=aao hr
   have e:r=mT:=(List.mem_replicate.1 this).2
   subst e
   have ho:=(hq t (aao ht)).2
   unfold sO at ho
   simp only[aid,Bool.not_eq_false',aau,decide_eq_true_eq] at ho
   exact⟨by show (0:Int)<=0;omega,by show (0:Int)<=t.retry+1;omega,fun _=>by show (0:Int)<=t.retry;omega,fun z=>absurd rfl z⟩
 exact⟨(settle_inv h0).1,settle_stI h0.ok.len (by show (0:Int)≠1;decide),rfl,rfl,rfl⟩
structure TI (r:RT):Prop where
 ph:0<=r.ph/\r.ph<=5
 dt:r.xJ.length<=64
 tl:0<=r.kN/\r.kN<=1099511691776
 tz:r.ph≠2->r.ph≠5->r.kN=0
structure RI (R:Rn):Prop where
 i0:Inv0 R
 s1:stI R
 st:0<=R.st/\R.st<=3
 ti:∀ r∈R.rs,TI r
 sn:R.sg.Nodup
 sk:∀ s∈R.sg,s≠[]/\∃ t∈R.ts,t.on=s
 wt:∀ t∈R.ts,1<=t.wait/\t.wait<=1000
theorem nodup_len:∀ (l m:List aq),l.Nodup->(∀ x∈l,x∈m)->l.length<=m.length
 | [],m,_,_=>acD _
 | x::l,m,hn,h=>by
  rw[ahG] at hn
  have hx:=h x (.head _)
  have ih:=nodup_len l (m.erase x) hn.2 fun y hy=>(List.mem_erase_of_ne fun q=>hn.1 (by rw[<-q];exact hy)).2 (h y (.tail _ hy))
  have:=List.length_erase_of_mem hx
  have:=List.length_pos_of_mem hx
  rw[aaL];omega
theorem RI.sg {R:Rn}(h:RI R):R.sg.length<=16:=by
 have:=nodup_len R.sg (R.ts.map (·.on)) h.sn fun s hs=>by
  obtain⟨_,t,ht,rfl⟩:=h.sk s hs
  exact List.mem_map_of_mem ht
 rw[ads,<-h.i0.ok.len] at this
 have:=h.i0.n2
 omega
theorem RI.to {R R':Rn}(h:RI R)(a:Inv0 R')(b:stI R')(qL:R'.ts=R.ts)(xa:R'.sg=R.sg)(aC:0<=R'.st/\R'.st<=3)(hti:∀ r∈R'.rs,TI r):RI R':=
 ⟨a,b,aC,hti,by rw[xa];exact h.sn,by rw[xa,qL];exact h.sk,by rw[qL];exact h.wt⟩
theorem ti_set {rs:List RT}{i:Nat}{u:RT}(h:∀ r∈rs,TI r)(hu:TI u):∀ r∈rs.set i u,TI r:=fun r hr=>(mem_set hr).elim (h r) fun q=>q▸hu
theorem ti_settle {R:Rn}(h:∀ r∈R.rs,TI r):∀ r∈(hZ R).rs,TI r:=by
 intro r hr
 obtain⟨i,hi⟩:=adi hr
 have hz:(List.zipWith (jN R.rs R.sg) R.ts R.rs)[i]? = some r:=hi
 rw[adT] at hz
 cases ht:R.ts[i]? with
 | none=>rw[ht] at hz;cases hz
 | some t=>
  cases hq:R.rs[i]? with
  | none=>rw[ht,hq] at hz;cases hz
  | some q=>
   rw[ht,hq] at hz
   have hq0:=h q (aao hq)
   have Dn:jN R.rs R.sg t q=r:=acN hz
   subst Dn
   unfold jN
   split
   ·rename_i ud
    unfold yd at ud
    rw[aau,beq_iff_eq] at ud
    exact⟨⟨by show (0:Int)<=1;omega,by show (1:Int)<=5;omega⟩,hq0.dt,hq0.tl,fun _ _=>hq0.tz (by rw[ud.1];decide) (by rw[ud.1];decide)⟩
   ·exact hq0
theorem st_settle {R:Rn}(h:0<=R.st/\R.st<=3):0<=(hZ R).st/\(hZ R).st<=3:=by
 unfold hZ
 simp only
 split<;>omega
theorem lease_ri {R:Rn}(h:RI R)(task bu now:Int)(h0:0<=now)(h1:now<=1099511627776)(he:(oA R task bu now).2=0):RI (oA R task bu now).1/\(oA R task bu now).1.ts=R.ts:=by
 have hm:oM R task=0:=by
  unfold oA at he
  by_cases q:oM R task=0
  ·exact q
  ·rw[if_neg q] at he;exact absurd he q
 obtain⟨i,t,rfl,ht,aC⟩:=GR hm
 have br:=(aah.1 ht).1
 have hd:R.ts[i]? = some (R.ts[i]'(by rw[<-h.i0.ok.len];exact br)):=aai _
 have G8:bu=fA (t.tr+1):=by
  unfold oA at he
  rw[if_pos hm,acr,ht,hd] at he
  simp only at he
  by_cases q:t.ph=1
  ·rw[if_pos q] at he
   by_cases q2:bu=fA (t.tr+1)
   ·exact q2
   ·rw[if_neg q2] at he;cases he
  ·rw[if_neg q] at he;cases he
 subst G8
 obtain⟨a,b,_⟩:=lease_good h.i0 h.s1 (i:Int) now t (by rw[acr];exact ht) he
 have hw:=h.wt _ (aao hd)
 have key:oA R (i:Int) (fA (t.tr+1)) now=({ R with rs:=R.rs.set i ⟨2,fA (t.tr+1),fA (now+(R.ts[i]'(by rw[<-h.i0.ok.len];exact br)).wait),t.xJ⟩ },0):=by
  unfold oA at he ⊢
  rw[if_pos hm,acr,ht,hd] at he ⊢
  simp only at he ⊢
  by_cases q:t.ph=1
  ·rw[if_pos q,if_pos trivial]
  ·rw[if_neg q] at he;cases he
 have qL:(oA R (i:Int) (fA (t.tr+1)) now).1.ts=R.ts:=by rw[key]
 refine⟨h.to a b qL (by rw[key]) (by rw[key];exact h.st) ?_,qL⟩
 rw[key]
 refine ti_set h.ti ⟨⟨by show (0:Int)<=2;omega,by show (2:Int)<=5;omega⟩,(h.ti t (aao ht)).dt,?_,fun q=>absurd rfl q⟩
 show 0<=fA _/\fA _<=_
 rw[show fA (now+(R.ts[i]'(by rw[<-h.i0.ok.len];exact br)).wait)=now+(R.ts[i]'(by rw[<-h.i0.ok.len];exact br)).wait from wrap_i64 (by omega) (by omega)]
 omega
theorem done_ri {R:Rn}(h:RI R)(task bu:Int)(d:aq)(hd:d.length<=64)(he:(p8 R task bu d).2=0):RI (p8 R task bu d).1/\(p8 R task bu d).1.ts=R.ts:=by
 obtain⟨a,b,_⟩:=done_good h.i0 h.s1 task bu d he
 have hm:nb R task bu=0:=by
  unfold p8 at he
  by_cases q:nb R task bu=0
  ·exact q
  ·rw[if_neg q] at he;exact absurd he q
 have key:p8 R task bu d=(hZ { R with rs:=R.rs.set task.toNat ⟨3,bu,0,d⟩ },0):=by unfold p8;rw[if_pos hm]
 rw[key] at a b ⊢
 refine⟨h.to a b rfl rfl (st_settle h.st) (ti_settle (ti_set h.ti ⟨⟨by show (0:Int)<=3;omega,by show (3:Int)<=5;omega⟩,hd,⟨by show (0:Int)<=0;omega,by show (0:Int)<=_;omega⟩,fun _ _=>rfl⟩)),rfl⟩
theorem dM_le (b t:Int):0<=dM b t/\dM b t<=64000:=by
 unfold dM
 have h1:=ad6 b.toNat t.toNat
 omega
theorem failR_ri {R:Rn}(h:RI R){i:Nat}{t:RT}{d:Tk}(ht:R.rs[i]? = some t)(hd:R.ts[i]? = some d)(aC:R.st=0)(mA:t.ph=2){now:Int}(h0:0<=now)(h1:now<=1099511627776):RI (lY R i t d now)/\(lY R i t d now).ts=R.ts:=by
 obtain⟨a,b,_⟩:=failR_good h.i0 ht hd aC mA now
 have hT:=h.ti t (aao ht)
 have hb:=dM_le d.base t.tr
 unfold lY at a b ⊢
 by_cases hle:t.tr<=d.retry
 ·rw[if_pos hle] at a b ⊢
  refine⟨h.to a b rfl rfl h.st (ti_set h.ti ⟨⟨by show (0:Int)<=5;omega,by show (5:Int)<=5;omega⟩,hT.dt,?_,fun _ q=>absurd rfl q⟩),rfl⟩
  show 0<=fA _/\fA _<=_
  rw[show fA (now+dM d.base t.tr)=now+dM d.base t.tr from wrap_i64 (by omega) (by omega)]
  omega
 ·rw[if_neg hle] at a b ⊢
  exact⟨h.to a b rfl rfl ⟨by show (0:Int)<=2;omega,by show (2:Int)<=3;omega⟩ (ti_set h.ti ⟨⟨by show (0:Int)<=4;omega,by show (4:Int)<=5;omega⟩,hT.dt,⟨by show (0:Int)<=0;omega,by show (0:Int)<=_;omega⟩,fun _ _=>rfl⟩),rfl⟩
theorem fail_ri {R:Rn}(h:RI R)(task bu now:Int)(h0:0<=now)(h1:now<=1099511627776)(he:(vG R task bu now).2=0):RI (vG R task bu now).1/\(vG R task bu now).1.ts=R.ts:=by
 unfold vG at he ⊢
 by_cases q:nb R task bu=0
 ·obtain⟨i,u,rfl,hu,aC,mA,G8⟩:=K3 q
  have br:=(aah.1 hu).1
  have hd:R.ts[i]? = some (R.ts[i]'(by rw[<-h.i0.ok.len];exact br)):=aai _
  rw[if_pos q,acr,hu,hd]
  exact failR_ri h hu hd aC mA h0 h1
 ·rw[if_neg q] at he;exact absurd he q
theorem tickAt_ri {R:Rn}(h:RI R)(i:Nat){now:Int}(h0:0<=now)(h1:now<=1099511627776):RI (tickAt now R i)/\(tickAt now R i).ts=R.ts:=by
 obtain⟨a,b,_⟩:=tickAt_good h.i0 h.s1 i now
 unfold tickAt at a b ⊢
 split
 ·rename_i t d ht hd
  rw[ht,hd] at a b
  simp only at a b
  by_cases hn:R.st≠0\/now<t.kN
  ·rw[if_pos hn];exact⟨h,rfl⟩
  ·rw[if_neg hn] at a b ⊢
   rw[not_or] at hn
   by_cases hp:t.ph=2
   ·rw[if_pos hp];exact failR_ri h ht hd (ahk.1 hn.1) hp h0 h1
   ·rw[if_neg hp] at a b ⊢
    by_cases h5:t.ph=5
    ·rw[if_pos h5] at a b ⊢
     exact⟨h.to a b rfl rfl h.st (ti_set h.ti ⟨⟨by show (0:Int)<=1;omega,by show (1:Int)<=5;omega⟩,(h.ti t (aao ht)).dt,⟨by show (0:Int)<=0;omega,by show (0:Int)<=_;omega⟩,fun _ _=>rfl⟩),rfl⟩
    ·rw[if_neg h5];exact⟨h,rfl⟩
 ·exact⟨h,rfl⟩
theorem tickN_ri {now:Int}(h0:0<=now)(h1:now<=1099511627776):∀ (m i:Nat) (R:Rn),RI R->RI (tickN now m i R)/\(tickN now m i R).ts=R.ts
 | 0,i,R,h=>⟨h,rfl⟩
 | m+1,i,R,h=>by
  obtain⟨a,b⟩:=tickAt_ri h i h0 h1
  obtain⟨c,d⟩:=tickN_ri h0 h1 m (i+1) _ a
  exact⟨c,d.trans b⟩
theorem signal_ri {R:Rn}(h:RI R)(name:aq)(he:(rE R name).2=0):RI (rE R name).1/\(rE R name).1.ts=R.ts:=by
 obtain⟨a,b,_⟩:=signal_good h.i0 h.s1 name (by have:=h.sg;omega) he
 unfold rE at he a b ⊢
 by_cases h0:R.st≠0
 ·rw[if_pos h0] at he;cases he
 rw[if_neg h0] at he a b ⊢
 by_cases h5:R.sg.any (fun s=>name==s)=true
 ·rw[if_pos h5] at he;cases he
 rw[if_neg h5] at he a b ⊢
 by_cases h6:Fe R.ts name=true
 ·rw[if_pos h6] at a b ⊢
  have hno:name∉R.sg:=fun q=>h5 (List.any_eq_true.2 ⟨name,q,by simp⟩)
  unfold Fe at h6
  rw[List.any_eq_true] at h6
  obtain⟨t,ht,hq⟩:=h6
  simp at hq
  refine⟨⟨a,b,st_settle h.st,ti_settle h.ti,?_,?_,h.wt⟩,rfl⟩
  ·show (R.sg++[name]).Nodup
   rw[aeY]
   refine⟨h.sn,by simp,fun x hx y hy q => ?_⟩
   simp at hy
   subst hy;subst q
   exact hno hx
  ·intro s hs
   have rD:s∈R.sg++[name]:=hs
   rcases abL.1 rD with q | q
   ·exact h.sk s q
   ·rw[No] at q
    subst q
    exact⟨hq.2,t,ht,hq.1⟩
 ·rw[if_neg h6] at he;cases he
theorem cancel_ri {R:Rn}(h:RI R)(he:(cancelM R).2=0):RI (cancelM R).1/\(cancelM R).1.ts=R.ts:=by
 unfold cancelM at he ⊢
 by_cases h0:R.st≠0
 ·rw[if_pos h0] at he;cases he
 rw[if_neg h0]
 have aC:R.st=0:=ahk.1 h0
 refine⟨h.to ⟨⟨⟨h.i0.ok.sm.n,h.i0.ok.sm.a,h.i0.ok.sm.r,h.i0.ok.sm.s⟩,h.i0.ok.len,h.i0.ok.jn⟩,h.i0.n1,h.i0.n2,h.i0.td,h.i0.tr⟩ ⟨fun q => ?_,fun q => ?_⟩ rfl rfl ⟨by show (0:Int)<=3;omega,by show (3:Int)<=3;omega⟩ h.ti,rfl⟩
 ·have:(3:Int)=1:=q
  omega
 ·have:=h.s1.2 q
  omega
theorem new_ri {text:aq}(h:(aK text).2=0):RI (bL (aK text).1).1/\(bL (aK text).1).1.ts=(aK text).1/\(bL (aK text).1).2=0:=by
 obtain⟨g1,g2,g3,g4,g5,g6⟩:=L9 h
 obtain⟨a,b,c,d,e⟩:=new_inv g1 g2 g3 g4 g6
 have h0:TI mT:=⟨⟨by show (0:Int)<=0;omega,by show (0:Int)<=5;omega⟩,acD _,⟨by show (0:Int)<=0;omega,by show (0:Int)<=_;omega⟩,fun _ _=>rfl⟩
 refine⟨?_,d,e⟩
 have xa:(bL (aK text).1).1.sg=[]:=List.length_eq_zero_iff.1 c
 refine⟨a,b,?_,?_,by rw[xa];exact aiB,fun s hs=>by (rw[xa] at hs;cases hs),?_⟩
 ·unfold bL
  rw[if_pos g1]
  exact st_settle ⟨by show (0:Int)<=0;omega,by show (0:Int)<=3;omega⟩
 ·unfold bL
  rw[if_pos g1]
  refine ti_settle fun r hr => ?_
  rw[(List.mem_replicate.1 hr).2];exact h0
 ·rw[d]
  intro t ht
  have:=(g6 t ht).2
  unfold sO at this
  simp only[aid,Bool.not_eq_false',aau,decide_eq_true_eq] at this
  omega
structure FI (f:Fm):Prop where
 run:∀ x∈f.az,RI x.1/\∃ t,jq f.txs x.2=some t/\(aK t).1=x.1.ts
 nr:f.az.length<=64
 nn:f.nms.length<=16
 nt:f.txs.map (·.1)=f.nms
 tx:∀ x∈f.txs,tX x.1=true/\(aK x.2).2=0/\oZ (aK x.2).1=x.2
 nd:f.nms.Nodup
 nk:f.ks.length<=f.az.length
 kk:∀ x∈f.ks,1<=x.2/\x.2<=f.az.length/\(∃ y,f.az[(x.2-1).toNat]? = some y/\y.2=x.1.1)/\x.1.2≠[]/\x.1.2.length<=16
 kd:(f.ks.map (·.1)).Nodup
 ck:0<=f.ck/\f.ck<=1099511627776
theorem FI.ok {f:Fm}(h:FI f):Fok f:=⟨fun x hx=>⟨(h.run x hx).1.i0.ok,(h.run x hx).1.i0.bd,by have:=(h.run x hx).1.sg;omega⟩,h.nr,h.nn,by have:=h.nk;have:=h.nr;omega⟩
theorem fi0:FI ou:=⟨fun x hx=>(by cases hx),acD _,acD _,rfl,fun x hx=>(by cases hx),aiB,acD _,fun x hx=>(by cases hx),aiB,by show (0:Int)<=0;omega,by show (0:Int)<=_;omega⟩
theorem goodE_f {e:Ev}(h:wm e=true){c:Nat}(hc:c∈fieldsM e.kd):mw e c=true:=by
 unfold wm at h
 rw[aau,aau] at h
 exact adA.1 h.2.2 c hc
theorem getT_snoc {l:List (aq × aq)}{s t u:aq}(h:jq l s=some t)(x:aq × aq):jq (l++[x]) s=some t:=by
 unfold jq at h ⊢
 rw[aaa] at h
 obtain⟨y,h1,h2⟩:=h
 rw[List.find?_append,h1,Option.some_or,aee,h2]
theorem getT_mem {l:List (aq × aq)}{s t:aq}(h:jq l s=some t):(s,t)∈l:=by
 obtain⟨a,b,rfl,_⟩:=Wj h
 simp
theorem define_fi {f:Fm}(h:FI f){s t:aq}(hs:tX s=true):FI (DD f s t).1:=by
 unfold DD
 cases hg:jq f.txs s with
 | some u=>rw[if_pos (show (some u).isSome=true from rfl)];exact h
 | none=>
  rw[if_neg (by simp)]
  by_cases hp:(aK t).2≠0
  ·rw[if_pos hp];exact h
  rw[if_neg hp]
  have hp:=ahk.1 hp
  by_cases bD:f.nms.length=16
  ·rw[if_pos bD];exact h
  rw[if_neg bD]
  obtain⟨_,_,_,_,_,_,kR⟩:=To hp
  have hno:=Jz hg
  refine⟨fun x hx => ?_,h.nr,by show (f.nms++[s]).length<=16;rw[aaX];have:=h.nn;simp;omega,by show (f.txs++[(s,oZ (aK t).1)]).map (·.1)=f.nms++[s];rw[adI,h.nt];rfl,fun x hx => ?_,?_,h.nk,h.kk,h.kd,h.ck⟩
  ·obtain⟨a,u,b,c⟩:=h.run x hx
   exact⟨a,u,getT_snoc (u:=u) b _,c⟩
  ·rcases abL.1 hx with q | q
   ·exact h.tx x q
   ·rw[No] at q
    subst q
    exact⟨hs,by show (aK (oZ (aK t).1)).2=0;rw[kR],by show oZ (aK (oZ (aK t).1)).1=_;rw[kR]⟩
  ·show (f.nms++[s]).Nodup
   rw[aeY]
   refine⟨h.nd,by simp,fun x hx y hy q => ?_⟩
   simp at hy
   subst hy;subst q
   rw[<-h.nt] at hx
   obtain⟨z,hz,rfl⟩:=acS.1 hx
   exact hno z hz rfl
theorem start_fi {f:Fm}(h:FI f){e:Ev}(hk:e.ky.length<=16):FI (startM f e).1:=by
 unfold startM
 split
 ·exact h
 ·rename_i t hg
  split
  ·exact h
  rename_i JE
  split
  ·exact h
  rename_i sW
  split
  ·exact h
  rename_i tu
  have tu:=ahk.1 tu
  have hm:=getT_mem hg
  obtain⟨_,hp,_⟩:=h.tx _ hm
  obtain⟨a,b,c⟩:=new_ri hp
  rw[if_neg (by simp[c])]
  have Ka:∀ {i:Nat} {y:Rn × aq},f.az[i]? = some y->(f.az++[((bL (aK t).1).1,e.nm)])[i]? = some y:=fun {i y} q=>by
   rw[abO (aah.1 q).1];exact q
  have hkk':∀ x∈f.ks,1<=x.2/\x.2<=((f.az++[((bL (aK t).1).1,e.nm)]).length:Int)/\(∃ y,(f.az++[((bL (aK t).1).1,e.nm)])[(x.2-1).toNat]? = some y/\y.2=x.1.1)/\x.1.2≠[]/\x.1.2.length<=16:=by
   intro x hx
   obtain⟨q1,q2,⟨y,q3,q4⟩,q5⟩:=h.kk x hx
   refine⟨q1,by rw[aaX];simp;omega,⟨y,Ka q3,q4⟩,q5⟩
  have yi:(f.az++[((bL (aK t).1).1,e.nm)]).length<=64:=by rw[aaX];have:=h.nr;simp;omega
  refine⟨fun x hx => ?_,yi,h.nn,h.nt,h.tx,h.nd,?_,?_,?_,h.ck⟩
  ·rcases abL.1 hx with q | q
   ·exact h.run x q
   ·rw[No] at q
    subst q
    exact⟨a,t,hg,b.symm⟩
  ·show (if e.ky=[] then f.ks else f.ks++[((e.nm,e.ky),e.rn)]).length<=(f.az++[((bL (aK t).1).1,e.nm)]).length
   have:=h.nk
   split<;>simp<;>omega
  ·show ∀ x∈(if e.ky=[] then f.ks else f.ks++[((e.nm,e.ky),e.rn)]),_
   split
   ·exact hkk'
   ·rename_i aO
    intro x hx
    rcases abL.1 hx with q | q
    ·exact hkk' x q
    ·rw[No] at q
     subst q
     refine⟨by show 1<=e.rn;omega,by show e.rn<=_;rw[aaX];simp;omega,⟨((bL (aK t).1).1,e.nm),?_,rfl⟩,aO,hk⟩
     show (f.az++[((bL (aK t).1).1,e.nm)])[(e.rn-1).toNat]? = _
     rw[show (e.rn-1).toNat=f.az.length by omega,abT (aaC _),ahb];rfl
  ·show ((if e.ky=[] then f.ks else f.ks++[((e.nm,e.ky),e.rn)]).map (·.1)).Nodup
   split
   ·exact h.kd
   ·rename_i aO
    rw[adI,aeY]
    refine⟨h.kd,by simp,fun x hx y hy q => ?_⟩
    simp at hy
    subst hy;subst q
    obtain⟨z,hz,Bc⟩:=acS.1 hx
    cases hgk:getK f.ks (e.nm,e.ky) with
    | none=>exact Eh hgk z hz Bc
    | some id=>exact JE ⟨aO,by rw[hgk];rfl⟩
theorem tick_fi {f:Fm}(h:FI f){now:Int}(h0:0<=now)(h1:now<=1099511627776):FI (tickF f now).1:=by
 unfold tickF
 split
 ·exact h
 refine⟨fun x hx => ?_,by show (f.az.map (tkx now)).length<=64;rw[ads];exact h.nr,h.nn,h.nt,h.tx,h.nd,by show _<=(f.az.map (tkx now)).length;rw[ads];exact h.nk,fun x hx => ?_,h.kd,h0,h1⟩
 ·obtain⟨y,hy,rfl⟩:=acS.1 hx
  obtain⟨a,t,b,c⟩:=h.run y hy
  obtain⟨d,e⟩:=tickN_ri h0 h1 y.1.rs.length 0 y.1 a
  exact⟨d,t,b,c.trans e.symm⟩
 ·obtain⟨q1,q2,⟨y,q3,q4⟩,q5⟩:=h.kk x hx
  refine⟨q1,by show x.2<=((f.az.map (tkx now)).length:Int);rw[ads];exact q2,⟨tkx now y,?_,q4⟩,q5⟩
  show (f.az.map (tkx now))[(x.2-1).toNat]? = _
  rw[adL,q3];rfl
theorem op_ri {R:Rn}(h:RI R){e:Ev}{ck:Int}(h0:0<=ck)(h1:ck<=1099511627776)(hd:e.kd=4->e.dt.length<=64)(he:(opM R e ck).2=0):RI (opM R e ck).1/\(opM R e ck).1.ts=R.ts:=by
 unfold opM at he ⊢
 split
 ·rename_i q;rw[if_pos q] at he;exact lease_ri h _ _ _ h0 h1 he
 ·rename_i q3
  rw[if_neg q3] at he
  split
  ·rename_i q;rw[if_pos q] at he;exact done_ri h _ _ _ (hd q) he
  ·rename_i q4
   rw[if_neg q4] at he
   split
   ·rename_i q;rw[if_pos q] at he;exact fail_ri h _ _ _ h0 h1 he
   ·rename_i q5
    rw[if_neg q5] at he
    split
    ·rename_i q;rw[if_pos q] at he;exact signal_ri h _ he
    ·rename_i q7
     rw[if_neg q7] at he
     exact cancel_ri h he
theorem change_fi {f:Fm}(h:FI f){e:Ev}(hd:e.kd=4->e.dt.length<=64):FI (changeM f e).1:=by
 unfold changeM
 split
 ·exact h
 ·rename_i x hx
  split
  ·rename_i he
   have hm:=aao hx
   have br:=(aah.1 hx).1
   obtain⟨a,t,b,c⟩:=h.run x hm
   obtain⟨d,g⟩:=op_ri a h.ck.1 h.ck.2 hd he
   refine⟨fun y hy => ?_,by show (f.az.set _ _).length<=64;rw[ac4];exact h.nr,h.nn,h.nt,h.tx,h.nd,by show _<=(f.az.set _ _).length;rw[ac4];exact h.nk,fun y hy => ?_,h.kd,h.ck⟩
   ·rcases agu hy with q | rfl
    ·exact h.run y q
    ·exact⟨d,t,b,c.trans g.symm⟩
   ·obtain⟨q1,q2,⟨z,q3,q4⟩,q5⟩:=h.kk y hy
    refine⟨q1,by show y.2<=((f.az.set _ _).length:Int);rw[ac4];exact q2,?_,q5⟩
    show ∃ w,(f.az.set (e.rn-1).toNat ((opM x.1 e f.ck).1,x.2))[(y.2-1).toNat]? = some w/\w.2=y.1.1
    rw[af6]
    by_cases hq:(e.rn-1).toNat=(y.2-1).toNat
    ·rw[if_pos hq,if_pos br]
     refine⟨_,rfl,?_⟩
     rw[<-hq] at q3
     have:=acN (hx.symm.trans q3)
     rw[this];exact q4
    ·rw[if_neg hq];exact⟨z,q3,q4⟩
  ·exact h
theorem apply_fi {f:Fm}(h:FI f)(e:Ev):FI (applyM f e).1:=by
 unfold applyM
 by_cases hg:wm e=true
 ·rw[if_pos hg]
  split
  ·rename_i hk
   have:=goodE_f hg (c:=77) (by rw[hk];simp[fieldsM])
   unfold mw at this
   simp at this
   exact define_fi h this
  split
  ·rename_i tB hk
   have:=goodE_f hg (c:=75) (by rw[hk];simp[fieldsM])
   unfold mw at this
   simp at this
   exact start_fi h this
  split
  ·rename_i tB fN hk
   have:=goodE_f hg (c:=78) (by rw[hk];simp[fieldsM])
   unfold mw vU at this
   rw[if_neg (by decide),if_neg (by decide),if_neg (by decide),if_pos rfl,if_neg (by omega)] at this
   simp at this
   exact tick_fi h (by omega) this.2
  split
  ·exact h
  split
  ·exact h
  ·refine change_fi h fun hk => ?_
   have:=goodE_f hg (c:=68) (by rw[hk];simp[fieldsM])
   unfold mw at this
   rw[if_neg (by decide),if_neg (by decide),if_neg (by decide),if_neg (by decide),if_neg (by decide),if_neg (by decide),if_neg (by omega)] at this
   simpa using this
 ·rw[if_neg hg];exact h
theorem FI.sz {f:Fm}(h:FI f):SzF f:=
 ⟨by have:=h.nn;omega,by have:=h.nr;omega,by have:=h.nk;have:=h.nr;omega,fun x hx=>by
  obtain⟨hr,_⟩:=h.run x hx
  have hs:=hr.i0.ok.sm
  exact⟨by have:=hs.r;omega,by have:=hs.s;omega,by have:=hs.n;omega,fun t ht=>by have:=hs.a t ht;omega⟩⟩
noncomputable def allM:Fm->List Ev->Fm
 | f,[]=>f
 | f,e::r=>allM (applyM f e).1 r
theorem all_fi:∀ {l:List Ev} {f:Fm},FI f->FI (allM f l)
 | [],f,h=>h
 | e::r,f,h=>all_fi (l:=r) (apply_fi h e)
theorem st_ev (e:Ev)(H:Hp):st 8 (.ptr H.next 0) (.agg (aG e)) (al H zE 26 0)=some (al H (aG e) 26 0):=iI rfl rfl rfl (by decide) rfl
theorem evs_get {l:List Ev}{i:Nat}{e:Ev}(h:l[i]? = some e):(evs l)[i]? = some (aG e):=by unfold evs;rw[adL,h];rfl
theorem evs_len {H:Hp}{x:AV}{l:List Ev}(h:RL H 8 x (evs l)):bq x=some (.int .i64 (l.length:Nat)):=by
 have:=h.len (by decide);unfold evs at this;rwa[ads] at this
theorem all_loop {p:Nat}{x:AV}{l:List Ev}(hl:l.length<=1000):∀ (r:List Ev) (i:Nat) (H:Hp) (a:FA) (f:Fm),i<=l.length->l.drop i=r->RL H 8 x (evs l)->(∀ j∈ak x,j∉own p a)->FL H p a f->FI f->Gl H->
  ∃ a' H',(∀ j4:K.Fn 1,EC JN GO cK j4 (.ptr p 0) x (.int .i64 (l.length:Nat)) (.int .i64 (i:Nat)) H=j4 (.ptr p 0) H')/\FL H' p a' (allM f r)/\FSt H H' p a a'
 | [],i,H,a,f,hi,h,hx,hd,hF,hI,hg=>by
  obtain rfl:=drop_nil hi h
  refine⟨a,H,fun j4 => ?_,hF,FSt.same (Out.refl _ _) p a⟩
  rw[Wo]
  simp only[bl_flow_All,fU,ai,aj,simprocAttr]
 | e::r,i,H,a,f,hi,h,hx,hd,hF,hI,hg=>by
  obtain⟨h1,h2,h3⟩:=gG h
  have es:=gf h1 (by omega)
  obtain⟨b,o,q1,q2,q3,q4,q5⟩:=hx.at (by decide) (evs_get h2)
  have hz:=st_ev e H
  have o1:=aI H (aG e) 26 0
  have c1:=bg H (aG e) 26 0
  generalize di:al H (aG e) 26 0=H1 at *
  have ek:ar H1 H.next 0 8=some (aG e):=c1.ar 8 0 (by rw[mD];omega)
  obtain⟨a',H2,u1,u2,u3⟩:=apply_c (hF.out0 o1) (hg.out0 o1) hI.ok e
  have eg:=hx.1.lt
  obtain⟨a2,H',i1,i2,i3⟩:=all_loop hl r (i+1) H2 a' (applyM f e).1 h1 h3 ((hx.out0 o1).out u3.o fun j hj z=>hd j hj z) (fun j hj z=>(u3.w j z).elim (hd j hj) fun z=>by have:=eg j hj;have:=o1.1;omega) u2 (apply_fi hI e) ((hg.out0 o1).out u3.o hF.lo)
  refine⟨a2,H',fun j4 => ?_,i2,((FSt.same o1 p a).trans u3).trans i3⟩
  rw[Wo]
  simp(disch:=first|exact zqz|fail)only[bl_flow_All,bI h1,q1,q4,hz,di,ek,u1,es,i1,av,au,ai,aj,simprocAttr]
theorem all_c {x:AV}{l:List Ev}{H:Hp}(hl:l.length<=1000)(hg:Gl H)(ki:11<=H.next)(hx:RL H 8 x (evs l)) :
  ∃ p a H',cK (.func (.func 13) [] []) [x] H=some (.ptr p 0,H')/\FL H' p a (allM ou l)/\Out [] H H'/\(∀ j∈own p a,H.next<=j)/\∀ j∈DfK.da a,H.next<=j:=by
 obtain⟨p,a,H1,n1,n2,n3,n4,n5⟩:=P3 ki
 have eg:=hx.1.lt
 have HG:=evs_len hx
 obtain⟨a',H',i1,i2,i3⟩:=all_loop hl l 0 H1 a ou (acD _) acI (hx.out0 n3) (fun j hj z=>by have:=eg j hj;have:=n4 j z;omega) n2 fi0 (hg.out0 n3)
 rw[show (((0:Nat):Int))=0 from rfl] at i1
 have l1:=n3.1
 refine⟨p,a',H',amd ?_,i2,n3.then i3.o fun j hj => .inr (n4 j hj),fun j hj=>(i3.w j hj).elim (n4 j) fun z=>by omega,fun j hj=>(i3.i j hj).elim (fun z=>by unfold DfK.da at z;rw[n5] at z;cases z) fun z=>by omega⟩
 unfold SU
 simp(disch:=first|exact zqz|fail)only[n1,HG,i1,av,au,ai,aj,simprocAttr]
theorem zw_at {ts:List Tk}{xs:List AV}{i:Nat}{t:Tk}{x:AV}(ht:ts[i]? = some t)(hx:xs[i]? = some x):(List.zipWith aL ts xs)[i]? = some (aL t x):=by rw[adT,ht,hx]
theorem RD.retry {H:Hp}{dx:AV}{xs:List AV}{ts:List Tk}(h:RD H dx xs ts){i:Nat}{t:Tk}(ht:ts[i]? = some t):∃ b o,(∀ k,ia 6 dx (.int k i)=some (.ptr b o))/\cellAt H b (o+2)=some (.int .i64 t.retry):=by
 have hi:=(aah.1 ht).1
 have hx:xs[i]? = some (xs[i]'(by rw[h.len];exact hi)):=aai _
 obtain⟨b,o,q1,q2,q3,q4,q5⟩:=h.row.at (by decide) (zw_at ht hx)
 exact⟨b,o,q1,q5 2 _ rfl⟩
structure SS where
 ck:Int
 nms:List aq
 txs:List aq
 rs:List Rn
 ofs:List aq
 ks:List Ke
structure SA where
 nx:AV
 tx:AV
 rx:AV
 ox:AV
 kx:AV
 ras:List RA
def runC (r:RA)(R:Rn):List AV:=rv r.dx R.st r.tx r.sx
structure SV (N:Nat)(H:Hp)(a:SA)(S:SS):Prop where
 n:Rw H 1 a.nx (strs S.nms)
 t:Rw H 1 a.tx (strs S.txs)
 r:RL H 4 a.rx (List.zipWith runC a.ras S.rs)
 v:∀ (i:Nat) (r:RA) (R:Rn),a.ras[i]? = some r->S.rs[i]? = some R->RV H r.dx r.xs r.tx r.sx R
 len:a.ras.length=S.rs.length
 o:Rw H 1 a.ox (strs S.ofs)
 k:RL H 3 a.kx (S.ks.map lF)
 b:∀ j,(j∈ak a.nx\/j∈ak a.tx\/j∈ak a.rx\/j∈ak a.ox\/j∈ak a.kx\/j∈a.ras.flatMap RA.fp)->j<N
theorem SV.out {N:Nat}{H H':Hp}{a:SA}{S:SS}{T:List Nat}(h:SV N H a S)(k:Out T H H')(hs:∀ j∈T,N<=j):SV N H' a S:=by
 have q:∀ j,j<N->j∉T:=fun j hj hm=>by have:=hs j hm;omega
 exact⟨h.n.out k fun j hj=>q j (h.b j (.inl hj)),h.t.out k fun j hj=>q j (h.b j (.inr (.inl hj))),h.r.out k fun j hj=>q j (h.b j (.inr (.inr (.inl hj)))),
  fun i r R hr hR=>(h.v i r R hr hR).out k fun j hj=>q j (h.b j (.inr (.inr (.inr (.inr (.inr (agY.2 ⟨r,aao hr,hj⟩))))))),h.len,h.o.out k fun j hj=>q j (h.b j (.inr (.inr (.inr (.inl hj))))),h.k.out k fun j hj=>q j (h.b j (.inr (.inr (.inr (.inr (.inl hj)))))),h.b⟩
theorem SV.out0 {N:Nat}{H H':Hp}{a:SA}{S:SS}(h:SV N H a S)(k:Out [] H H'):SV N H' a S:=h.out k fun _ q=>by cases q
theorem same_st (s:aq):same (.str s) (.str s)=true:=by simp[same,oz]
theorem cloneU_c {H:Hp}{dx tx sx:AV}{xs:List AV}{R:Rn}(h:RV H dx xs tx sx R)(hs:Sm R) :
  ∃ aw bh ay aB H',cK (.func (.func 58) [] []) [.agg (rv dx R.st tx sx)] H=some (.agg (rv aw R.st ay aB),H')/\RO H' aw bh ay aB R/\Out [] H H'/\∀ j∈me aw bh ay aB,H.next<=j:=by
 have aW:bx 75 (.agg (rv dx R.st tx sx)) H=some (H.next,al H (rv dx R.st tx sx) 75 0):=ji (by simp)
 have o1:=aI H (rv dx R.st tx sx) 75 0
 have c1:=bg H (rv dx R.st tx sx) 75 0
 have n1:(al H (rv dx R.st tx sx) 75 0).next=H.next+1:=rfl
 generalize al H (rv dx R.st tx sx) 75 0=H1 at *
 have o2:=aI H1 zR 75 0
 have c2:=bg H1 zR 75 0
 have n2:(al H1 zR 75 0).next=H.next+2:=by rw[bK,n1]
 rw[n1] at c2
 generalize dc:al H1 zR 75 0=H2 at *
 have dQ:=o1.trans o2
 have k4:ar H2 H.next 0 4=some (rv dx R.st tx sx):=(c1.out o2 (by simp)).ar 4 0 (by simp)
 obtain⟨aw,bh,ay,aB,H3,r1,r2,r3,r4⟩:=yV (h.out0 dQ) hs
 obtain⟨H4,s1,s2,s3,s4⟩:=fx (n:=4) (vs:=rv aw R.st ay aB) (c2.out r3 (by simp)) rfl rfl (by simp[r2.v.d.row.one,r2.t.rl.one,r2.s.jG,kK])
 have k5:ar H4 (H.next+1) 0 4=some (rv aw R.st ay aB):=s2.ar 4 0 (by simp)
 refine⟨aw,bh,ay,aB,H4,aj6 ?_,r2.out s3 fun j hj=>by rw[No];have:=r4 j hj;omega,gi (dQ.trans r3) s3 (jX (afh _)),fun j hj=>by have:=r4 j hj;omega⟩
 unfold Wz
 simp(disch:=first|exact zqz|fail)only[aW,n1,dc,k4,r1,s1,k5,av,au,ai,aj,simprocAttr]
theorem st_zr {R:Rn}{dx tx sx:AV}(hv:(rv dx R.st tx sx).all aY=true)(H:Hp):st 4 (.ptr H.next 0) (.agg (rv dx R.st tx sx)) (al H zR 75 0)=some (al H (rv dx R.st tx sx) 75 0):=iI hv rfl rfl (by decide) rfl
theorem RV.ones {H:Hp}{dx tx sx:AV}{xs:List AV}{R:Rn}(h:RV H dx xs tx sx R):(rv dx R.st tx sx).all aY=true:=by simp[h.d.row.one,h.t.one,h.s.one,kK]
theorem run_out {H:Hp}{p:Nat}{a:FA}{f:Fm}(h:FL H p a f)(id:Int)(hid:id<1\/(f.az.length:Int)<id) :
  ∃ H',cK (.func (.func 46) [] []) [.ptr p 0,.int .i64 id] H=some (.tuple [.agg zR,.str [],.bool false],H')/\Out [] H H':=by
 have o1:=aI H zR 75 0
 have hz:st 4 (.ptr H.next 0) (.agg zR) (al H zR 75 0)=some (al H zR 75 0):=iI rfl rfl rfl (by decide) rfl
 have c1:=bg H zR 75 0
 have ek:ar (al H zR 75 0) H.next 0 4=some zR:=c1.ar 4 0 (by simp)
 have k3:cellAt (al H zR 75 0) p 3=some a.rx:=(h.out0 o1).c.cellAt rfl
 have ff:=h.Bg
 refine⟨_,XJ ?_,o1⟩
 unfold Iq
 by_cases h1:id<1
 ·have d1:decide (id<1)=true:=decide_eq_true h1
  simp(disch:=first|exact zqz|fail)only[d1,hz,ek,av,au,ai,aj,simprocAttr]
 ·have d1:decide (id<1)=false:=decide_eq_false h1
  have d2:decide (((f.az.length:Nat):Int)<id)=true:=decide_eq_true (by omega)
  simp(disch:=first|exact zqz|fail)only[d1,d2,k3,ff,hz,ek,av,au,ai,aj,simprocAttr]
theorem run_cf {H:Hp}{p:Nat}{a:FA}{f:Fm}(h:FL H p a f)(hr:f.az.length<=1000)(mS:∀ x∈f.az,Sm x.1){i:Nat}{x:Rn × aq}(hx:f.az[i]? = some x) :
  ∃ dx xs tx sx H',cK (.func (.func 46) [] []) [.ptr p 0,.int .i64 ((i:Nat)+1)] H=some (.tuple [.agg (rv dx x.1.st tx sx),.str x.2,.bool true],H')/\RV H' dx xs tx sx x.1/\Out [] H H'/\∀ j∈me dx xs tx sx,H.next<=j:=by
 have br:=(aah.1 hx).1
 have d1:decide (((i:Nat):Int)+1<1)=false:=decide_eq_false (by omega)
 have d2:decide (((f.az.length:Nat):Int)<((i:Nat):Int)+1)=false:=decide_eq_false (by omega)
 have w1:IntKind.wrap .i64 (((i:Nat):Int)+1-1)=((i:Nat):Int):=by rw[wrap_i64 (by omega) (by omega)];omega
 have o1:=aI H zR 75 0
 have c1:=bg H zR 75 0
 have n1:(al H zR 75 0).next=H.next+1:=rfl
 generalize di:al H zR 75 0=H1 at *
 have h1:=h.out0 o1
 have k3:cellAt H1 p 3=some a.rx:=h1.c.cellAt rfl
 have ff:=h.Bg
 obtain⟨ra,b,o,q1,q2,q3,q4,q5,q6,q7⟩:=h1.at hx
 have s1:=st_row (h1.one q1 hx) H1
 have o2:=aI H1 (dF ra x) 77 0
 have c2:=bg H1 (dF ra x) 77 0
 have n2:(al H1 (dF ra x) 77 0).next=H1.next+1:=rfl
 generalize dc:al H1 (dF ra x) 77 0=H2 at *
 have e4:ar H2 H1.next 0 4=some (rv ra.dx x.1.st ra.tx ra.sx):=c2.ar 4 0 (by simp[dF])
 obtain⟨dx,xs,tx,sx,H3,r1,r2,r3,r4⟩:=cloneU_c (q7.out0 o2) (mS x (aao hx))
 have en:cellAt H3 H1.next 4=some (.str x.2):=(c2.out r3 (by simp)).cellAt rfl
 have en2:cellAt H2 H1.next 4=some (.str x.2):=c2.cellAt rfl
 have c1':=(c1.out o2 (by simp)).out r3 (by simp)
 obtain⟨H4,t1,t2,t3,t4⟩:=fx (n:=4) (vs:=rv dx x.1.st tx sx) c1' rfl rfl r2.v.ones
 have en4:cellAt H4 H1.next 4=some (.str x.2):=((c2.out r3 (by simp)).out t3 (by simp;omega)).cellAt rfl
 have ek:ar H4 H.next 0 4=some (rv dx x.1.st tx sx):=t2.ar 4 0 (by simp)
 have hv4:=r2.v.out t3 fun j hj q=>by rw[No] at q;have:=r4 j hj;have:=o1.1;have:=o2.1;omega
 refine⟨dx,xs,tx,sx,H4,XJ ?_,hv4,((o1.trans o2).trans r3).then t3 fun j hj => .inr (by rw[No] at hj;omega),fun j hj=>by have:=r4 j hj;have:=o1.1;have:=o2.1;omega⟩
 unfold Iq
 simp(disch:=first|exact zqz|fail)only[di,d1,d2,k3,ff,w1,q2,q6,s1,dc,e4,r1,en,en2,t1,en4,lT (same_st x.2),ek,av,au,ai,aj,simprocAttr]
theorem run_c {H:Hp}{p:Nat}{a:FA}{f:Fm}(h:FL H p a f)(hr:f.az.length<=1000)(mS:∀ x∈f.az,Sm x.1){i:Nat}{x:Rn × aq}(hx:f.az[i]? = some x) :
  ∃ dx xs tx sx H',cK (.func (.func 46) [] []) [.ptr p 0,.int .i64 ((i:Nat)+1)] H=some (.tuple [.agg (rv dx x.1.st tx sx),.str x.2,.bool true],H')/\RV H' dx xs tx sx x.1/\Out [] H H':=by
 obtain⟨dx,xs,tx,sx,H',h1,h2,h3,_⟩:=run_cf h hr mS hx
 exact⟨dx,xs,tx,sx,H',h1,h2,h3⟩
theorem st_rt1 (t:RT)(H:Hp):st 4 (.ptr H.next 0) (.agg (eC t)) (al H [(.int .i64 0),(.int .i64 0),(.int .i64 0),(.str [])] 132 0)=some (al H (eC t) 132 0):=iI rfl rfl rfl (by decide) rfl
theorem first1_loop {R:Rn}{b i:Nat}{tx rx ln ii:AV}(hi:i<1000)(hn:R.rs.length<=1000):∀ (r:List RT) (k:Nat) (H:Hp),k<=R.rs.length->R.rs.drop k=r->RL H 4 tx (gq R.rs)->cellAt H b 1=some (.int .i64 R.st)->b<H.next->
  (∃ k' t H',R.rs[k']? = some t/\(∀ (aD:K.Fn 0) (fZ jz:K.Fn 3),Ci JN GO cK aD fZ jz (.int .i64 (i:Nat)) (.ptr b 0) rx ln ii tx (.int .i64 (R.rs.length:Nat)) (.int .i64 (k:Nat)) H=some (.tuple [.int .i64 ((i:Nat)+1),.int .i64 (k':Nat),.int .i64 (fA (t.tr+1)),.bool true],H'))/\Out [] H H')\/
  ∃ H',(∀ (aD:K.Fn 0) (fZ jz:K.Fn 3),Ci JN GO cK aD fZ jz (.int .i64 (i:Nat)) (.ptr b 0) rx ln ii tx (.int .i64 (R.rs.length:Nat)) (.int .i64 (k:Nat)) H=jz rx ln ii H')/\Out [] H H'
 | [],k,H,hk,h,hx,hb,fT=>by
  obtain rfl:=drop_nil hk h
  refine .inr ⟨H,fun aD fZ jz => ?_,Out.refl _ _⟩
  rw[Aw]
  simp only[bl_flow_Flow_First1,fU,ai,aj,simprocAttr]
 | t::r,k,H,hk,h,hx,hb,fT=>by
  obtain⟨h1,h2,h3⟩:=gG h
  have es:=gf h1 (by omega)
  have ei:IntKind.wrap .i64 (((i:Nat):Int)+1)=((i:Nat):Int)+1:=by rw[wrap_i64 (by omega) (by omega)]
  have et:IntKind.wrap .i64 (t.tr+1)=fA (t.tr+1):=rfl
  obtain⟨m,o,q1,q2,q3,q4,q5⟩:=hx.at (by decide) (qK h2)
  have hz:=st_rt1 t H
  have o1:=aI H (eC t) 132 0
  have c1:=bg H (eC t) 132 0
  have n1:(al H (eC t) 132 0).next=H.next+1:=rfl
  generalize di:al H (eC t) 132 0=H1 at *
  have e0:cellAt H1 H.next 0=some (.int .i64 t.ph):=c1.cellAt rfl
  have e1:cellAt H1 H.next 1=some (.int .i64 t.tr):=c1.cellAt rfl
  have uK:cellAt H1 b 1=some (.int .i64 R.st):=by
   unfold cellAt at hb ⊢
   rw[o1.2 b fT (by simp)];exact hb
  rcases first1_loop (tx:=tx) (rx:=rx) (ln:=ln) (ii:=ii) hi hn r (k+1) H1 h1 h3 (hx.out0 o1) uK (by omega) with⟨k',t',H',g1,g2,g3⟩ | ⟨H',g2,g3⟩
  ·cases d1:(R.st==0) with
   | true=>
    cases d2:(t.ph==1) with
    | true=>
     refine .inl ⟨k,t,H1,h2,fun aD fZ jz => ?_,o1⟩
     rw[Aw]
     simp(disch:=first|exact zqz|fail)only[bl_flow_Flow_First1,bI h1,q1,q4,hz,di,e0,e1,uK,d1,d2,ei,et,av,au,ai,aj,simprocAttr]
    | false=>
     refine .inl ⟨k',t',H',g1,fun aD fZ jz => ?_,o1.trans g3⟩
     rw[Aw]
     simp(disch:=first|exact zqz|fail)only[bl_flow_Flow_First1,bI h1,q1,q4,hz,di,e0,e1,uK,d1,d2,es,g2,av,au,ai,aj,simprocAttr]
   | false=>
    refine .inl ⟨k',t',H',g1,fun aD fZ jz => ?_,o1.trans g3⟩
    rw[Aw]
    simp(disch:=first|exact zqz|fail)only[bl_flow_Flow_First1,bI h1,q1,q4,hz,di,e0,e1,uK,d1,es,g2,av,au,ai,aj,simprocAttr]
  ·cases d1:(R.st==0) with
   | true=>
    cases d2:(t.ph==1) with
    | true=>
     refine .inl ⟨k,t,H1,h2,fun aD fZ jz => ?_,o1⟩
     rw[Aw]
     simp(disch:=first|exact zqz|fail)only[bl_flow_Flow_First1,bI h1,q1,q4,hz,di,e0,e1,uK,d1,d2,ei,et,av,au,ai,aj,simprocAttr]
    | false=>
     refine .inr ⟨H',fun aD fZ jz => ?_,o1.trans g3⟩
     rw[Aw]
     simp(disch:=first|exact zqz|fail)only[bl_flow_Flow_First1,bI h1,q1,q4,hz,di,e0,e1,uK,d1,d2,es,g2,av,au,ai,aj,simprocAttr]
   | false=>
    refine .inr ⟨H',fun aD fZ jz => ?_,o1.trans g3⟩
    rw[Aw]
    simp(disch:=first|exact zqz|fail)only[bl_flow_Flow_First1,bI h1,q1,q4,hz,di,e0,e1,uK,d1,es,g2,av,au,ai,aj,simprocAttr]
theorem first_loop {p:Nat}{a:FA}{f:Fm}(hn:f.az.length<=900)(mS:∀ x∈f.az,Sm x.1):∀ (r:List (Rn × aq)) (i:Nat) (H:Hp),i<=f.az.length->f.az.drop i=r->FL H p a f->
  (∃ i' x k t H',f.az[i']? = some x/\x.1.rs[k]? = some t/\(∀ aD:K.Fn 0,BU JN GO cK aD a.rx (.int .i64 (f.az.length:Nat)) (.int .i64 (i:Nat)) H=some (.tuple [.int .i64 ((i':Nat)+1),.int .i64 (k:Nat),.int .i64 (fA (t.tr+1)),.bool true],H'))/\Out [] H H')\/
  ∃ H',(∀ aD:K.Fn 0,BU JN GO cK aD a.rx (.int .i64 (f.az.length:Nat)) (.int .i64 (i:Nat)) H=aD H')/\Out [] H H'
 | [],i,H,hi,h,hF=>by
  obtain rfl:=drop_nil hi h
  refine .inr ⟨H,fun aD => ?_,Out.refl _ _⟩
  rw[Ki]
  simp only[bl_flow_Flow_First,fU,ai,aj,simprocAttr]
 | x::r,i,H,hi,h,hF=>by
  obtain⟨h1,h2,h3⟩:=gG h
  have es:=gf h1 (by omega)
  obtain⟨ra,m,o,q1,q2,q3,q4,q5,q6,q7⟩:=hF.at h2
  have s1:=st_row (hF.one q1 h2) H
  have o1:=aI H (dF ra x) 77 0
  have c1:=bg H (dF ra x) 77 0
  have n1:(al H (dF ra x) 77 0).next=H.next+1:=rfl
  generalize di:al H (dF ra x) 77 0=H1 at *
  have e2:cellAt H1 H.next 2=some ra.tx:=c1.cellAt rfl
  have e1:cellAt H1 H.next 1=some (.int .i64 x.1.st):=c1.cellAt rfl
  have hs:=mS x (aao h2)
  have aJ:=(q7.t.out0 o1).len (by decide)
  rw[yP] at aJ
  rcases first1_loop (R:=x.1) (b:=H.next) (i:=i) (tx:=ra.tx) (rx:=a.rx) (ln := .int .i64 (f.az.length:Nat)) (ii := .int .i64 (i:Nat)) (by omega) hs.r x.1.rs 0 H1 (acD _) acI (q7.t.out0 o1) e1 (by omega) with⟨k',t',H',g1,g2,g3⟩ | ⟨H2,g2,g3⟩
  ·rw[show (((0:Nat):Int))=0 from rfl] at g2
   refine .inl ⟨i,x,k',t',H',h2,g1,fun aD => ?_,o1.trans g3⟩
   rw[Ki]
   simp(disch:=first|exact zqz|fail)only[bl_flow_Flow_First,bI h1,q2,q6,s1,di,e2,aJ,g2,av,au,ai,aj,simprocAttr]
  ·rw[show (((0:Nat):Int))=0 from rfl] at g2
   have dQ:=o1.trans g3
   rcases first_loop hn mS r (i+1) H2 h1 h3 (hF.out0 dQ) with⟨i',x',k',t',H',y1,y2,y3,y4⟩ | ⟨H',y3,y4⟩
   ·refine .inl ⟨i',x',k',t',H',y1,y2,fun aD => ?_,dQ.trans y4⟩
    rw[Ki]
    simp(disch:=first|exact zqz|fail)only[bl_flow_Flow_First,bI h1,q2,q6,s1,di,e2,aJ,g2,es,y3,av,au,ai,aj,simprocAttr]
   ·refine .inr ⟨H',fun aD => ?_,dQ.trans y4⟩
    rw[Ki]
    simp(disch:=first|exact zqz|fail)only[bl_flow_Flow_First,bI h1,q2,q6,s1,di,e2,aJ,g2,es,y3,av,au,ai,aj,simprocAttr]
theorem first_c {H:Hp}{p:Nat}{a:FA}{f:Fm}(h:FL H p a f)(hn:f.az.length<=900)(mS:∀ x∈f.az,Sm x.1) :
  (∃ i x k t H',f.az[i]? = some x/\x.1.rs[k]? = some t/\cK (.func (.func 28) [] []) [.ptr p 0] H=some (.tuple [.int .i64 ((i:Nat)+1),.int .i64 (k:Nat),.int .i64 (fA (t.tr+1)),.bool true],H')/\Out [] H H')\/
  ∃ H',cK (.func (.func 28) [] []) [.ptr p 0] H=some (.tuple [.int .i64 0,.int .i64 0,.int .i64 0,.bool false],H')/\Out [] H H':=by
 have k3:cellAt H p 3=some a.rx:=h.c.cellAt rfl
 have ff:=h.Bg
 rcases first_loop hn mS f.az 0 H (acD _) acI h with⟨i',x',k',t',H',y1,y2,y3,y4⟩ | ⟨H',y3,y4⟩
 ·rw[show (((0:Nat):Int))=0 from rfl] at y3
  refine .inl ⟨i',x',k',t',H',y1,y2,Yi ?_,y4⟩
  unfold M1
  simp(disch:=first|exact zqz|fail)only[k3,ff,y3,av,au,ai,aj,simprocAttr]
 ·rw[show (((0:Nat):Int))=0 from rfl] at y3
  refine .inr ⟨H',Yi ?_,y4⟩
  unfold M1
  simp(disch:=first|exact zqz|fail)only[k3,ff,y3,av,au,ai,aj,simprocAttr]
def shortS (s:aq):Prop:=s.length<=40/\∀ b∈s,b<256
theorem dec_short {n:Int}(h0:0<=n)(h1:n<=1000):(dec n).length<=4/\∀ b∈dec n,b<256:=by
 obtain⟨_,a,b⟩:=Ap h0 h1
 exact⟨a,fun c hc=>by have:=b c hc;omega⟩
theorem fl_2 (a b:aq):fl [(.str []),(.str [])] [(0,1,.str a),(1,1,.str b)]=some [.str a,.str b]:=rfl
theorem fl_1 (a:aq):fl [(.str [])] [(0,1,.str a)]=some [.str a]:=rfl
theorem ashow_loop {rs:List RT}{tx:AV}{N:Nat}(hn:rs.length<=100)(hrs:∀ r∈rs,0<=r.ph/\r.ph<=5/\0<=r.tr/\r.tr<=9)(aJ:∀ j∈ak tx,j<N):∀ (r:List RT) (k:Nat) (H:Hp) (x:AV) (L:List aq),k<=rs.length->rs.drop k=r->RL H 4 tx (gq rs)->Ow H 9 1 x (strs L)->(∀ j∈ak x,N<=j)->N<=H.next->L.length<=2+k->(∀ s∈L,shortS s)->Gl H->11<=N->
  ∃ x' L' H',(∀ jw:K.Fn 1,Fx JN GO cK jw x tx (.int .i64 (rs.length:Nat)) (.int .i64 (k:Nat)) H=jw x' H')/\Ow H' 9 1 x' (strs L')/\L'.length<=102/\(∀ s∈L',shortS s)/\Out (ak x) H H'
 | [],k,H,x,L,hk,h,ht,hx,hd,hN,hL,hs,hg,gU=>by
  obtain rfl:=drop_nil hk h
  refine⟨x,L,H,fun jw => ?_,hx,by omega,hs,Out.refl _ _⟩
  rw[Vb]
  simp only[bl_admit_Show,fU,ai,aj,simprocAttr]
 | t::r,k,H,x,L,hk,h,ht,hx,hd,hN,hL,hs,hg,gU=>by
  obtain⟨h1,h2,h3⟩:=gG h
  have es:=gf h1 (by omega)
  obtain⟨m,o,q1,q2,q3,q4,q5⟩:=ht.at (by decide) (qK h2)
  have hz:=st_rt1 t H
  have o1:=aI H (eC t) 132 0
  have c1:=bg H (eC t) 132 0
  have n1:(al H (eC t) 132 0).next=H.next+1:=rfl
  generalize di:al H (eC t) 132 0=H1 at *
  have e0:cellAt H1 H.next 0=some (.int .i64 t.ph):=c1.cellAt rfl
  obtain⟨b1,b2,b3,b4⟩:=hrs t (aao h2)
  obtain⟨H2,i1,i2⟩:=Eo (n:=t.ph) (by omega) (by omega) (hg.out0 o1)
  have e1:cellAt H2 H.next 1=some (.int .i64 t.tr):=(c1.out i2 (by simp)).cellAt rfl
  have e1':cellAt H1 H.next 1=some (.int .i64 t.tr):=c1.cellAt rfl
  obtain⟨H3,j1,j2⟩:=Eo (n:=t.tr) (by omega) (by omega) ((hg.out0 o1).out0 i2)
  obtain⟨d1,d2⟩:=dec_short (n:=t.ph) b1 (by omega)
  obtain⟨d3,d4⟩:=dec_short (n:=t.tr) b3 (by omega)
  have s1:=tR (a:=dec t.ph) (b:=[46]) (by simp;omega)
  have s2:=tR (a:=dec t.ph++[46]) (b:=dec t.tr) (by simp;omega)
  have o123:=(o1.trans i2).trans j2
  obtain⟨x',H5,p1,p2,p3,p4,p5⟩:=uE (fH:=9) (z:=[(.str [])]) (vs:=[.str (dec t.ph++[46]++dec t.tr)]) (hx.out o123 fun j hj=>by simp) rfl rfl (by decide) (by rw[iZ];simp;omega)
  have nR:shortS (dec t.ph++[46]++dec t.tr):=⟨by simp;omega,fun b hb=>by
   rcases abL.1 hb with hb | hb
   ·rcases abL.1 hb with hb | hb
    ·exact d2 b hb
    ·rw[No] at hb;omega
   ·exact d4 b hb⟩
  have QH:=(ht.out0 o123).out p3 fun j hj z=>by have:=aJ j hj;have:=hd j z;omega
  have xu:=o123.1
  have hg3:=((hg.out0 o1).out0 i2).out0 j2
  have zk:∀ j∈ak x',N<=j:=fun j hj=>(p4 j hj).elim (hd j) fun z=>by omega
  have hx5:Ow H5 9 1 x' (strs (L++[dec t.ph++[46]++dec t.tr])):=by rw[HW];exact p2
  obtain⟨x2,L2,H6,y1,y2,y3,y4,y5⟩:=ashow_loop hn hrs aJ r (k+1) H5 x' (L++[dec t.ph++[46]++dec t.tr]) h1 h3 QH hx5 zk (by have:=p3.1;omega) (by simp;omega) (fun s rD=>(abL.1 rD).elim (hs s) fun z=>by rw[No] at z;rw[z];exact nR) (hg3.out p3 fun j hj=>by have:=hd j hj;omega) gU
  refine⟨x2,L2,H6,fun jw => ?_,y2,y3,y4,((o123.mono fun j hj=>by cases hj).trans p3).then y5 fun j hj=>(p4 j hj).imp id fun z=>by omega⟩
  rw[Vb]
  simp(disch:=first|exact zqz|fail)only[bl_admit_Show,bI h1,q1,q4,hz,di,e0,i1,s1,e1,j1,s2,fl_1,p1,e1',J5,es,y1,av,au,ai,aj,simprocAttr]
theorem ashow_c {H:Hp}{p:Nat}{a:FA}{f:Fm}(h:FL H p a f)(hI:FI f)(hg:Gl H)(id:Int) :
  ∃ s H',cK (.func (.func 47) [] []) [.ptr p 0,.int .i64 id] H=some (.str s,H')/\Out [] H H':=by
 by_cases hid:id<1\/(f.az.length:Int)<id
 ·obtain⟨H1,r1,r2⟩:=run_out h id hid
  have hz:st 4 (.ptr H1.next 0) (.agg zR) (al H1 zR 75 0)=some (al H1 zR 75 0):=iI rfl rfl rfl (by decide) rfl
  refine⟨[],_,Vx ?_,r2.trans (aI H1 zR 75 0)⟩
  unfold Mz
  simp(disch:=first|exact zqz|fail)only[r1,hz,av,au,ai,aj,simprocAttr]
 ·obtain⟨i,rfl⟩:∃ i:Nat,id=(i:Nat)+1:=⟨(id-1).toNat,by omega⟩
  obtain⟨x,hx⟩:∃ x,f.az[i]? = some x:=⟨_,aai (by omega)⟩
  have yi:=hI.nr
  obtain⟨hr,t,ht,_⟩:=hI.run x (aao hx)
  obtain⟨dx,xs,tx,sx,H1,r1,r2,r3⟩:=run_c h (by omega) (fun y hy=>(hI.run y hy).1.i0.ok.sm) hx
  have hz:=st_zr r2.ones H1
  have o1:=aI H1 (rv dx x.1.st tx sx) 75 0
  have c1:=bg H1 (rv dx x.1.st tx sx) 75 0
  have n1:(al H1 (rv dx x.1.st tx sx) 75 0).next=H1.next+1:=rfl
  generalize di:al H1 (rv dx x.1.st tx sx) 75 0=H2 at *
  have e1:cellAt H2 H1.next 1=some (.int .i64 x.1.st):=c1.cellAt rfl
  have ju:=(hg.out0 r3).out0 o1
  obtain⟨H3,i1,i2⟩:=Eo (n:=x.1.st) (by have:=hr.st;omega) (by have:=hr.st;omega) ju
  have o3:=aI H3 [.str x.2,.str (dec x.1.st)] 9 0
  have c3:=bg H3 [.str x.2,.str (dec x.1.st)] 9 0
  have n3:(al H3 [.str x.2,.str (dec x.1.st)] 9 0).next=H3.next+1:=rfl
  generalize kF:al H3 [.str x.2,.str (dec x.1.st)] 9 0=H4 at *
  have e2:cellAt H4 H1.next 2=some tx:=((c1.out i2 (by simp)).out o3 (by simp)).cellAt rfl
  have jF:=o1.1
  have gL:=i2.1
  have hT:=((r2.t.out0 o1).out0 i2).out0 o3
  have aJ:=hT.len (by decide)
  rw[yP] at aJ
  have vg:tX x.2=true:=(hI.tx _ (getT_mem ht)).1
  obtain⟨_,k2,k3⟩:=PR vg
  obtain⟨d1,d2⟩:=dec_short (n:=x.1.st) hr.st.1 (by have:=hr.st.2;omega)
  have NV:Ow H4 9 1 (.slice H3.next 0 2 2 true 1) (strs [x.2,dec x.1.st]):=c3.ow (by decide) rfl (fun v hv=>by
   rcases aaD.1 hv with rfl | hv
   ·rfl
   ·rw[No] at hv;rw[hv];rfl) true
  have dm:∀ b∈qc,b<256:=by decide
  obtain⟨x',L',H5,y1,y2,y3,y4,y5⟩:=ashow_loop (rs:=x.1.rs) (tx:=tx) (N:=H3.next) (by have:=hr.i0.n2;omega) (fun r eu=>by
   obtain⟨j,hj⟩:=List.mem_iff_getElem?.1 eu
   obtain⟨d,hd⟩:∃ d,x.1.ts[j]? = some d:=⟨_,aai (by rw[<-hr.i0.ok.len];exact (aah.1 hj).1)⟩
   obtain⟨z1,z2,_,_⟩:=hr.i0.tr j d r hd hj
   have hp:=(hr.ti r eu).ph
   have:=hr.i0.td d (aao hd)
   exact⟨hp.1,hp.2,z1,by omega⟩) (fun j hj=>by have:=((r2.t.out0 o1).out0 i2).1.lt j hj;exact this) x.1.rs 0 H4 (.slice H3.next 0 2 2 true 1) [x.2,dec x.1.st] (acD _) acI hT NV (fun j hj=>Nat.le_of_eq (No.1 hj).symm) (by omega) (by simp) (fun s hs=>by
    rcases aaD.1 hs with rfl | hs
    ·exact⟨by omega,fun b hb=>dm b (k3 b hb)⟩
    ·rw[No] at hs;rw[hs];exact⟨by omega,d2⟩) ((ju.out0 i2).out0 o3) (by have:=ju.nx;omega)
  rw[show (((0:Nat):Int))=0 from rfl] at y1
  obtain⟨H6,w1,w2⟩:=Wf (sep:=[32]) rfl y2.rw (by omega) (fun s hs=>by have:=(y4 s hs).1;omega) (by
   have:∀ l:List aq,(∀ s∈l,shortS s)->cN l<=l.length*40:=by
    intro l
    induction l with
    | nil=>intro _;simp[cN]
    | cons s l ih=>
     intro hs
     have h1:=(hs s (.head _)).1
     have h2:=ih fun u hu=>hs u (.tail _ hu)
     unfold cN at h2 ⊢
     rw[acW,aiv,aaL];omega
   have:=this L' y4
   omega) (fun s hs=>by
    rcases aaD.1 hs with rfl | hs
    ·intro b hb;rw[No] at hb;omega
    ·exact (y4 s hs).2)
  have oT:Out [] H H6:=((((r3.trans o1).trans i2).trans o3).then y5 fun j hj => .inr (by have iU:=No.1 hj;have:=r3.1;omega)).trans w2
  refine⟨uA [32] L',H6,Vx ?_,oT⟩
  unfold Mz
  simp(disch:=first|exact zqz|fail)only[r1,hz,di,e1,i1,fl_2,kF,e2,aJ,y1,w1,av,au,ai,aj,simprocAttr]
structure Cm where
 kd:Int
 rn:Int
 tk:Int
 ty:Int
 n:Int
 ep:Int
 nm:aq
 ky:aq
 dt:aq
structure Rp where
 er:Int
 rn:Int
 tk:Int
 ty:Int
 ep:Int
 tx:aq
def cmC (c:Cm):List AV:=[.int .i64 c.kd,.int .i64 c.rn,.int .i64 c.tk,.int .i64 c.ty,.int .i64 c.n,.int .i64 c.ep,.str c.nm,.str c.ky,.str c.dt]
def rpC (r:Rp):List AV:=[.int .i64 r.er,.int .i64 r.rn,.int .i64 r.tk,.int .i64 r.ty,.int .i64 r.ep,.str r.tx]
abbrev evZ:Ev:=⟨0,0,0,0,0,[],[],[]⟩
abbrev rpE (e:Int):Rp:=⟨e,0,0,0,0,[]⟩
abbrev evz:List AV:=[.int .i64 0,.int .i64 0,.int .i64 0,.int .i64 0,.int .i64 0,.str [],.str [],.str []]
abbrev rpz:List AV:=[.int .i64 0,.int .i64 0,.int .i64 0,.int .i64 0,.int .i64 0,.str []]
structure An where
 e:Ev
 r:Rp
 put:Bool
abbrev noA (r:Rp):An:=⟨evZ,r,false⟩
noncomputable def tryA (f:Fm)(e:Ev)(r:Rp):An:=if (applyM f e).2=0 then ⟨e,{ r with rn:=e.rn },true⟩ else noA (rpE (applyM f e).2)
noncomputable def tailA (f:Fm)(c:Cm)(ep:Int)(e:Ev)(r:Rp):An:=if (c.kd=4\/c.kd=5)/\c.ep≠ep then noA (rpE 8) else tryA f e r
structure OfR (f:Fm)(c:Cm)(ep:Int)(A:An):Prop where
 yes:A.put=true->A.r.er=0/\(applyM f A.e).2=0
 no:A.put=false->A.e=evZ/\(A.r.er≠0->A.r=rpE A.r.er)
 def1:c.kd=1->A=tryA f ⟨1,0,0,0,0,c.nm,[],c.dt⟩ (rpE 0)
 key2:c.kd=2->A=if c.ky≠[]/\(getK f.ks (c.nm,c.ky)).isSome=true then noA ⟨0,(getK f.ks (c.nm,c.ky)).getD 0,0,0,0,[]⟩ else tryA f ⟨2,if (64:Int)<(f.az.length:Nat)+1 then 64 else (f.az.length:Nat)+1,0,0,0,c.nm,c.ky,[]⟩ (rpE 0)
theorem tryA_ok {f:Fm}{e:Ev}{r:Rp}(hr:r.er=0):((tryA f e r).put=true->(tryA f e r).r.er=0/\(applyM f (tryA f e r).e).2=0)/\((tryA f e r).put=false->(tryA f e r).e=evZ/\((tryA f e r).r.er≠0->(tryA f e r).r=rpE (tryA f e r).r.er)):=by
 unfold tryA
 by_cases h:(applyM f e).2=0
 ·rw[if_pos h];exact⟨fun _=>⟨hr,h⟩,fun q=>by cases q⟩
 ·rw[if_neg h];exact⟨fun q=>(by cases q),fun _=>⟨rfl,fun _=>rfl⟩⟩
theorem tailA_ok {f:Fm}{c:Cm}{ep:Int}{e:Ev}{r:Rp}(hr:r.er=0):((tailA f c ep e r).put=true->(tailA f c ep e r).r.er=0/\(applyM f (tailA f c ep e r).e).2=0)/\((tailA f c ep e r).put=false->(tailA f c ep e r).e=evZ/\((tailA f c ep e r).r.er≠0->(tailA f c ep e r).r=rpE (tailA f c ep e r).r.er)):=by
 unfold tailA
 by_cases h:(c.kd=4\/c.kd=5)/\c.ep≠ep
 ·rw[if_pos h];exact⟨fun q=>(by cases q),fun _=>⟨rfl,fun _=>rfl⟩⟩
 ·rw[if_neg h];exact tryA_ok hr
theorem tailA_ne {f:Fm}{c:Cm}{ep:Int}{e:Ev}{r:Rp}(h4:c.kd≠4)(h5:c.kd≠5):tailA f c ep e r=tryA f e r:=by
 unfold tailA
 rw[if_neg (fun h=>h.1.elim h4 h5)]
def Say (H:Hp)(A:An)(x:R):Prop:=∃ H',x=some (.tuple [.agg (aG A.e),.agg (rpC A.r),.bool A.put],H')/\Out [] H H'
theorem JN_ex {m:Nat}{f:K.Fn m->R}{k:K.Fn m}{C:R->Prop}(T:K.Fn m->Prop)(hk:T k)(hf:∀ t,T t->C (f t)):C (JN m f k):=hf k hk
theorem BN_of {o:Option (Nat × Hp)}{i:Nat}{H:Hp}(h:o=some (i,H))(k:Nat->Hp->R):BN o k=k i H:=by rw[h];rfl
structure Mid (H0:Hp)(p:Nat)(a:FA)(f:Fm)(c:Cm)(e:Ev)(r:Rp)(H:Hp):Prop where
 fl:FL H p a f
 g:Gl H
 c0:Cs H H0.next (cmC c) 37 0
 c1:Cs H (H0.next+1) (aG e) 26 0
 c2:Cs H (H0.next+1+1) (rpC r) 39 0
 o:Out [] H0 H
 l:∀ j∈own p a,j<H0.next
 m:∀ j∈DfK.da a,j<H0.next
 n:11<=H0.next
theorem evC_one (e:Ev):(aG e).all aY=true:=rfl
theorem rpC_one (r:Rp):(rpC r).all aY=true:=rfl
section
variable {H0:Hp}{p:Nat}{a:FA}{f:Fm}{c:Cm}{e:Ev}{r:Rp}{H:Hp}
theorem Mid.out (m:Mid H0 p a f c e r H){H':Hp}(k:Out [] H H'):Mid H0 p a f c e r H':=
 ⟨m.fl.out0 k,m.g.out0 k,m.c0.out k (by simp),m.c1.out k (by simp),m.c2.out k (by simp),m.o.trans k,m.l,m.m,m.n⟩
theorem Mid.evO (m:Mid H0 p a f c e r H)(e':Ev):∃ H',st 8 (.ptr (H0.next+1) 0) (.agg (aG e')) H=some H'/\Mid H0 p a f c e' r H'/\Out [H0.next+1] H H':=by
 obtain⟨H',h1,h2,h3,h4⟩:=fx m.c1 (n:=8) (vs:=aG e') rfl rfl (evC_one e')
 have hS:∀ j∈[H0.next+1],H0.next<=j:=fun j hj=>by rw[No] at hj;omega
 exact⟨H',h1,⟨m.fl.hi h3 m.l m.m hS,m.g.out h3 fun j hj=>by have:=hS j hj;have:=m.n;omega,m.c0.out h3 (by simp),h2,m.c2.out h3 (by simp),m.o.then h3 fun j hj => .inr (hS j hj),m.l,m.m,m.n⟩,h3⟩
theorem Mid.ev (m:Mid H0 p a f c e r H)(e':Ev):∃ H',st 8 (.ptr (H0.next+1) 0) (.agg (aG e')) H=some H'/\Mid H0 p a f c e' r H':=by
 obtain⟨H',h1,h2,_⟩:=m.evO e'
 exact⟨H',h1,h2⟩
theorem Mid.rp (m:Mid H0 p a f c e r H)(r':Rp):∃ H',st 6 (.ptr (H0.next+1+1) 0) (.agg (rpC r')) H=some H'/\Mid H0 p a f c e r' H':=by
 obtain⟨H',h1,h2,h3,h4⟩:=fx m.c2 (n:=6) (vs:=rpC r') rfl rfl (rpC_one r')
 have hS:∀ j∈[H0.next+1+1],H0.next<=j:=fun j hj=>by rw[No] at hj;omega
 exact⟨H',h1,m.fl.hi h3 m.l m.m hS,m.g.out h3 fun j hj=>by have:=hS j hj;have:=m.n;omega,m.c0.out h3 (by simp;omega),m.c1.out h3 (by simp),h2,m.o.then h3 fun j hj => .inr (hS j hj),m.l,m.m,m.n⟩
theorem Mid.le (m:Mid H0 p a f c e r H):ar H (H0.next+1) 0 8=some (aG e):=m.c1.ar 8 0 (by show 0+8<=8;omega)
theorem Mid.lr (m:Mid H0 p a f c e r H):ar H (H0.next+1+1) 0 6=some (rpC r):=m.c2.ar 6 0 (by show 0+6<=6;omega)
theorem Mid.rn (m:Mid H0 p a f c e r H)(z:Int):∃ H',st 1 (.ptr (H0.next+1+1) 1) (.int .i64 z) H=some H'/\Mid H0 p a f c e { r with rn:=z } H':=by
 obtain⟨H',h1,h2,h3,h4⟩:=fG m.c2 (by decide) (o:=1) (by show 1<6;omega) (v := .int .i64 z) rfl
 have hS:∀ j∈[H0.next+1+1],H0.next<=j:=fun j hj=>by rw[No] at hj;omega
 exact⟨H',h1,m.fl.hi h3 m.l m.m hS,m.g.out h3 fun j hj=>by have:=hS j hj;have:=m.n;omega,m.c0.out h3 (by simp;omega),m.c1.out h3 (by simp),h2,m.o.then h3 fun j hj => .inr (hS j hj),m.l,m.m,m.n⟩
theorem same_ev (e:Ev):same (.agg (aG e)) (.agg (aG e))=true:=by simp[same,aG,ub,oz]
theorem same_rp (r:Rp):same (.agg (rpC r)) (.agg (rpC r))=true:=by simp[same,rpC,ub,oz]
theorem SM_str (s:aq)(x:R):SM (.str s) (.str s) x=x:=lT (same_st s)
theorem Mid.none (m:Mid H0 p a f c e r H)(r':Rp):∃ H1 H2,st 8 (.ptr (H0.next+1) 0) (.agg evz) H=some H1/\st 6 (.ptr (H0.next+1+1) 0) (.agg (rpC r')) H1=some H2/\ar H2 (H0.next+1) 0 8=some evz/\ar H2 (H0.next+1+1) 0 6=some (rpC r')/\Out [] H0 H2/\Cs H1 H0.next (cmC c) 37 0:=by
 obtain⟨H1,a1,m1⟩:=m.ev evZ
 obtain⟨H2,a2,m2⟩:=m1.rp r'
 exact⟨H1,H2,a1,a2,m2.le,m2.lr,m2.o,m1.c0⟩
end
theorem of_c {H:Hp}{p:Nat}{a:FA}{f:Fm}(h:FL H p a f)(hI:FI f)(hg:Gl H)(c:Cm)(ep:Int) :
  ∃ A,Say H A (cK (.func (.func 20) [] []) [.ptr p 0,.agg (cmC c),.int .i64 ep] H)/\OfR f c ep A:=by
 have yi:=hI.nr
 have lZ:=hI.nn
 have LW:=hI.nk
 suffices hs:∃ A,Say H A (IT JN GO cK (.ptr p 0) (.agg (cmC c)) (.int .i64 ep) H)/\OfR f c ep A by
  obtain⟨A,⟨H',h1,h2⟩,h3⟩:=hs
  exact⟨A,⟨H',af7 h1,h2⟩,h3⟩
 have o0:=aI H (cmC c) 37 0
 have o1:=aI (al H (cmC c) 37 0) evz 26 0
 have o2:=aI (al (al H (cmC c) 37 0) evz 26 0) rpz 39 0
 have o012:=(o0.trans o1).trans o2
 have m0:Mid H p a f c evZ (rpE 0) (al (al (al H (cmC c) 37 0) evz 26 0) rpz 39 0):=
  ⟨h.out0 o012,hg.out0 o012,((bg H (cmC c) 37 0).out o1 (by simp)).out o2 (by simp),(bg (al H (cmC c) 37 0) evz 26 0).out o2 (by simp),bg (al (al H (cmC c) 37 0) evz 26 0) rpz 39 0,o012,h.lt,fun j hj=>(h.da j hj).2,hg.nx⟩
 unfold IT
 rw[BN_of (ji (show (cmC c).length<=16777216 by show 9<=16777216;omega)),BN_of (gk (by decide)),BN_of (gk (by decide))]
 rw[show (al H (cmC c) 37 0).next=H.next+1 from rfl,show (al (al H (cmC c) 37 0) evz 26 0).next=H.next+1+1 from rfl]
 generalize al (al (al H (cmC c) 37 0) evz 26 0) rpz 39 0=H1 at *
 refine JN_ex (C:=fun x=>∃ A,Say H A x/\OfR f c ep A) (fun j=>∀ e r H',Mid H p a f c e r H'->Say H (tailA f c ep e r) (j (.ptr p 0) (.int .i64 ep) (.ptr H.next 0) (.ptr (H.next+1) 0) (.ptr (H.next+1+1) 0) H')) ?_ ?_
 ·intro e r H2 m
  have C0:cellAt H2 H.next 0=some (.int .i64 c.kd):=m.c0.cellAt rfl
  have C5:cellAt H2 H.next 5=some (.int .i64 c.ep):=m.c0.cellAt rfl
  refine JN_ex (C:=Say H (tailA f c ep e r)) (fun j=>∀ H',Mid H p a f c e r H'->Say H (tryA f e r) (j (.ptr p 0) (.ptr (H.next+1) 0) (.ptr (H.next+1+1) 0) H')) ?_ ?_
  ·intro H2 m
   obtain⟨q,b,H3,k1,k2,k3,k4,k5⟩:=fclone_c m.fl (by have:=m.o.1;have:=m.n;omega) (by omega) (by omega) (by omega) hI.kd
   have m3:=m.out k3
   obtain⟨b',H4,w1,w2,w3⟩:=apply_c k2 m3.g hI.ok e
   have m4:=m.out (k3.then w3.o fun j hj => .inr (k4 j hj))
   have L2:=m.le
   have L3:=m3.le
   have hs:=same_ev e
   unfold tryA
   by_cases h0:(applyM f e).2=0
   ·have b0:((applyM f e).2 != 0)=false:=by simp[h0]
    have R1:cellAt H4 (H.next+1) 1=some (.int .i64 e.rn):=m4.c1.cellAt rfl
    obtain⟨H5,s1,m5⟩:=m4.rn e.rn
    have L5:=m5.le
    have M5:=m5.lr
    obtain⟨H6,s2,m6⟩:=m5.ev e
    obtain⟨H7,s3,m7⟩:=m6.rp { r with rn:=e.rn }
    have M6:=m6.lr
    have L7:=m7.le
    have M7:=m7.lr
    have hr:=same_rp { r with rn:=e.rn }
    rw[if_pos h0]
    refine⟨H7,?_,m7.o⟩
    simp(disch:=first|exact zqz|fail)only[k1,L3,w1,L2,lT hs,b0,R1,s1,L5,M5,s2,s3,M6,lT hr,L7,M7,av,au,ai,aj,simprocAttr]
   ·have b0:((applyM f e).2 != 0)=true:=by simp[h0]
    obtain⟨H5,H6,s1,s2,s3,s4,s5,s6⟩:=m4.none (rpE (applyM f e).2)
    dsimp only[rpC] at s2 s4
    rw[if_neg h0]
    refine⟨H6,?_,s5⟩
    simp(disch:=first|exact zqz|fail)only[k1,L3,w1,L2,lT hs,b0,s1,s2,s3,s4,av,au,ai,aj,simprocAttr]
    rfl
  ·intro j1 h1
   by_cases aC:(c.kd=4\/c.kd=5)/\c.ep≠ep
   ·obtain⟨H5,H6,s1,s2,s3,s4,s5,s6⟩:=m.none (rpE 8)
    dsimp only[rpC] at s2 s4
    have d:(c.ep != ep)=true:=by simp[aC.2]
    unfold tailA
    rw[if_pos aC]
    refine⟨H6,?_,s5⟩
    by_cases b4:c.kd=4
    ·have q4:(c.kd==4)=true:=by simp[b4]
     simp(disch:=first|exact zqz|fail)only[C0,C5,q4,d,s1,s2,s3,s4,av,au,ai,aj,simprocAttr]
     rfl
    ·have q4:(c.kd==4)=false:=by simp[b4]
     have q5:(c.kd==5)=true:=by simp[aC.1.resolve_left b4]
     simp(disch:=first|exact zqz|fail)only[C0,C5,q4,q5,d,s1,s2,s3,s4,av,au,ai,aj,simprocAttr]
     rfl
   ·have h2:=h1 _ m
    unfold tailA
    rw[if_neg aC]
    by_cases b4:c.kd=4
    ·have q4:(c.kd==4)=true:=by simp[b4]
     have d:(c.ep != ep)=false:=by
      by_cases z:c.ep=ep
      ·simp[z]
      ·exact absurd ⟨.inl b4,z⟩ aC
     simp(disch:=first|exact zqz|fail)only[C0,C5,q4,d,av,au,ai,aj,simprocAttr]
     exact h2
    ·have q4:(c.kd==4)=false:=by simp[b4]
     by_cases b5:c.kd=5
     ·have q5:(c.kd==5)=true:=by simp[b5]
      have d:(c.ep != ep)=false:=by
       by_cases z:c.ep=ep
       ·simp[z]
       ·exact absurd ⟨.inr b5,z⟩ aC
      simp(disch:=first|exact zqz|fail)only[C0,C5,q4,q5,d,av,au,ai,aj,simprocAttr]
      exact h2
     ·have q5:(c.kd==5)=false:=by simp[b5]
      simp(disch:=first|exact zqz|fail)only[C0,C5,q4,q5,av,au,ai,aj,simprocAttr]
      exact h2
 ·intro j6 hj
  have E0:cellAt H1 H.next 0=some (.int .i64 c.kd):=m0.c0.cellAt rfl
  have E1:cellAt H1 H.next 1=some (.int .i64 c.rn):=m0.c0.cellAt rfl
  have E2:cellAt H1 H.next 2=some (.int .i64 c.tk):=m0.c0.cellAt rfl
  have E3:cellAt H1 H.next 3=some (.int .i64 c.ty):=m0.c0.cellAt rfl
  have E4:cellAt H1 H.next 4=some (.int .i64 c.n):=m0.c0.cellAt rfl
  have E6:cellAt H1 H.next 6=some (.str c.nm):=m0.c0.cellAt rfl
  have E7:cellAt H1 H.next 7=some (.str c.ky):=m0.c0.cellAt rfl
  have E8:cellAt H1 H.next 8=some (.str c.dt):=m0.c0.cellAt rfl
  by_cases b1:c.kd=1
  ·have q1:(c.kd==1)=true:=by simp[b1]
   obtain⟨H2,z1,z2⟩:=m0.ev ⟨1,0,0,0,0,c.nm,[],c.dt⟩
   dsimp only[aG] at z1
   refine⟨tailA f c ep ⟨1,0,0,0,0,c.nm,[],c.dt⟩ (rpE 0),?_,(tailA_ok rfl).1,(tailA_ok rfl).2,fun _=>tailA_ne (by omega) (by omega),fun q=>by omega⟩
   have hz:=hj _ _ _ z2
   simp(disch:=first|exact zqz|fail)only[E0,E6,E8,q1,z1,av,au,ai,aj,simprocAttr]
   exact hz
  have q1:(c.kd==1)=false:=by simp[b1]
  by_cases b2:c.kd=2
  ·have q2:(c.kd==2)=true:=by simp[b2]
   obtain⟨H2,k1,k2⟩:=aaz m0.fl c.nm c.ky
   have m2:=m0.out k2
   have e7:cellAt H2 H.next 7=some (.str c.ky):=m2.c0.cellAt rfl
   have e6:cellAt H2 H.next 6=some (.str c.nm):=m2.c0.cellAt rfl
   by_cases hy:c.ky≠[]/\(getK f.ks (c.nm,c.ky)).isSome=true
   ·have q3:(c.ky==[])=false:=by simp[hy.1]
    have q4:=hy.2
    obtain⟨H3,H4,s1,s2,s3,s4,s5,s6⟩:=m2.none ⟨0,(getK f.ks (c.nm,c.ky)).getD 0,0,0,0,[]⟩
    dsimp only[rpC] at s2 s4
    refine⟨noA ⟨0,(getK f.ks (c.nm,c.ky)).getD 0,0,0,0,[]⟩,⟨H4,?_,s5⟩,fun q=>(by cases q),fun _=>⟨rfl,fun q=>absurd rfl q⟩,fun q=>by omega,fun _=>(if_pos hy).symm⟩
    simp(disch:=first|exact zqz|fail)only[E0,E6,E7,q1,q2,k1,q4,e7,q3,s1,s2,s3,s4,av,au,ai,aj,simprocAttr]
    rfl
   ·obtain⟨H3,z1,z2⟩:=m2.ev ⟨2,if (64:Int)<(f.az.length:Nat)+1 then 64 else (f.az.length:Nat)+1,0,0,0,c.nm,c.ky,[]⟩
    dsimp only[aG] at z1
    have w1:IntKind.wrap .i64 (((f.az.length:Nat):Int)+1)=((f.az.length:Nat):Int)+1:=wrap_i64 (by omega) (by omega)
    have hl:=XK m2.fl
    refine⟨tailA f c ep ⟨2,if (64:Int)<(f.az.length:Nat)+1 then 64 else (f.az.length:Nat)+1,0,0,0,c.nm,c.ky,[]⟩ (rpE 0),?_,(tailA_ok rfl).1,(tailA_ok rfl).2,fun q=>by omega,fun _=>(tailA_ne (by omega) (by omega)).trans (if_neg hy).symm⟩
    have hz:=hj _ _ _ z2
    by_cases h4:(getK f.ks (c.nm,c.ky)).isSome=true
    ·have h5:c.ky=[]:=Decidable.byContradiction fun q=>hy ⟨q,h4⟩
     have q3:(c.ky==[])=true:=by simp[h5]
     simp(disch:=first|exact zqz|fail)only[E0,E6,E7,q1,q2,k1,h4,e7,e6,q3,hl,w1,z1,SM_str,Ba,av,au,ai,aj,simprocAttr]
     exact hz
    ·have h5:(getK f.ks (c.nm,c.ky)).isSome=false:=by simpa using h4
     simp(disch:=first|exact zqz|fail)only[E0,E6,E7,q1,q2,k1,h5,e7,e6,hl,w1,z1,SM_str,Ba,av,au,ai,aj,simprocAttr]
     exact hz
  have q2:(c.kd==2)=false:=by simp[b2]
  by_cases b3:c.kd=3
  ·have q3:(c.kd==3)=true:=by simp[b3]
   rcases first_c m0.fl (by omega) (fun x hx=>(hI.run x hx).1.i0.ok.sm) with⟨i,x,k,t,H2,i1,i2,i3,i4⟩ | ⟨H2,i3,i4⟩
   ·have m2:=m0.out i4
    obtain⟨dx,xs,tx,sx,H3,r1,r2,r3,r4⟩:=run_cf m2.fl (by omega) (fun y hy=>(hI.run y hy).1.i0.ok.sm) i1
    have hz:=st_zr r2.ones H3
    have o3:=aI H3 (rv dx x.1.st tx sx) 75 0
    have c3:=bg H3 (rv dx x.1.st tx sx) 75 0
    generalize hA:al H3 (rv dx x.1.st tx sx) 75 0=H4 at *
    have m4:=(m2.out r3).out o3
    have xu:=r3.1
    have gL:=i4.1
    have jF:=m0.c2.1
    have hr:=(hI.run x (aao i1)).1
    obtain⟨d,hd⟩:∃ d,x.1.ts[k]? = some d:=⟨_,aai (by rw[<-hr.i0.ok.len];exact (aah.1 i2).1)⟩
    obtain⟨H5,z1,z2,oe⟩:=m4.evO ⟨3,(i:Nat)+1,(k:Nat),fA (t.tr+1),0,[],[],[]⟩
    dsimp only[aG] at z1
    obtain⟨H6,z3,z4⟩:=z2.rp ⟨0,0,(k:Nat),fA (t.tr+1),ep,d.name⟩
    dsimp only[rpC] at z3
    have e0:cellAt H5 H3.next 0=some dx:=(c3.out oe (by simp;omega)).cellAt rfl
    obtain⟨y,b,o,-,-,-,y1,-,-,y2⟩:=((r2.d.out0 o3).out oe (fun j hj q=>by rw[No] at q;have:=r4 j (abG _ hj);omega)).at hd
    refine⟨tailA f c ep ⟨3,(i:Nat)+1,(k:Nat),fA (t.tr+1),0,[],[],[]⟩ ⟨0,0,(k:Nat),fA (t.tr+1),ep,d.name⟩,?_,(tailA_ok rfl).1,(tailA_ok rfl).2,fun q=>by omega,fun q=>by omega⟩
    have hf:=hj _ _ _ z4
    simp(disch:=first|exact zqz|fail)only[E0,q1,q2,q3,i3,r1,hz,hA,z1,e0,y1,y2,z3,av,au,ai,aj,simprocAttr]
    exact hf
   ·have m2:=m0.out i4
    obtain⟨H3,H4,s1,s2,s3,s4,s5,s6⟩:=m2.none (rpE 4)
    dsimp only[rpC] at s2 s4
    refine⟨noA (rpE 4),⟨H4,?_,s5⟩,fun q=>(by cases q),fun _=>⟨rfl,fun _=>rfl⟩,fun q=>by omega,fun q=>by omega⟩
    simp(disch:=first|exact zqz|fail)only[E0,q1,q2,q3,i3,s1,s2,s3,s4,av,au,ai,aj,simprocAttr]
    rfl
  have q3:(c.kd==3)=false:=by simp[b3]
  by_cases b4:c.kd=4
  ·have q4:(c.kd==4)=true:=by simp[b4]
   obtain⟨H2,z1,z2⟩:=m0.ev ⟨4,c.rn,c.tk,c.ty,0,[],[],c.dt⟩
   dsimp only[aG] at z1
   refine⟨tailA f c ep ⟨4,c.rn,c.tk,c.ty,0,[],[],c.dt⟩ (rpE 0),?_,(tailA_ok rfl).1,(tailA_ok rfl).2,fun q=>by omega,fun q=>by omega⟩
   have hz:=hj _ _ _ z2
   simp(disch:=first|exact zqz|fail)only[E0,E1,E2,E3,E8,q1,q2,q3,q4,z1,av,au,ai,aj,simprocAttr]
   exact hz
  have q4:(c.kd==4)=false:=by simp[b4]
  by_cases b5:c.kd=5
  ·have q5:(c.kd==5)=true:=by simp[b5]
   obtain⟨H2,z1,z2⟩:=m0.ev ⟨5,c.rn,c.tk,c.ty,0,[],[],[]⟩
   dsimp only[aG] at z1
   refine⟨tailA f c ep ⟨5,c.rn,c.tk,c.ty,0,[],[],[]⟩ (rpE 0),?_,(tailA_ok rfl).1,(tailA_ok rfl).2,fun q=>by omega,fun q=>by omega⟩
   have hz:=hj _ _ _ z2
   simp(disch:=first|exact zqz|fail)only[E0,E1,E2,E3,q1,q2,q3,q4,q5,z1,av,au,ai,aj,simprocAttr]
   exact hz
  have q5:(c.kd==5)=false:=by simp[b5]
  by_cases b6:c.kd=6
  ·have q6:(c.kd==6)=true:=by simp[b6]
   obtain⟨H2,z1,z2⟩:=m0.ev ⟨6,0,0,0,c.n,[],[],[]⟩
   dsimp only[aG] at z1
   refine⟨tailA f c ep ⟨6,0,0,0,c.n,[],[],[]⟩ (rpE 0),?_,(tailA_ok rfl).1,(tailA_ok rfl).2,fun q=>by omega,fun q=>by omega⟩
   have hz:=hj _ _ _ z2
   simp(disch:=first|exact zqz|fail)only[E0,E4,q1,q2,q3,q4,q5,q6,z1,av,au,ai,aj,simprocAttr]
   exact hz
  have q6:(c.kd==6)=false:=by simp[b6]
  by_cases b7:c.kd=7
  ·have q7:(c.kd==7)=true:=by simp[b7]
   obtain⟨H2,z1,z2⟩:=m0.ev ⟨7,c.rn,0,0,0,c.nm,[],[]⟩
   dsimp only[aG] at z1
   refine⟨tailA f c ep ⟨7,c.rn,0,0,0,c.nm,[],[]⟩ (rpE 0),?_,(tailA_ok rfl).1,(tailA_ok rfl).2,fun q=>by omega,fun q=>by omega⟩
   have hz:=hj _ _ _ z2
   simp(disch:=first|exact zqz|fail)only[E0,E1,E6,q1,q2,q3,q4,q5,q6,q7,z1,av,au,ai,aj,simprocAttr]
   exact hz
  have q7:(c.kd==7)=false:=by simp[b7]
  by_cases b8:c.kd=8
  ·have q8:(c.kd==8)=true:=by simp[b8]
   obtain⟨H2,z1,z2⟩:=m0.ev ⟨8,c.rn,0,0,0,[],[],[]⟩
   dsimp only[aG] at z1
   refine⟨tailA f c ep ⟨8,c.rn,0,0,0,[],[],[]⟩ (rpE 0),?_,(tailA_ok rfl).1,(tailA_ok rfl).2,fun q=>by omega,fun q=>by omega⟩
   have hz:=hj _ _ _ z2
   simp(disch:=first|exact zqz|fail)only[E0,E1,q1,q2,q3,q4,q5,q6,q7,q8,z1,av,au,ai,aj,simprocAttr]
   exact hz
  have q8:(c.kd==8)=false:=by simp[b8]
  by_cases b9:c.kd=9
  ·have q9:(c.kd==9)=true:=by simp[b9]
   obtain⟨s,H2,k1,k2⟩:=ashow_c m0.fl hI m0.g c.rn
   have m2:=m0.out k2
   by_cases hs:s=[]
   ·subst hs
    obtain⟨H3,H4,s1,s2,s3,s4,s5,s6⟩:=m2.none (rpE 4)
    dsimp only[rpC] at s2 s4
    refine⟨noA (rpE 4),⟨H4,?_,s5⟩,fun q=>(by cases q),fun _=>⟨rfl,fun _=>rfl⟩,fun q=>by omega,fun q=>by omega⟩
    have q0:(([]:List Nat)==[])=true:=rfl
    simp(disch:=first|exact zqz|fail)only[E0,E1,q1,q2,q3,q4,q5,q6,q7,q8,q9,k1,q0,s1,s2,s3,s4,av,au,ai,aj,simprocAttr]
    rfl
   ·have q0:(s==[])=false:=by simp[hs]
    obtain⟨H3,H4,s1,s2,s3,s4,s5,s6⟩:=m2.none ⟨0,c.rn,0,0,0,s⟩
    dsimp only[rpC] at s2 s4
    have e1:cellAt H2 H.next 1=some (.int .i64 c.rn):=m2.c0.cellAt rfl
    have e3:cellAt H3 H.next 1=some (.int .i64 c.rn):=s6.cellAt rfl
    refine⟨noA ⟨0,c.rn,0,0,0,s⟩,⟨H4,?_,s5⟩,fun q=>(by cases q),fun _=>⟨rfl,fun q=>absurd rfl q⟩,fun q=>by omega,fun q=>by omega⟩
    simp(disch:=first|exact zqz|fail)only[E0,E1,q1,q2,q3,q4,q5,q6,q7,q8,q9,k1,q0,e1,e3,J5,s1,s2,s3,s4,av,au,ai,aj,simprocAttr]
    rfl
  have q9:(c.kd==9)=false:=by simp[b9]
  obtain⟨H3,H4,s1,s2,s3,s4,s5,s6⟩:=m0.none (rpE 1)
  dsimp only[rpC] at s2 s4
  refine⟨noA (rpE 1),⟨H4,?_,s5⟩,fun q=>(by cases q),fun _=>⟨rfl,fun _=>rfl⟩,fun q=>absurd q b1,fun q=>absurd q b2⟩
  simp(disch:=first|exact zqz|fail)only[E0,q1,q2,q3,q4,q5,q6,q7,q8,q9,s1,s2,s3,s4,av,au,ai,aj,simprocAttr]
  rfl
def eqR' (a b:Rp):Bool:=(a.er==b.er)&&((a.rn==b.rn)&&((a.tk==b.tk)&&((a.ty==b.ty)&&((a.ep==b.ep)&&(a.tx==b.tx)))))
theorem eqA_rp (a b c d e:Int)(f:aq)(a' b' c' d' e':Int)(f':aq)(H:Hp):dH P 50 39 (.agg [.int .i64 a,.int .i64 b,.int .i64 c,.int .i64 d,.int .i64 e,.str f]) (.agg [.int .i64 a',.int .i64 b',.int .i64 c',.int .i64 d',.int .i64 e',.str f']) H=sH (fun z:Bool=>some z) [a==a',b==b',c==c',d==d',e==e',f==f']:=by kernel_rfl
theorem eqG_rp:Program.eqGuardType P P.depth 39=false:=by kernel_rfl
theorem eq_rp (a b:Rp)(H:Hp):gA P .eql 39 false (.agg (rpC a)) (.agg (rpC b))=true/\eG P .eql 39 (.agg (rpC a)) (.agg (rpC b)) H=some (.bool (eqR' a b)):=by
 constructor
 ·show (!(Program.eqGuardType P P.depth 39))=true
  rw[eqG_rp];rfl
 ·show (dH P 50 39 (.agg (rpC a)) (.agg (rpC b)) H).map (fun b=>AV.bool b)=_
  have h:dH P 50 39 (.agg (rpC a)) (.agg (rpC b)) H=_:=eqA_rp a.er a.rn a.tk a.ty a.ep a.tx b.er b.rn b.tk b.ty b.ep b.tx H
  rw[h,CV]
  simp[eqR']
theorem ne_rp (a b:Rp)(H:Hp):gA P .neq 39 false (.agg (rpC a)) (.agg (rpC b))=true/\eG P .neq 39 (.agg (rpC a)) (.agg (rpC b)) H=some (.bool (!(eqR' a b))):=by
 constructor
 ·show (!(Program.eqGuardType P P.depth 39))=true
  rw[eqG_rp];rfl
 ·show (dH P 50 39 (.agg (rpC a)) (.agg (rpC b)) H).map (fun b=>AV.bool (!b))=_
  have h:dH P 50 39 (.agg (rpC a)) (.agg (rpC b)) H=_:=eqA_rp a.er a.rn a.tk a.ty a.ep a.tx b.er b.rn b.tk b.ty b.ep b.tx H
  rw[h,CV]
  simp[eqR']
theorem eqE_refl (e:Ev):Bo e e=true:=by simp[Bo]
theorem eqR_refl (r:Rp):eqR' r r=true:=by simp[eqR']
theorem cm_len (c:Cm):(cmC c).length=9:=rfl
abbrev evA:Ev:=⟨1,0,0,0,0,[100],[],[97]⟩
abbrev cmA:Cm:=⟨2,0,0,0,0,0,[100],[],[]⟩
abbrev evB:Ev:=⟨2,1,0,0,0,[100],[],[]⟩
noncomputable abbrev fmA:Fm:=allM ou [evA]
theorem fmA_n:fmA.az.length=0:=by kernel_rfl
theorem fmA_B:(applyM fmA evB).2=0:=by kernel_rfl
theorem hold_c (H:Hp)(e:Ev)(r:Rp):∃ H3 H4,st 8 (.ptr H.next 0) (.agg (aG e)) (al (al H evz 26 0) rpz 39 0)=some H3/\st 6 (.ptr (H.next+1) 0) (.agg (rpC r)) H3=some H4/\Cs H4 H.next (aG e) 26 0/\Cs H4 (H.next+1) (rpC r) 39 0/\Out [] H H4:=by
 have o1:=aI H evz 26 0
 have c1:=bg H evz 26 0
 have o2:=aI (al H evz 26 0) rpz 39 0
 have c2:Cs (al (al H evz 26 0) rpz 39 0) (H.next+1) rpz 39 0:=bg (al H evz 26 0) rpz 39 0
 have c1':=c1.out o2 (by simp)
 generalize al (al H evz 26 0) rpz 39 0=H2 at *
 obtain⟨H3,s1,s2,s3,s4⟩:=fx c1' (n:=8) (vs:=aG e) rfl rfl (evC_one e)
 obtain⟨H4,t1,t2,t3,t4⟩:=fx (c2.out s3 (by simp)) (n:=6) (vs:=rpC r) rfl rfl (rpC_one r)
 exact⟨H3,H4,s1,t1,s2.out t3 (by simp),t2,((o1.trans o2).then s3 fun j hj => .inr (by rw[No] at hj;omega)).then t3 fun j hj => .inr (by rw[No] at hj;omega)⟩
theorem awakeA_c {H:Hp}(hg:Gl H):∃ H',cK (.func (.func 17) [] []) [] H=some (.bool true,H')/\Out [] H H':=by
 have ki:=hg.nx
 have o1:=aI H (aG evA) 26 0
 have c1:=bg H (aG evA) 26 0
 have n1:(al H (aG evA) 26 0).next=H.next+1:=rfl
 have di:aE H (aG evA) 26 0=some (H.next,al H (aG evA) 26 0):=gk (by rw[mD];omega)
 generalize al H (aG evA) 26 0=H1 at *
 have hr:RL H1 8 (.slice H.next 0 1 1 true 8) (evs [evA]):=⟨(c1.ow (n:=1) (es:=8) (by decide) rfl (fun v hv=>adA.1 (evC_one evA) v hv) true).rw,fun c hc=>by rw[No.1 hc];rfl⟩
 obtain⟨p,a,H2,i1,i2,i3,i4,i5⟩:=all_c (l:=[evA]) (by simp) (hg.out0 o1) (by omega) hr
 obtain⟨A,⟨H3,a1,a2⟩,R⟩:=of_c i2 (all_fi fi0) ((hg.out0 o1).out0 i3) cmA 4
 have hA:A=⟨evB,⟨0,1,0,0,0,[]⟩,true⟩:=by
  rw[R.key2 rfl,if_neg (fun h=>h.1 rfl)]
  show tryA fmA ⟨2,if (64:Int)<((fmA.az.length:Nat):Int)+1 then 64 else ((fmA.az.length:Nat):Int)+1,0,0,0,[100],[],[]⟩ (rpE 0)=_
  rw[fmA_n]
  show tryA fmA evB (rpE 0)=_
  unfold tryA
  rw[if_pos fmA_B]
 subst hA
 obtain⟨H4,H5,s1,s2,s3,s4,s5⟩:=hold_c H3 evB ⟨0,1,0,0,0,[]⟩
 have k8:ar H5 H3.next 0 8=some (aG evB):=s3.ar 8 0 (by rw[mD];omega)
 have k6:ar H5 (H3.next+1) 0 6=some (rpC ⟨0,1,0,0,0,[]⟩):=s4.ar 6 0 (by show 0+6<=6;omega)
 obtain⟨e1,e2⟩:=VK evB evB H5
 obtain⟨e3,e4⟩:=eq_rp ⟨0,1,0,0,0,[]⟩ ⟨0,1,0,0,0,[]⟩ H5
 rw[eqE_refl] at e2
 rw[eqR_refl] at e4
 have hl:=XK ((i2.out0 a2).out0 s5)
 rw[fmA_n] at hl
 have z0:((((0:Nat):Int))==0)=true:=rfl
 dsimp only[aG,rpC] at s1 s2 k8 k6 e1 e2 e3 e4 a1 di
 dsimp only[cmC] at a1
 refine⟨H5,acL ?_,((o1.trans i3).trans a2).trans s5⟩
 unfold OH
 simp(disch:=first|exact zqz|fail)only[di,i1,a1,bK,s1,s2,k8,k6,e1,e2,e3,e4,hl,z0,mH,av,au,ai,aj,simprocAttr]
abbrev cmD:Cm:=⟨1,0,0,0,0,0,[100],[],[97]⟩
abbrev cmK (k:aq):Cm:=⟨2,0,0,0,0,0,[100],k,[]⟩
abbrev evK (k:aq):Ev:=⟨2,1,0,0,0,[100],k,[]⟩
noncomputable abbrev fm1:Fm:=(applyM ou evA).1
theorem fm1_ok:(applyM ou evA).2=0:=by kernel_rfl
theorem fm1_r:fm1.az=[]:=by kernel_rfl
theorem fm1_k:fm1.ks=[]:=by kernel_rfl
theorem fm1_t:jq fm1.txs [100]=some [97]:=by kernel_rfl
theorem fm1_new:(bL (aK [97]).1).2=0:=by kernel_rfl
theorem okN_d:tX [100]=true:=by kernel_rfl
theorem goodK {k:aq}(h:k.length<=16):wm (evK k)=true:=by
 have h1:fieldsM 2=[82,77,75]:=rfl
 have h2:mw (evK k) 82=true:=by unfold mw;rw[if_pos rfl];rfl
 have h3:mw (evK k) 77=true:=by unfold mw;rw[if_neg (by decide),if_neg (by decide),if_neg (by decide),if_neg (by decide),if_pos rfl];exact okN_d
 have h4:mw (evK k) 75=true:=by unfold mw;rw[if_neg (by decide),if_neg (by decide),if_neg (by decide),if_neg (by decide),if_neg (by decide),if_pos rfl];exact decide_eq_true h
 have h5:xH (evK k) [82,77,75]=evK k:=rfl
 show (!(fieldsM 2==[])&&(Bo (xH (evK k) (fieldsM 2)) (evK k)&&(fieldsM 2).all (mw (evK k))))=true
 rw[h1,h5,eqE_refl]
 simp[h2,h3,h4]
theorem startK {k:aq}(h0:k≠[])(h:k.length<=16):(applyM fm1 (evK k)).2=0/\getK (applyM fm1 (evK k)).1.ks ([100],k)=some 1:=by
 have e:applyM fm1 (evK k)=({ fm1 with az:=fm1.az++[((bL (aK [97]).1).1,[100])],ks:=if k=[] then fm1.ks else fm1.ks++[(([100],k),1)] },0):=by
  unfold applyM
  rw[if_pos (goodK h),if_neg (show ¬ (2:Int)=1 by decide),if_pos (show (2:Int)=2 from rfl)]
  unfold startM
  rw[fm1_t]
  show (if k≠[]/\(getK fm1.ks ([100],k)).isSome=true then (fm1,5) else if fm1.az.length=64 then (fm1,6) else if (1:Int)≠(fm1.az.length:Int)+1 then (fm1,1) else if (bL (aK [97]).1).2≠0 then (fm1,(bL (aK [97]).1).2) else _)=_
  rw[if_neg (by rw[fm1_k];exact fun q=>by cases q.2),if_neg (by rw[fm1_r];decide),if_neg (by rw[fm1_r];decide),if_neg (fun q=>q fm1_new)]
 rw[e]
 refine⟨rfl,?_⟩
 show getK (if k=[] then fm1.ks else fm1.ks++[(([100],k),1)]) ([100],k)=some 1
 rw[if_neg h0,fm1_k]
 simp[getK]
theorem cmC_one (c:Cm):(cmC c).all aY=true:=rfl
theorem keys_loop {p ci n:Nat}{a:FA}{f:Fm}{k:aq}(hn:n<=10)(sI:k≠[])(hk:getK f.ks ([100],k)=some 1)(hI:FI f):∀ (m i:Nat) (H:Hp),i+m=n->FL H p a f->Gl H->Cs H ci (cmC (cmK k)) 37 0->
  ∃ H',∀ mW:K.Fn 0,En JN GO cK mW (.int .i64 (n:Nat)) (.ptr p 0) (.ptr ci 0) (.int .i64 (i:Nat)) H=mW H'
 | 0,i,H,h,hF,hg,hc=>by
  obtain rfl:i=n:=by omega
  refine⟨H,fun mW => ?_⟩
  rw[abk]
  simp only[bl_outriderlaw20_AdmitKeys,fU,ai,aj,simprocAttr]
 | m+1,i,H,h,hF,hg,hc=>by
  have h1:i<n:=by omega
  have es:=gf h1 (by omega)
  have w9:ar H ci 0 9=some (cmC (cmK k)):=hc.ar 9 0 (by rw[cm_len];omega)
  obtain⟨A,⟨H2,a1,a2⟩,R⟩:=of_c hF hI hg (cmK k) (i:Nat)
  have hA:A=noA ⟨0,1,0,0,0,[]⟩:=by
   rw[R.key2 rfl,if_pos ⟨sI,by rw[hk];rfl⟩,hk];rfl
  subst hA
  obtain⟨H3,H4,s1,s2,s3,s4,s5⟩:=hold_c H2 evZ ⟨0,1,0,0,0,[]⟩
  have k6:ar H4 (H2.next+1) 0 6=some (rpC ⟨0,1,0,0,0,[]⟩):=s4.ar 6 0 (by show 0+6<=6;omega)
  obtain⟨e3,e4⟩:=ne_rp ⟨0,1,0,0,0,[]⟩ ⟨0,1,0,0,0,[]⟩ H4
  rw[eqR_refl] at e4
  dsimp only[aG,rpC] at s1 s2 k6 e3 e4 a1
  obtain⟨H',i1⟩:=keys_loop hn sI hk hI m (i+1) H4 (by omega) ((hF.out0 a2).out0 s5) ((hg.out0 a2).out0 s5) ((hc.out a2 (by simp)).out s5 (by simp))
  refine⟨H',fun mW => ?_⟩
  rw[abk]
  simp(disch:=first|exact zqz|fail)only[bl_outriderlaw20_AdmitKeys,bI h1,w9,a1,bK,s1,s2,k6,e3,e4,es,i1,mH,av,au,ai,aj,simprocAttr]
theorem admitKeys_c {k:aq}{z:Int}{H:Hp}(hg:Gl H):∃ H',cK (.func (.func 5) [] []) [.str k,.int .i64 z] H=some (.bool true,H'):=by
 obtain⟨H1,a1,a2⟩:=awakeA_c hg
 cases d1:decide (((k.length:Nat):Int)<1) with
 | true=>
  refine⟨H1,Et ?_⟩
  unfold AH
  simp(disch:=first|exact zqz|fail)only[a1,d1,av,au,ai,aj,simprocAttr]
 | false=>
 cases d2:decide ((16:Int)<((k.length:Nat):Int)) with
 | true=>
  refine⟨H1,Et ?_⟩
  unfold AH
  simp(disch:=first|exact zqz|fail)only[a1,d1,d2,av,au,ai,aj,simprocAttr]
 | false=>
 cases d3:decide (z<1) with
 | true=>
  refine⟨H1,Et ?_⟩
  unfold AH
  simp(disch:=first|exact zqz|fail)only[a1,d1,d2,d3,av,au,ai,aj,simprocAttr]
 | false=>
 cases d4:decide (10<z) with
 | true=>
  refine⟨H1,Et ?_⟩
  unfold AH
  simp(disch:=first|exact zqz|fail)only[a1,d1,d2,d3,d4,av,au,ai,aj,simprocAttr]
 | false=>
 have b1:=of_decide_eq_false d1
 have b2:=of_decide_eq_false d2
 have b3:=of_decide_eq_false d3
 have b4:=of_decide_eq_false d4
 have sI:k≠[]:=fun q=>by subst q;simp at b1
 obtain⟨n,rfl⟩:∃ n:Nat,z=(n:Nat):=⟨z.toNat,by omega⟩
 have uP:=hg.out0 a2
 obtain⟨p,a,H2,n1,n2,n3,n4,n5⟩:=P3 uP.nx
 have hz:st 9 (.ptr H2.next 0) (.agg (cmC (cmK k))) (al H2 [.int .i64 0,.int .i64 0,.int .i64 0,.int .i64 0,.int .i64 0,.int .i64 0,.str [],.str [],.str []] 37 0)=some (al H2 (cmC (cmK k)) 37 0):=iI (cmC_one _) rfl rfl (by decide) rfl
 have o3:=aI H2 (cmC (cmK k)) 37 0
 have c3:=bg H2 (cmC (cmK k)) 37 0
 generalize kF:al H2 (cmC (cmK k)) 37 0=H3 at *
 have hg3:=(uP.out0 n3).out0 o3
 have hF3:=n2.out0 o3
 have l2:=n3.1
 have l3:=c3.1
 have ha3:∀ j∈own p a,j≠H2.next:=fun j hj=>Nat.ne_of_lt (n2.lt j hj)
 obtain⟨A,⟨H4,a3,a4⟩,R⟩:=of_c hF3 fi0 hg3 cmD 1
 have hA:A=⟨evA,⟨0,0,0,0,0,[]⟩,true⟩:=by
  rw[R.def1 rfl]
  show tryA ou evA (rpE 0)=_
  unfold tryA
  rw[if_pos fm1_ok]
 subst hA
 obtain⟨H5,H6,s1,s2,s3,s4,s5⟩:=hold_c H4 evA ⟨0,0,0,0,0,[]⟩
 have k8:ar H6 H4.next 0 8=some (aG evA):=s3.ar 8 0 (by rw[mD];omega)
 have hF6:=(hF3.out0 a4).out0 s5
 have hg6:=(hg3.out0 a4).out0 s5
 have c6:=(c3.out a4 (by simp)).out s5 (by simp)
 have l4:=a4.1
 have l6:=s3.1
 obtain⟨a',H7,w1,w2,w3⟩:=apply_c hF6 hg6 fi0.ok evA
 have w1':cK (.func (.func 16) [] []) [.ptr p 0,.agg (aG evA)] H6=some (.int .i64 0,H7):=by rw[w1,fm1_ok]
 have hg7:=hg6.out w3.o hF6.lo
 have c7:=c6.out w3.o fun q=>ha3 _ q rfl
 have s7:Cs H7 H4.next (aG evA) 26 0:=s3.out w3.o fun q=>by have:=hF3.lt _ q;omega
 have hI1:FI fm1:=apply_fi fi0 evA
 have w9:ar H7 H2.next 0 9=some (cmC (cmK k)):=c7.ar 9 0 (by rw[cm_len];omega)
 obtain⟨A,⟨H8,x1,x2⟩,R⟩:=of_c w2 hI1 hg7 (cmK k) 1
 obtain⟨st1',st2'⟩:=startK sI (show k.length<=16 by omega)
 have hA:A=⟨evK k,⟨0,1,0,0,0,[]⟩,true⟩:=by
  rw[R.key2 rfl,if_neg (by rw[show (applyM ou evA).1.ks=[] from fm1_k];exact fun q=>by cases q.2),show (applyM ou evA).1.az=[] from fm1_r]
  show tryA fm1 (evK k) (rpE 0)=_
  unfold tryA
  rw[if_pos st1']
 subst hA
 have o9:=aI H8 rpz 39 0
 have c9:=bg H8 rpz 39 0
 generalize hA9:al H8 rpz 39 0=H9 at *
 have s9:=(s7.out x2 (by simp)).out o9 (by simp)
 have l8:=x2.1
 have l7:=w3.o.1
 have l9:=s7.1
 obtain⟨uJ,y1,y2,y3,y4⟩:=fx s9 (n:=8) (vs:=aG (evK k)) rfl rfl (evC_one _)
 obtain⟨Cy,z1,z2,z3,z4⟩:=fx (c9.out y3 (by simp;omega)) (n:=6) (vs:=rpC ⟨0,1,0,0,0,[]⟩) rfl rfl (rpC_one _)
 have k1:cellAt Cy H8.next 1=some (.int .i64 1):=z2.cellAt rfl
 have k8':ar Cy H4.next 0 8=some (aG (evK k)):=(y2.out z3 (by simp;omega)).ar 8 0 (by rw[mD];omega)
 have KP:∀ j∈own p a',j≠H4.next:=fun j hj q=>(w3.w j hj).elim (fun z=>by have:=hF3.lt j z;omega) fun z=>by omega
 have hinn:∀ j∈DfK.da a',j≠H4.next:=fun j hj q=>(w3.i j hj).elim (fun z=>by have:=(hF3.da j z).2;omega) fun z=>by omega
 have hF11:FL Cy p a' fm1:=(((w2.out0 x2).out0 o9).out y3 (fun j hj z=>KP j hj (No.1 z)) fun j hj z=>hinn j hj (No.1 z)).out z3 (fun j hj z=>by have:=w2.lt j hj;rw[No] at z;omega) fun j hj z=>by have:=(w2.da j hj).2;rw[No] at z;omega
 have ki:=hg.nx
 have l1:=a2.1
 have hg11:=(((hg7.out0 x2).out0 o9).out y3 fun j hj=>by rw[No] at hj;omega).out z3 fun j hj=>by rw[No] at hj;omega
 obtain⟨a'',H12,v1,v2,v3⟩:=apply_c hF11 hg11 hI1.ok (evK k)
 rw[st1'] at v1
 have c12:=((((c7.out x2 (by simp)).out o9 (by simp)).out y3 (by simp;omega)).out z3 (by simp;omega)).out v3.o fun q=>(w3.w _ q).elim (fun z=>ha3 _ z rfl) fun z=>by omega
 obtain⟨H',i1⟩:=keys_loop (k:=k) (n:=n) (by omega) sI st2' (apply_fi hI1 (evK k)) n 0 H12 (by omega) v2 (hg11.out v3.o hF11.lo) c12
 rw[show (((0:Nat):Int))=0 from rfl] at i1
 dsimp only[aG,rpC,cmC] at kF hz a3 s1 s2 k8 w1' w9 x1 y1 z1 k8' v1
 have t0:((0:Int) != 0)=false:=rfl
 have t1:((1:Int) != 1)=false:=rfl
 refine⟨H',Et ?_⟩
 unfold AH
 simp(disch:=first|exact zqz|fail)only[a1,d1,d2,d3,d4,n1,hz,kF,a3,bK,s1,s2,k8,w1',t0,w9,x1,hA9,y1,z1,k1,t1,k8',v1,i1,av,au,ai,aj,simprocAttr]
theorem keys_top {H:Hp}{aR:List AV}{ds:List D}(h:Dm H [.str,.int .i64] aR ds)(hT:BY H oW)(hn:11<=H.next):∃ H',cK (.func (.func 5) [] []) aR H=some (.bool true,H'):=by
 cases h with
 | cons h0 h=>
 cases h with
 | cons h1 h=>
 cases h
 obtain⟨s,rfl,_⟩:=alk h0
 obtain⟨z,rfl,_⟩:=ah8 h1
 exact admitKeys_c (Gl.of hT hn)
end Go.Proofs.YtodfajmihkagnaaGreatDoor.DfK
namespace Go.Proofs.YtodfajmihkagnaaGreatDoor.Hand
open Go
theorem size_open {P:Program}{w:World}(h:w.ShapedOpen P){g:Nat}(hg:g+1=P.globals.size)(hr:(((begin P (fun _ _=>0) default).world.heap[g]?).bind Obj.row?).isSome=true):P.globals.size<=w.heap.size:=by
 obtain⟨⟨zero,t⟩,hr⟩:=ahl.1 hr
 obtain⟨cs,hc,_⟩:=h.1 g zero t (by omega) hr
 have:=(abZ.1 hc).1
 omega
variable {H:Type}{enc:TypeId × Value->H}
theorem handed {a:Assume}{C:Checked}{os:Os}{f:FuncId}{fn:Func}{s:ChangeSpec}{conds:List PathCond}{apart fresh handsOn again:Bool}{X:World->Array Value->Prop}{g:Nat}
  (hg:g+1=C.prog.globals.size) (hr:(((begin C.prog (fun _ _=>0) default).world.heap[g]?).bind Obj.row?).isSome=true)
  (hX:∀ (w w':World) (args:Array Value),w.heap=w'.heap->X w args->X w' args)
  (own:ownKnob C.prog.godebug=none) (started:os.Started) (noInit:C.prog.inits.idxOf? f=none) (vW:C.prog.funcs[f]? = some fn)
  (witness:∃ (w:World) (tape:Tape) (i:Input),w.os=os/\(w.forCall tape i).Shaped C.prog/\i.vars=[]/\Input.okWide C.prog (w.forCall tape i) .any w.heap.size f i/\
   ((s.pre enc C.prog fn conds apart (w.forCall tape i).memory i.args/\X (w.forCall tape i).memory i.args)/\sizedMet enc C.prog fn (OpenSpec.ofChange s) apart (w.forCall tape i).memory i.args)/\a.holds C.prog (lone (Frame.enter C.prog f i.args .normal) [] (w.forCall tape i)))
  (contract:∀ (W:World) (base:Nat) (args:Array Value) (ds gs:List (DataW H)) (before:List MemPlace),C.prog.globals.size<=W.heap.size->
   (∀ (j:Nat) t v,fn.params[j]? = some t->args[j]? = some v->Value.okWide C.prog W .any base t v)->
   DataW.Whole enc C.prog fn.params.toList s.vars apart W args.toList ds gs before->
   conds.all (PathCond.test C.prog ⟨fn.params.toList,ds,s.plain.varTypes C.prog,gs⟩)=true->
   (DataW.weightsEach C.prog (fn.params.toList++s.plain.varTypes C.prog) (ds++gs)).all (·<=reachBytes)=true->X W args->
   a.holds C.prog (lone (Frame.enter C.prog f args .normal) [] W)->
   Calls C.prog f args W fun e W'=>∃ v,e = .returned v/\s.post enc C.prog fn apart fresh handsOn again W args v W') :
  ReturnsInHanded a C os f .any (fun w args=>(s.pre enc C.prog fn conds apart w args/\X w args)/\sizedMet enc C.prog fn (OpenSpec.ofChange s) apart w args) (s.post enc C.prog fn apart fresh handsOn again):=
 returnsInHanded_of_calls own started noInit witness fun w tape i _ nR _ vg hpre hholds=>by
  obtain⟨_,_,_,fn',hfn',_,_,_,_,Ad⟩:=vg
  obtain rfl:fn'=fn:=acN (hfn'.symm.trans vW)
  obtain⟨⟨⟨ds,gs,before,hw,hc⟩,hx⟩,hz⟩:=hpre
  refine (contract (w.forCall tape i) w.heap.size i.args ds gs before (size_open nR hg hr) Ad (DataW.Whole.of_heap (w':=w.forCall tape i) (by rfl) hw) hc (hz.weights hw) (hX _ _ _ (by rfl) hx) hholds).mono fun e W' hp => ?_
  obtain⟨v,rfl,hp⟩:=hp
  exact ChangeSpec.post_blind hp
end Go.Proofs.YtodfajmihkagnaaGreatDoor.Hand
