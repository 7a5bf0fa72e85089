/- Laws that the proof uses. -/
import Derived.Test.YtodfajmihkagnaaGreatDoorDfD6
import Derived.Test.YtodfajmihkagnaaGreatDoorDfKb
set_option linter.unusedVariables false
set_option linter.unusedSimpArgs false
set_option maxRecDepth 100000
set_option maxHeartbeats 2000000
namespace Go.Proofs.YtodfajmihkagnaaGreatDoor.DfK
open Go Am Am.K lN nC kI py
theorem parse_c0 {text:ai}{H:Hp}(hg:Gl H):∃ dx xs H',cK (.func (.func 53) [] []) [.str text] H=some (.tuple [dv dx,.int .i64 (aM text).2],H')/\RD H' dx xs (aM text).1/\Out [] H H'/\∀ j∈lU dx xs,H.next<=j:=by
 by_cases hl:text.length<=4294967296
 ·exact agq hg hl
 have o1:=aG H [.ae] 72 0
 have d:decide ((1024:Int)<(text.length:Int))=true:=decide_eq_true (by omega)
 have aA:st 1 (.ptr H.next 0) (.agg [.ae]) (al H [.ae] 72 0)=some (al H [.ae] 72 0):=iI rfl rfl rfl (by decide) rfl
 unfold aM
 rw[if_pos (by omega)]
 refine⟨.ae,[],al H [.ae] 72 0,Je ?_,RD.nil _,o1,fun j hj=>by cases hj⟩
 unfold Dc
 simp(disch:=first|exact zqz|fail)only[d,aA,aj,ak,ag,af,simprocAttr]
theorem ao2 (i:Nat):same (.map i) (.map i)=true:=by simp[same,pL,aie]
def rj:Fm:=⟨0,[],[],[],[]⟩
theorem Xz {H:Hp}(hn:11<=H.next):∃ p a H',cK (.func (.func 18) [] []) [] H=some (.ptr p 0,H')/\FL H' p a rj/\Out [] H H'/\(∀ j∈own p a,H.next<=j)/\a.bC=[]:=by
 obtain⟨H1,m1,m2,m3,m4⟩:=NK H
 obtain⟨kp,km,H2,k1,k2,k3,k4,k5⟩:=aqT H1
 have kO:=k2.lt
 have hf:fl [(.int .i64 0),.ae,.jZ,.ae,.dR] [(2,1,.map H.next),(4,1,.ptr kp 0)]=some (fv ⟨H.next,kp,km,.ae,.ae,.ae,[]⟩ rj):=rfl
 have aN:bx 67 (.agg (fv ⟨H.next,kp,km,.ae,.ae,.ae,[]⟩ rj)) H2=some (H2.next,al H2 (fv ⟨H.next,kp,km,.ae,.ae,.ae,[]⟩ rj) 67 0):=gh (by simp)
 have o3:=aG H2 (fv ⟨H.next,kp,km,.ae,.ae,.ae,[]⟩ rj) 67 0
 have c3:=aZ H2 (fv ⟨H.next,kp,km,.ae,.ae,.ae,[]⟩ rj) 67 0
 have l1:=kO kp (.head _)
 have l2:=kO km (.tail _ (.head _))
 have n2:=k3.1
 have Gi:∀ j∈own H2.next ⟨H.next,kp,km,.ae,.ae,.ae,[]⟩,H.next<=j:=by
  intro j hj
  simp[own,lD,ah] at hj
  omega
 refine⟨H2.next,⟨H.next,kp,km,.ae,.ae,.ae,[]⟩,al H2 (fv ⟨H.next,kp,km,.ae,.ae,.ae,[]⟩ rj) 67 0,air ?_,⟨c3,.nil,⟨[],0,rfl,(m2.out k3 (by simp)).out o3 (by simp)⟩,by simp[rj],OL.nil _ _ _,fun i r x hr=>by simp at hr,rfl,k2.ar o3,?_,fun j hj => ?_,fun j hj=>by simp[dU] at hj⟩,(m3.trans k3).trans o3,Gi,rfl⟩
 ·unfold X6
  simp only[m1,k1,hf,aN,ag,af,simprocAttr]
 ·have KQ:=k2.d1
  simp[lD,Dj,ah]
  omega
 ·have:=Gi j hj;omega
theorem FL.KI {H:Hp}{p:Nat}{a:FA}{f:Fm}(h:FL H p a f):aK a.rx=some (.int .i64 (f.ax.length:Nat)):=by
 have:=h.r.rl.len (by decide)
 rw[agM,h.len,Nat.min_self] at this
 exact this
theorem avB {H:Hp}{p:Nat}{a:FA}{f:Fm}(h:FL H p a f)(s t:ai):∃ H',cK (.func (.func 45) [] []) [.ptr p 0,.str s,.str t] H=some (.tuple [.int .i64 ((la f.ks (s,t)).getD 0),.bool (la f.ks (s,t)).isSome],H')/\Out [] H H':=by
 have k4:cellAt H p 4=some (.ptr a.kp 0):=h.c.cellAt rfl
 have hf:fl [(.str []),(.str [])] [(0,1,.str s),(1,1,.str t)]=some (cg (s,t)):=rfl
 obtain⟨H',g1,g2⟩:=arc h.k (s,t)
 refine⟨H',ar3 ?_,g2⟩
 unfold aeq
 simp(disch:=first|exact zqz|fail)only[k4,hf,g1,aj,ak,ag,af,simprocAttr]
noncomputable def rR (f:Fm)(s:ai):List Tk:=match fw f.bK s with | none=>[] | some t=>(aM t).1
theorem afC {H:Hp}{p:Nat}{a:FA}{f:Fm}(h:FL H p a f)(hg:Gl H)(s:ai) :
  ∃ dx xs H',cK (.func (.func 56) [] []) [.ptr p 0,.str s] H=some (.tuple [dv dx,.bool (fw f.bK s).isSome],H')/\RD H' dx xs (rR f s)/\Out [] H H'/\∀ j∈lU dx xs,H.next<=j:=by
 have o1:=aG H [.ae] 72 0
 have c1:=aZ H [.ae] 72 0
 have n1:(al H [.ae] 72 0).next=H.next+1:=rfl
 generalize bW:al H [.ae] 72 0=H1 at *
 have h1:=h.ar o1
 have k2:cellAt H1 p 2=some (.map a.tm):=h1.c.cellAt rfl
 have lk:=J8 h1.t h1.vz s true
 unfold rR
 cases hs:fw f.bK s with
 | none=>
  rw[hs] at lk
  obtain⟨H2,t1,t2,t3,t4⟩:=gO (n:=1) (vs:=[.ae]) c1 rfl rfl rfl
  have k3:aq H2 H.next 0 1=some [.ae]:=t2.aq 1 0 (by simp)
  refine⟨.ae,[],H2,aeB ?_,RD.nil _,fD o1 t3 (kf (aaU _)),fun j hj=>by cases hj⟩
  unfold Qv
  simp(disch:=first|exact zqz|fail)only[bW,k2,lk,Option.getD_none,aho,cond_true,t1,k3,aj,ak,ag,af,simprocAttr]
 | some t=>
  rw[hs] at lk
  obtain⟨dx,xs,H2,p1,p2,p3,p4⟩:=parse_c0 (text:=t) (hg.ar o1)
  have fE:=p2.row.one
  have n2:=p3.nx
  have o3:=aG H2 [dx] 72 0
  have c3:=aZ H2 [dx] 72 0
  have aA:st 1 (.ptr H2.next 0) (.agg [dx]) (al H2 [.ae] 72 0)=some (al H2 [dx] 72 0):=iI (by simp[fE]) rfl rfl (by decide) rfl
  generalize jm:al H2 [dx] 72 0=H3 at *
  have k4:aq H3 H2.next 0 1=some [dx]:=c3.aq 1 0 (by simp)
  have cR:=(c1.out p3 (by simp)).out o3 (by simp)
  obtain⟨H4,t1,t2,t3,t4⟩:=gO (n:=1) (vs:=[dx]) cR rfl rfl (by simp[fE])
  have k5:aq H4 H.next 0 1=some [dx]:=t2.aq 1 0 (by simp)
  refine⟨dx,xs,H4,aeB ?_,((p2.ar o3).out t3 fun j hj=>by rw[No];have:=p4 j hj;omega),fD ((o1.trans p3).trans o3) t3 (kf (aaU _)),fun j hj=>by have:=p4 j hj;omega⟩
  unfold Qv
  simp(disch:=first|exact zqz|fail)only[bW,k2,lk,ahb,ahx,cond_true,p1,aA,k4,t1,k5,aj,ak,ag,af,simprocAttr]
noncomputable def nM (f:Fm)(s t:ai):Fm × Int:=
 if (fw f.bK s).isSome then (f,5) else if (aM t).2≠0 then (f,(aM t).2) else if f.bf.length=16 then (f,6) else
  ({ f with bf:=f.bf++[s],bK:=f.bK++[(s,lM (aM t).1)] },0)
theorem FSt.end {H H1 H2:Hp}{p:Nat}{a b:FA}(h:Out [] H H1)(k:FSt H1 H2 p a b):FSt H H2 p a b:=(FSt.same h p a).trans k
theorem afq {H:Hp}{p:Nat}{a:FA}{f:Fm}(h:FL H p a f)(hg:Gl H)(hn:f.bf.length<=16)(s t:ai) :
  ∃ a' H',cK (.func (.func 40) [] []) [.ptr p 0,.str s,.str t] H=some (.int .i64 (nM f s t).2,H')/\FL H' p a' (nM f s t).1/\FSt H H' p a a':=by
 have k2:cellAt H p 2=some (.map a.tm):=h.c.cellAt rfl
 have lk:=J8 h.t h.vz s true
 unfold nM
 cases hs:fw f.bK s with
 | some t0=>
  rw[hs] at lk
  rw[if_pos (show (some t0).isSome=true from rfl)]
  refine⟨a,H,Lv ?_,h,FSt.same (Out.refl _ _) p a⟩
  unfold FQ
  simp(disch:=first|exact zqz|fail)only[k2,lk,ahb,ahx,cond_true,aj,ak,ag,af,simprocAttr]
 | none=>
  rw[hs] at lk
  rw[if_neg (by simp)]
  obtain⟨dx,xs,H2,p1,p2,p3,p4⟩:=parse_c0 (text:=t) hg
  have fE:=p2.row.one
  have o3:=aG H2 [dx] 72 0
  have c3:=aZ H2 [dx] 72 0
  have n3:(al H2 [dx] 72 0).next=H2.next+1:=rfl
  have aA:st 1 (.ptr H2.next 0) (.agg [dx]) (al H2 [.ae] 72 0)=some (al H2 [dx] 72 0):=iI (by simp[fE]) rfl rfl (by decide) rfl
  have Et:st 1 (.ptr H2.next 0) (dv dx) (al H2 [.ae] 72 0)=some (al H2 [dx] 72 0):=aA
  generalize jm:al H2 [dx] 72 0=H3 at *
  have fu:=p3.trans o3
  have h3:=h.ar fu
  by_cases hp:(aM t).2=0
  ·have dp:((aM t).2 != 0)=false:=by simp[hp]
   rw[if_neg (by simp[hp])]
   have k1:cellAt H3 p 1=some a.nx:=h3.c.cellAt rfl
   have fc:=h3.n.rw.jn
   rw[gB] at fc
   by_cases bJ:f.bf.length=16
   ·have d16:(((f.bf.length:Nat):Int)==16)=true:=by simp[bJ]
    rw[if_pos bJ]
    refine⟨a,H3,Lv ?_,h3,FSt.same fu p a⟩
    unfold FQ
    simp(disch:=first|exact zqz|fail)only[k2,lk,Option.getD_none,aho,cond_true,p1,aA,Et,dp,k1,fc,d16,aj,ak,ag,af,simprocAttr]
   ·have d16:(((f.bf.length:Nat):Int)==16)=false:=by rw[beq_eq_false_iff_ne];omega
    rw[if_neg bJ]
    obtain⟨lO,H4,H5,a1,a2,a3,a4,a5⟩:=h3.an1 s (by omega)
    have BQ:=a1 H3.next rfl
    have hf:fl [(.str [])] [(0,1,.str s)]=some [.str s]:=rfl
    have dJ:aC H3 [.str s] 9 0=some (H3.next,al H3 [.str s] 9 0):=gJ (by simp)
    have aoL:H2.next∉own p a:=fun q=>by have:=h.lt _ q;have:=p3.1;omega
    have c5:Cs H5 H2.next [dx] 72 0:=c3.out a4.o aoL
    have k5:aq H5 H2.next 0 1=some [dx]:=c5.aq 1 0 (by simp)
    have jC:=Qi hp
    have aqR:RD H5 dx xs (aM t).1:=(p2.ar o3).out a4.o fun j hj q=>by have:=p4 j hj;have:=h.lt _ q;omega
    have hg5:Gl H5:=(hg.ar fu).out a4.o h.lo
    obtain⟨H6,s1,s2⟩:=Yu hg5 jC.2.1 jC.2.2.1 jC.2.2.2.1 jC.1 aqR
    have h6:=a3.ar s2
    obtain⟨H7,u1,u2,u3⟩:=h6.auW (s:=s) (by simpa using hs) (lM (aM t).1)
    have k6:cellAt H5 p 2=some (.map a.tm):=a3.c.cellAt rfl
    have k7:cellAt H6 p 2=some (.map a.tm):=h6.c.cellAt rfl
    refine⟨{ a with nx:=lO },H7,Lv ?_,u2,FSt.end fu (a4.trans ((FSt.same s2 p _).trans u3))⟩
    unfold FQ
    simp(disch:=first|exact zqz|fail)only[k2,lk,Option.getD_none,aho,cond_true,p1,aA,Et,dp,k1,fc,d16,hf,dJ,BQ,a2,k5,k6,k7,s1,u1,ft (ao2 _),aj,ak,ag,af,simprocAttr]
  ·have dp:((aM t).2 != 0)=true:=by simp[hp]
   rw[if_pos hp]
   refine⟨a,H3,Lv ?_,h3,FSt.same fu p a⟩
   unfold FQ
   simp(disch:=first|exact zqz|fail)only[k2,lk,Option.getD_none,aho,cond_true,p1,aA,Et,dp,aj,ak,ag,af,simprocAttr]
theorem S0 {text:ai}(h:(aM text).2≠0):(aM text).1=[]:=by
 unfold aM at h ⊢
 by_cases h1:1024<text.length
 ·rw[if_pos h1]
 ·rw[if_neg h1] at h ⊢
  cases nJ:oY ((da 59 text).map pO) (da 59 text) with
  | none=>rfl
  | some ts=>
   rw[nJ] at h
   by_cases h2:iF ts=0
   ·simp only[if_pos h2] at h;exact absurd rfl h
   ·simp only[if_neg h2]
theorem TU (text:ai):(aM text).1.length<=16/\∀ t∈(aM text).1,t.after.length<=16:=by
 by_cases h:(aM text).2=0
 ·obtain⟨g1,g2,g3,g4,g5,g6⟩:=LH h
  exact⟨g3,acj g3 g4⟩
 ·rw[S0 h]
  exact⟨ace _,fun t ht=>by cases ht⟩
theorem aoF (f:Fm)(s:ai):(rR f s).length<=16/\∀ t∈rR f s,t.after.length<=16:=by
 unfold rR
 cases fw f.bK s with
 | none=>exact⟨ace _,fun t ht=>by cases ht⟩
 | some t=>exact TU t
noncomputable def startM (f:Fm)(e:Ev):Fm × Int:=
 match fw f.bK e.nm with
 | none=>(f,4)
 | some t=>if e.ky≠[]/\(la f.ks (e.nm,e.ky)).isSome=true then (f,5) else if f.ax.length=64 then (f,6) else if e.rn≠(f.ax.length:Int)+1 then (f,1) else
  if (bA (aM t).1).2≠0 then (f,(bA (aM t).1).2) else
  ({ f with ax:=f.ax++[((bA (aM t).1).1,e.nm)],ks:=if e.ky=[] then f.ks else f.ks++[((e.nm,e.ky),e.rn)] },0)
theorem an0 {H:Hp}{p:Nat}{a:FA}{f:Fm}(h:FL H p a f)(hg:Gl H)(hk:f.ks.length<128)(hr:f.ax.length<=64)(e:Ev) :
  ∃ a' H',cK (.func (.func 41) [] []) [.ptr p 0,.agg (aV e)] H=some (.int .i64 (startM f e).2,H')/\FL H' p a' (startM f e).1/\FSt H H' p a a':=by
 have aN:bx 26 (.agg (aV e)) H=some (H.next,al H (aV e) 26 0):=gh (by rw[qa];omega)
 have o1:=aG H (aV e) 26 0
 have c1:=aZ H (aV e) 26 0
 have n1:(al H (aV e) 26 0).next=H.next+1:=rfl
 generalize al H (aV e) 26 0=H1 at *
 have h1:=h.ar o1
 have E1:cellAt H1 H.next 1=some (.int .i64 e.rn):=c1.cellAt rfl
 have E5:cellAt H1 H.next 5=some (.str e.nm):=c1.cellAt rfl
 have E6:cellAt H1 H.next 6=some (.str e.ky):=c1.cellAt rfl
 obtain⟨dx,xs,H2,p1,p2,p3,p4⟩:=afC h1 (hg.ar o1) e.nm
 have fE:=p2.row.one
 have o3:=aG H2 [dx] 72 0
 have c3:=aZ H2 [dx] 72 0
 have n3:(al H2 [dx] 72 0).next=H2.next+1:=rfl
 have aA:st 1 (.ptr H2.next 0) (dv dx) (al H2 [.ae] 72 0)=some (al H2 [dx] 72 0):=iI (by simp[fE]) rfl rfl (by decide) rfl
 generalize jm:al H2 [dx] 72 0=H3 at *
 have h3:=(h1.ar p3).ar o3
 have fu:=(o1.trans p3).trans o3
 have OQ:=(c1.out p3 (by simp)).out o3 (by simp)
 obtain⟨H4,q1,q2⟩:=avB h3 e.nm e.ky
 have h4:=h3.ar q2
 have gk:=fu.trans q2
 have N8:=OQ.out q2 (by simp)
 have F5:cellAt H3 H.next 5=some (.str e.nm):=OQ.cellAt rfl
 have F6:cellAt H3 H.next 6=some (.str e.ky):=OQ.cellAt rfl
 have G1:cellAt H4 H.next 1=some (.int .i64 e.rn):=N8.cellAt rfl
 have G6:cellAt H4 H.next 6=some (.str e.ky):=N8.cellAt rfl
 have k3:cellAt H4 p 3=some a.rx:=h4.c.cellAt rfl
 have fA:=h4.KI
 unfold startM
 unfold rR at p2
 cases hs:fw f.bK e.nm with
 | none=>
  rw[hs] at p1
  refine⟨a,H4,xx ?_,h4,FSt.same gk p a⟩
  unfold vo
  simp(disch:=first|exact zqz|fail)only[aN,E5,p1,aA,F5,F6,q1,aho,aj,ak,ag,af,simprocAttr]
 | some t=>
  rw[hs] at p1 p2
  simp only at p2 ⊢
  by_cases EU:e.ky=[]
  ·have b1:(!(e.ky==[]))=false:=by simp[EU]
   rw[if_neg (by simp[EU])]
   by_cases pW:f.ax.length=64
   ·have b2:(((f.ax.length:Nat):Int)==64)=true:=by simp[pW]
    rw[if_pos pW]
    refine⟨a,H4,xx ?_,h4,FSt.same gk p a⟩
    unfold vo
    simp(disch:=first|exact zqz|fail)only[aN,E5,p1,aA,F5,F6,q1,ahx,G6,b1,k3,fA,b2,aj,ak,ag,af,simprocAttr]
   ·have b2:(((f.ax.length:Nat):Int)==64)=false:=by rw[beq_eq_false_iff_ne];omega
    rw[if_neg pW]
    have hw:IntKind.wrap .i64 (((f.ax.length:Nat):Int)+1)=((f.ax.length:Nat):Int)+1:=wrap_i64 (by omega) (by omega)
    by_cases rE:e.rn=(f.ax.length:Int)+1
    ·have b3:(e.rn != ((f.ax.length:Nat):Int)+1)=false:=by simp[rE]
     rw[if_neg (by simp[rE])]
     have hb:=TU t
     have k5:aq H4 H2.next 0 1=some [dx]:=(c3.out q2 (by simp)).aq 1 0 (by simp)
     obtain⟨av,a8,au,ay,H5,r1,r2,r3,r4⟩:=Vj ((p2.ar o3).ar q2) (by have:=hb.1;omega) (fun u hu=>by have:=hb.2 u hu;omega)
     have o6:=aG H5 (rv av (bA (aM t).1).1.st au ay) 75 0
     have c6:=aZ H5 (rv av (bA (aM t).1).1.st au ay) 75 0
     have n6:(al H5 (rv av (bA (aM t).1).1.st au ay) 75 0).next=H5.next+1:=rfl
     have Jy:st 4 (.ptr H5.next 0) (.agg (rv av (bA (aM t).1).1.st au ay)) (al H5 [.ae,(.int .i64 0),.ae,.ae] 75 0)=some (al H5 (rv av (bA (aM t).1).1.st au ay) 75 0):=iI (by simp[r2.v.d.row.one,r2.t.rl.one,r2.s.kC,jN]) rfl rfl (by decide) rfl
     generalize hA6:al H5 (rv av (bA (aM t).1).1.st au ay) 75 0=H6 at *
     have h6:=(h4.ar r3).ar o6
     have Cg:=(gk.trans r3).trans o6
     by_cases he:(bA (aM t).1).2=0
     ·have b4:((bA (aM t).1).2 != 0)=false:=by simp[he]
      rw[if_neg (by simp[he]),if_pos EU]
      have m3:cellAt H6 p 3=some a.rx:=h6.c.cellAt rfl
      have m4:aq H6 H5.next 0 4=some (rv av (bA (aM t).1).1.st au ay):=c6.aq 4 0 (by simp)
      have C9:=(N8.out r3 (by simp)).out o6 (by simp)
      have m5:cellAt H6 H.next 5=some (.str e.nm):=C9.cellAt rfl
      have Ir:RV H6 av a8 au ay (bA (aM t).1).1:=r2.v.ar o6
      have ry:∀ j∈(RA.mk av a8 au ay).fp,j∉own p a:=fun j hj q=>by have:=r4 j hj;have:=h4.lt j q;omega
      obtain⟨ef,H7,H8,a1,a2,a3,a4,a5,a6,a7⟩:=h6.P6 (r':=⟨av,a8,au,ay⟩) (x:=((bA (aM t).1).1,e.nm)) Ir ry (by omega)
      have BQ:=a1 H6.next rfl
      have f1:fl [.ae,(.int .i64 0),.ae,.ae,(.str [])] [(0,4,.agg (rv av (bA (aM t).1).1.st au ay)),(4,1,.str e.nm)]=some (bT ⟨av,a8,au,ay⟩ ((bA (aM t).1).1,e.nm)):=by
       rw[zI (l:=rv av (bA (aM t).1).1.st au ay) (n:=4) rfl (by simp),zX rfl (by simp),rZ];rfl
      have f2:fl [.ae,(.int .i64 0),.ae,.ae,(.str [])] [(0,5,.agg (bT ⟨av,a8,au,ay⟩ ((bA (aM t).1).1,e.nm)))]=some (bT ⟨av,a8,au,ay⟩ ((bA (aM t).1).1,e.nm)):=by
       rw[zI (l:=bT ⟨av,a8,au,ay⟩ ((bA (aM t).1).1,e.nm)) (n:=5) rfl (by simp),rZ];rfl
      have dJ:aC H6 (bT ⟨av,a8,au,ay⟩ ((bA (aM t).1).1,e.nm)) 77 0=some (H6.next,al H6 (bT ⟨av,a8,au,ay⟩ ((bA (aM t).1).1,e.nm)) 77 0):=gJ (by simp[bT])
      have m6:cellAt (al H6 (bT ⟨av,a8,au,ay⟩ ((bA (aM t).1).1,e.nm)) 77 0) p 3=some a.rx:=by rw[vM h6.c.1];exact m3
      have pU:=oe h6.r.1.rw
      have Kv:H.next∉own p a:=fun q=>by have:=h.lt _ q;omega
      have m8:cellAt H8 H.next 6=some (.str e.ky):=(C9.out a4 Kv).cellAt rfl
      have vw:FSt H H8 p a { a with rx:=ef,bC:=a.bC++[⟨av,a8,au,ay⟩] }:=by
       have:=gk.1;have:=Cg.1
       exact⟨(Cg.mono fun j hj=>by cases hj).trans a4,fun j hj=>(a5 j hj).imp (fun q=>q) fun q=>by omega,fun j hj=>(a6 j hj).imp (fun q=>q) fun q=>by have:=r4 j q;omega⟩
      refine⟨_,H8,xx ?_,a3,vw⟩
      unfold vo
      simp(disch:=first|exact zqz|fail)only[aN,E5,p1,aA,F5,F6,q1,ahx,G6,b1,k3,fA,b2,G1,hw,b3,k5,r1,Jy,b4,m3,m4,m5,f1,f2,dJ,BQ,a2,m6,ft pU,m8,aj,ak,ag,af,simprocAttr]
     ·have b4:((bA (aM t).1).2 != 0)=true:=by simp[he]
      rw[if_pos he]
      refine⟨a,H6,xx ?_,h6,FSt.same Cg p a⟩
      unfold vo
      simp(disch:=first|exact zqz|fail)only[aN,E5,p1,aA,F5,F6,q1,ahx,G6,b1,k3,fA,b2,G1,hw,b3,k5,r1,Jy,b4,aj,ak,ag,af,simprocAttr]
    ·have b3:(e.rn != ((f.ax.length:Nat):Int)+1)=true:=by simp[rE]
     rw[if_pos rE]
     refine⟨a,H4,xx ?_,h4,FSt.same gk p a⟩
     unfold vo
     simp(disch:=first|exact zqz|fail)only[aN,E5,p1,aA,F5,F6,q1,ahx,G6,b1,k3,fA,b2,G1,hw,b3,aj,ak,ag,af,simprocAttr]
  ·have b1:(!(e.ky==[]))=true:=by simp[EU]
   cases DP:la f.ks (e.nm,e.ky) with
   | some LY=>
    rw[if_pos ⟨EU,rfl⟩]
    rw[DP] at q1
    refine⟨a,H4,xx ?_,h4,FSt.same gk p a⟩
    unfold vo
    simp(disch:=first|exact zqz|fail)only[aN,E5,p1,aA,F5,F6,q1,ahx,ahb,G6,b1,aj,ak,ag,af,simprocAttr]
   | none=>
   rw[if_neg (by simp)]
   rw[DP] at q1
   by_cases pW:f.ax.length=64
   ·have b2:(((f.ax.length:Nat):Int)==64)=true:=by simp[pW]
    rw[if_pos pW]
    refine⟨a,H4,xx ?_,h4,FSt.same gk p a⟩
    unfold vo
    simp(disch:=first|exact zqz|fail)only[aN,E5,p1,aA,F5,F6,q1,ahx,aho,G6,b1,k3,fA,b2,aj,ak,ag,af,simprocAttr]
   ·have b2:(((f.ax.length:Nat):Int)==64)=false:=by rw[beq_eq_false_iff_ne];omega
    rw[if_neg pW]
    have hw:IntKind.wrap .i64 (((f.ax.length:Nat):Int)+1)=((f.ax.length:Nat):Int)+1:=wrap_i64 (by omega) (by omega)
    by_cases rE:e.rn=(f.ax.length:Int)+1
    ·have b3:(e.rn != ((f.ax.length:Nat):Int)+1)=false:=by simp[rE]
     rw[if_neg (by simp[rE])]
     have hb:=TU t
     have k5:aq H4 H2.next 0 1=some [dx]:=(c3.out q2 (by simp)).aq 1 0 (by simp)
     obtain⟨av,a8,au,ay,H5,r1,r2,r3,r4⟩:=Vj ((p2.ar o3).ar q2) (by have:=hb.1;omega) (fun u hu=>by have:=hb.2 u hu;omega)
     have o6:=aG H5 (rv av (bA (aM t).1).1.st au ay) 75 0
     have c6:=aZ H5 (rv av (bA (aM t).1).1.st au ay) 75 0
     have n6:(al H5 (rv av (bA (aM t).1).1.st au ay) 75 0).next=H5.next+1:=rfl
     have Jy:st 4 (.ptr H5.next 0) (.agg (rv av (bA (aM t).1).1.st au ay)) (al H5 [.ae,(.int .i64 0),.ae,.ae] 75 0)=some (al H5 (rv av (bA (aM t).1).1.st au ay) 75 0):=iI (by simp[r2.v.d.row.one,r2.t.rl.one,r2.s.kC,jN]) rfl rfl (by decide) rfl
     generalize hA6:al H5 (rv av (bA (aM t).1).1.st au ay) 75 0=H6 at *
     have h6:=(h4.ar r3).ar o6
     have Cg:=(gk.trans r3).trans o6
     by_cases he:(bA (aM t).1).2=0
     ·have b4:((bA (aM t).1).2 != 0)=false:=by simp[he]
      rw[if_neg (by simp[he]),if_neg EU]
      have m3:cellAt H6 p 3=some a.rx:=h6.c.cellAt rfl
      have m4:aq H6 H5.next 0 4=some (rv av (bA (aM t).1).1.st au ay):=c6.aq 4 0 (by simp)
      have C9:=(N8.out r3 (by simp)).out o6 (by simp)
      have m5:cellAt H6 H.next 5=some (.str e.nm):=C9.cellAt rfl
      have Ir:RV H6 av a8 au ay (bA (aM t).1).1:=r2.v.ar o6
      have ry:∀ j∈(RA.mk av a8 au ay).fp,j∉own p a:=fun j hj q=>by have:=r4 j hj;have:=h4.lt j q;omega
      obtain⟨ef,H7,H8,a1,a2,a3,a4,a5,a6,a7⟩:=h6.P6 (r':=⟨av,a8,au,ay⟩) (x:=((bA (aM t).1).1,e.nm)) Ir ry (by omega)
      have BQ:=a1 H6.next rfl
      have f1:fl [.ae,(.int .i64 0),.ae,.ae,(.str [])] [(0,4,.agg (rv av (bA (aM t).1).1.st au ay)),(4,1,.str e.nm)]=some (bT ⟨av,a8,au,ay⟩ ((bA (aM t).1).1,e.nm)):=by
       rw[zI (l:=rv av (bA (aM t).1).1.st au ay) (n:=4) rfl (by simp),zX rfl (by simp),rZ];rfl
      have f2:fl [.ae,(.int .i64 0),.ae,.ae,(.str [])] [(0,5,.agg (bT ⟨av,a8,au,ay⟩ ((bA (aM t).1).1,e.nm)))]=some (bT ⟨av,a8,au,ay⟩ ((bA (aM t).1).1,e.nm)):=by
       rw[zI (l:=bT ⟨av,a8,au,ay⟩ ((bA (aM t).1).1,e.nm)) (n:=5) rfl (by simp),rZ];rfl
      have dJ:aC H6 (bT ⟨av,a8,au,ay⟩ ((bA (aM t).1).1,e.nm)) 77 0=some (H6.next,al H6 (bT ⟨av,a8,au,ay⟩ ((bA (aM t).1).1,e.nm)) 77 0):=gJ (by simp[bT])
      have m6:cellAt (al H6 (bT ⟨av,a8,au,ay⟩ ((bA (aM t).1).1,e.nm)) 77 0) p 3=some a.rx:=by rw[vM h6.c.1];exact m3
      have pU:=oe h6.r.1.rw
      have Kv:H.next∉own p a:=fun q=>by have:=h.lt _ q;omega
      have m8:cellAt H8 H.next 6=some (.str e.ky):=(C9.out a4 Kv).cellAt rfl
      have vw:FSt H H8 p a { a with rx:=ef,bC:=a.bC++[⟨av,a8,au,ay⟩] }:=by
       have:=gk.1;have:=Cg.1
       exact⟨(Cg.mono fun j hj=>by cases hj).trans a4,fun j hj=>(a5 j hj).imp (fun q=>q) fun q=>by omega,fun j hj=>(a6 j hj).imp (fun q=>q) fun q=>by have:=r4 j q;omega⟩
      have m1:cellAt H8 H.next 1=some (.int .i64 e.rn):=(C9.out a4 Kv).cellAt rfl
      have m9:cellAt H8 H.next 5=some (.str e.nm):=(C9.out a4 Kv).cellAt rfl
      have m0:cellAt H8 p 4=some (.ptr a.kp 0):=a3.c.cellAt rfl
      have f3:fl [(.str []),(.str [])] [(0,1,.str e.nm),(1,1,.str e.ky)]=some (cg (e.nm,e.ky)):=rfl
      obtain⟨ve,H9,y1,y2,y3⟩:=a3.gL hk DP e.rn
      have DW:cK (.func (.func 33) [] []) [.ptr a.kp 0,.agg (cg (e.nm,e.ky)),.int .i64 e.rn] H8=some (.tuple [.int .i64 e.rn,.bool true],H9):=y1
      refine⟨_,H9,xx ?_,y2,vw.trans y3⟩
      unfold vo
      simp(disch:=first|exact zqz|fail)only[aN,E5,p1,aA,F5,F6,q1,ahx,aho,G6,b1,k3,fA,b2,G1,hw,b3,k5,r1,Jy,b4,m3,m4,m5,f1,f2,dJ,BQ,a2,m6,ft pU,m8,m1,m9,m0,f3,DW,aj,ak,ag,af,simprocAttr]
     ·have b4:((bA (aM t).1).2 != 0)=true:=by simp[he]
      rw[if_pos he]
      refine⟨a,H6,xx ?_,h6,FSt.same Cg p a⟩
      unfold vo
      simp(disch:=first|exact zqz|fail)only[aN,E5,p1,aA,F5,F6,q1,ahx,aho,G6,b1,k3,fA,b2,G1,hw,b3,k5,r1,Jy,b4,aj,ak,ag,af,simprocAttr]
    ·have b3:(e.rn != ((f.ax.length:Nat):Int)+1)=true:=by simp[rE]
     rw[if_pos rE]
     refine⟨a,H4,xx ?_,h4,FSt.same gk p a⟩
     unfold vo
     simp(disch:=first|exact zqz|fail)only[aN,E5,p1,aA,F5,F6,q1,ahx,aho,G6,b1,k3,fA,b2,G1,hw,b3,aj,ak,ag,af,simprocAttr]
def tickAt (now:Int)(R:Rn)(i:Nat):Rn:=match R.rs[i]?,R.ts[i]? with
 | some t,some d=>if R.st≠0\/now<t.gm then R else if t.ph=2 then mP R i t d now else if t.ph=5 then { R with rs:=R.rs.set i { t with ph:=1,gm:=0 } } else R
 | _,_=>R
def yj (now:Int):Nat->Nat->Rn->Rn
 | 0,_,R=>R
 | m+1,i,R=>yj now m (i+1) (tickAt now R i)
def xD (R:Rn)(now:Int):Rn:=yj now R.rs.length 0 R
theorem mem_set {rs:List RT}{i:Nat}{u v:RT}(h:v∈rs.set i u):v∈rs\/v=u:=agt h
theorem amv {R:Rn}{i:Nat}{t:RT}{d:Tk}{now:Int}(ht:R.rs[i]? = some t)(hk:mV R)(hb:vu R):mV (mP R i t d now)/\vu (mP R i t d now)/\(mP R i t d now).ts=R.ts/\(mP R i t d now).sg=R.sg/\(mP R i t d now).rs.length=R.rs.length:=by
 have hbt:=hb.t t (aaO ht)
 unfold mP
 split
 ·refine⟨hk.set i _,⟨hb.d,fun u hu => ?_⟩,rfl,rfl,adU⟩
  rcases mem_set hu with hu | rfl
  ·exact hb.t u hu
  ·exact hbt
 ·have h1:=hk.set i { t with ph:=4,gm:=0 }
  refine⟨⟨⟨h1.sm.n,h1.sm.a,h1.sm.r,h1.sm.s⟩,h1.len,h1.jY⟩,⟨hb.d,fun u hu => ?_⟩,rfl,rfl,adU⟩
  rcases mem_set hu with hu | rfl
  ·exact hb.t u hu
  ·exact hbt
theorem aml {R:Rn}{i:Nat}{now:Int}(hk:mV R)(hb:vu R):mV (tickAt now R i)/\vu (tickAt now R i)/\(tickAt now R i).ts=R.ts/\(tickAt now R i).sg=R.sg/\(tickAt now R i).rs.length=R.rs.length:=by
 unfold tickAt
 split
 ·rename_i t d ht hd
  split
  ·exact⟨hk,hb,rfl,rfl,rfl⟩
  ·split
   ·exact amv ht hk hb
   ·split
    ·refine⟨hk.set i _,⟨hb.d,fun u hu => ?_⟩,rfl,rfl,adU⟩
     rcases mem_set hu with hu | rfl
     ·exact hb.t u hu
     ·exact hb.t t (aaO ht)
    ·exact⟨hk,hb,rfl,rfl,rfl⟩
 ·exact⟨hk,hb,rfl,rfl,rfl⟩
theorem Xj {dx tx sx aS:AV}{xs:List AV}{P n:Nat}{now:Int}(hn:n<=1000)(hp:P∉nP dx xs tx sx):∀ (m i:Nat) (H:Hp) (R:Rn),i+m=n->R.rs.length=n->Cs H P (rv dx R.st tx sx) 75 0->RO H dx xs tx sx R->mV R->vu R->
  ∃ H',(∀ cG:K.Fn 2,Bn JN GO cK cG (.int .i64 now) (.ptr P 0) aS (.int .i64 (n:Nat)) (.int .i64 (i:Nat)) H=cG (.ptr P 0) aS H')/\Cs H' P (rv dx (yj now m i R).st tx sx) 75 0/\RO H' dx xs tx sx (yj now m i R)/\Out (P::ah tx) H H'
 | 0,i,H,R,hm,hl,hC,hO,hk,hb=>by
  obtain rfl:i=n:=by omega
  refine⟨H,fun cG => ?_,hC,hO,Out.refl _ _⟩
  rw[FE]
  simp only[AM,ez,ag,af,simprocAttr]
 | m+1,i,H,R,hm,hl,hC,hO,hk,hb=>by
  have h1:i<n:=by omega
  have es:=eE h1 (by omega)
  have ht:R.rs[i]? = some (R.rs[i]'(by omega)):=aaC _
  have ba:R.ts.length=n:=by rw[<-hk.len];exact hl
  have hd:R.ts[i]? = some (R.ts[i]'(by omega)):=aaC _
  have kp:=aml (i:=i) (now:=now) hk hb
  have hA:tickAt now R i=(if R.st≠0\/now<(R.rs[i]'(by omega)).gm then R else if (R.rs[i]'(by omega)).ph=2 then mP R i (R.rs[i]'(by omega)) (R.ts[i]'(by omega)) now else if (R.rs[i]'(by omega)).ph=5 then { R with rs:=R.rs.set i { (R.rs[i]'(by omega)) with ph:=1,gm:=0 } } else R):=by
   unfold tickAt;rw[ht,hd]
  generalize R.rs[i]'(by omega)=t at *
  generalize R.ts[i]'(by omega)=d at *
  have c1:cellAt H P 1=some (.int .i64 R.st):=hC.cellAt rfl
  have c2:cellAt H P 2=some tx:=hC.cellAt rfl
  obtain⟨b,o,q1,q2,q3,q4,q5⟩:=hO.v.t.at (by decide) (rf ht)
  have r0:cellAt H b o=some (.int .i64 t.ph):=by have:=q5 0 _ (Bi t).1;rwa[afF] at this
  have r2:cellAt H b (o+2)=some (.int .i64 t.gm):=q5 2 _ (Bi t).2.2.1
  have bD:=(aaw.1 ht).1
  show ∃ H',(∀ cG:K.Fn 2,_)/\Cs H' P (rv dx (yj now m (i+1) (tickAt now R i)).st tx sx) 75 0/\RO H' dx xs tx sx (yj now m (i+1) (tickAt now R i))/\Out (P::ah tx) H H'
  have go:∀ (H1:Hp),Cs H1 P (rv dx (tickAt now R i).st tx sx) 75 0->RO H1 dx xs tx sx (tickAt now R i)->Out (P::ah tx) H H1->(∀ H':Hp,(∀ cG:K.Fn 2,Bn JN GO cK cG (.int .i64 now) (.ptr P 0) aS (.int .i64 (n:Nat)) (.int .i64 ((i+1:Nat):Int)) H1=cG (.ptr P 0) aS H')->∀ cG:K.Fn 2,Bn JN GO cK cG (.int .i64 now) (.ptr P 0) aS (.int .i64 (n:Nat)) (.int .i64 (i:Nat)) H=cG (.ptr P 0) aS H')->
    ∃ H',(∀ cG:K.Fn 2,Bn JN GO cK cG (.int .i64 now) (.ptr P 0) aS (.int .i64 (n:Nat)) (.int .i64 (i:Nat)) H=cG (.ptr P 0) aS H')/\Cs H' P (rv dx (yj now m (i+1) (tickAt now R i)).st tx sx) 75 0/\RO H' dx xs tx sx (yj now m (i+1) (tickAt now R i))/\Out (P::ah tx) H H':=by
   intro H1 a1 a2 a3 a4
   obtain⟨H',i1,i2,i3,i4⟩:=Xj (aS:=aS) hn hp m (i+1) H1 (tickAt now R i) (by omega) (kp.2.2.2.2.trans hl) a1 a2 kp.1 kp.2.1
   exact⟨H',a4 H' i1,i2,i3,a3.trans i4⟩
  clear kp
  by_cases h0:R.st=0
  ·have d0:(R.st != 0)=false:=by simp[h0]
   by_cases h2:now<t.gm
   ·have d2:decide (now<t.gm)=true:=decide_eq_true h2
    rw[if_pos (.inr h2)] at hA
    rw[hA] at go ⊢
    refine go H hC hO (Out.refl _ _) fun H' i1 cG => ?_
    rw[FE]
    simp(disch:=first|exact zqz|fail)only[AM,aU h1,c1,c2,q1,d0,r2,d2,es,i1,aj,ak,ag,af,simprocAttr]
   ·have d2:decide (now<t.gm)=false:=decide_eq_false h2
    rw[if_neg (fun q=>q.elim (fun z=>z h0) h2)] at hA
    by_cases h3:t.ph=2
    ·have d3:(t.ph==2)=true:=by simp[h3]
     rw[if_pos h3] at hA
     rw[hA] at go ⊢
     have bd:=hb.d d (aaO hd)
     have bt:=hb.t t (aaO ht)
     obtain⟨H1,f1,f2,f3,f4⟩:=Yg hC hO hp ht hd bd.1 bd.2 bt.1 bt.2 now
     refine go H1 f2 f3 f4 fun H' i1 cG => ?_
     rw[FE]
     simp(disch:=first|exact zqz|fail)only[AM,aU h1,c1,c2,q1,d0,r2,d2,r0,d3,f1,es,i1,aj,ak,ag,af,simprocAttr]
    ·have d3:(t.ph==2)=false:=by simp[h3]
     rw[if_neg h3] at hA
     by_cases h5:t.ph=5
     ·have d5:(t.ph==5)=true:=by simp[h5]
      rw[if_pos h5] at hA
      rw[hA] at go ⊢
      obtain⟨H2,w1,w2,w3,w4⟩:=hO.t.fP (k:=0) (v := .int .i64 1) (rf ht) q1 rfl (by decide)
      have e2:((fY R.rs).set i ((ee t).set 0 (.int .i64 1)))[i]? = some ((ee t).set 0 (.int .i64 1)):=ahC (by rw[AZ];exact bD)
      obtain⟨H3,v1,v2,v3,v4⟩:=w2.fP (k:=2) (v := .int .i64 0) e2 q1 rfl (by decide)
      rw[List.set_set] at v2
      have e9:((ee t).set 0 (.int .i64 1)).set 2 (.int .i64 0)=ee { t with ph:=1,gm:=0 }:=rfl
      rw[e9,Lw] at v2
      rw[afF] at w1
      have o3:=w3.trans v3
      have y8:P∉ah tx:=fun z=>hp (abo _ (abD _ z))
      refine go H3 (hC.out o3 y8) (hO.df v2 o3) (o3.mono fun j hj => .tail _ hj) fun H' i1 cG => ?_
      rw[FE]
      simp(disch:=first|exact zqz|fail)only[AM,aU h1,c1,c2,q1,d0,r2,d2,r0,d3,d5,w1,v1,es,i1,aj,ak,ag,af,simprocAttr]
     ·have d5:(t.ph==5)=false:=by simp[h5]
      rw[if_neg h5] at hA
      rw[hA] at go ⊢
      refine go H hC hO (Out.refl _ _) fun H' i1 cG => ?_
      rw[FE]
      simp(disch:=first|exact zqz|fail)only[AM,aU h1,c1,c2,q1,d0,r2,d2,r0,d3,d5,es,i1,aj,ak,ag,af,simprocAttr]
  ·have d0:(R.st != 0)=true:=by simp[h0]
   rw[if_pos (.inl h0)] at hA
   rw[hA] at go ⊢
   refine go H hC hO (Out.refl _ _) fun H' i1 cG => ?_
   rw[FE]
   simp(disch:=first|exact zqz|fail)only[AM,aU h1,c1,c2,q1,d0,es,i1,aj,ak,ag,af,simprocAttr]
theorem arW {H:Hp}{dx tx sx:AV}{xs:List AV}{R:Rn}(h:RV H dx xs tx sx R)(hk:mV R)(hb:vu R)(now:Int) :
  ∃ av a8 au ay H',cK (.func (.func 77) [] []) [.agg (rv dx R.st tx sx),.int .i64 now] H=some (.agg (rv av (xD R now).st au ay),H')/\RO H' av a8 au ay (xD R now)/\Out [] H H'/\∀ j∈nP av a8 au ay,H.next<=j:=by
 have aN:bx 75 (.agg (rv dx R.st tx sx)) H=some (H.next,al H (rv dx R.st tx sx) 75 0):=gh (by simp)
 have o1:=aG H (rv dx R.st tx sx) 75 0
 have c1:=aZ H (rv dx R.st tx sx) 75 0
 have n1:(al H (rv dx R.st tx sx) 75 0).next=H.next+1:=rfl
 generalize al H (rv dx R.st tx sx) 75 0=H1 at *
 have o2:=aG H1 zR 75 0
 have c2:=aZ H1 zR 75 0
 have n2:(al H1 zR 75 0).next=H.next+2:=by rw[cu,n1]
 rw[n1] at c2
 generalize bV:al H1 zR 75 0=H2 at *
 have bR:=o1.trans o2
 have kF:=c1.out o2 (by simp)
 have k1:aq H2 H.next 0 4=some (rv dx R.st tx sx):=kF.aq 4 0 (by simp)
 obtain⟨av,a8,au,ay,H4,r1,r2,r3,r4⟩:=Bp (h.ar bR) hk.sm
 have n4:=r3.nx
 have uE:∀ z:Int,(rv av z au ay).all bq=true:=fun z=>by simp[r2.v.d.row.one,r2.t.rl.one,r2.s.kC,jN]
 obtain⟨H5,s1,s2,s3,s4⟩:=gO (n:=4) (vs:=rv av R.st au ay) (kF.out r3 (by simp)) rfl rfl (uE _)
 have fr:∀ m,m<H.next+2->∀ j∈nP av a8 au ay,j∉[m]:=fun m hm j hj=>by rw[No];have:=r4 j hj;omega
 have R5:=r2.out s3 (fr _ (by omega))
 have xI:∀ m,m<H.next+2->m∉ah au:=fun m hm z=>by have:=r4 m (abo _ (abD _ z));omega
 have hr:=hk.sm.r
 obtain⟨H7,t1,t2,t3,t4⟩:=Xj (aS := .ptr (H.next+1) 0) (P:=H.next) (now:=now) hr (fun z=>by have:=r4 _ z;omega) R.rs.length 0 H5 R (by omega) rfl s2 R5 hk hb
 rw[show (((0:Nat):Int))=0 from rfl] at t1
 have ht2:Cs H7 H.next (rv av (xD R now).st au ay) 75 0:=t2
 have LU:RO H7 av a8 au ay (xD R now):=t3
 have Ix:∀ m,m<H.next+2->m≠H.next->m∉H.next::ah au:=fun m hm aH z=>(aa7.1 z).elim aH (xI m hm)
 have Ik:=((c2.out r3 (by simp)).out s3 (by rw[No];omega)).out t4 (Ix _ (by omega) (by omega))
 have k5:cellAt H5 H.next 2=some au:=s2.cellAt rfl
 have tl:=R5.v.Yl
 have k7:aq H7 H.next 0 4=some (rv av (xD R now).st au ay):=ht2.aq 4 0 (by simp)
 obtain⟨H8,w1,w2,w3,w4⟩:=gO (n:=4) (vs:=rv av (xD R now).st au ay) Ik rfl rfl (uE _)
 have k8:aq H8 (H.next+1) 0 4=some (rv av (xD R now).st au ay):=w2.aq 4 0 (by simp)
 have sI:∀ j∈ah au,H.next<=j:=fun j hj=>by have:=r4 j (abo _ (abD _ hj));omega
 have out:=fD (fD (fD (bR.trans r3) s3 (kf (aaU _))) t4 (fun j hj=>(aa7.1 hj).elim (fun e=>by omega) (sI j))) w3 (kf (ahU _))
 refine⟨av,a8,au,ay,H8,avn ?_,LU.out w3 (fr _ (by omega)),out,fun j hj=>by have:=r4 j hj;omega⟩
 unfold OZ
 simp(disch:=first|exact zqz|fail)only[aN,n1,bV,k1,r1,s1,k5,tl,t1,k7,w1,k8,aj,ak,ag,af,simprocAttr]
def xy (R:Rn):Rn × Int:=if R.st≠0 then (sj,9) else ({ R with st:=3 },0)
theorem arb {H:Hp}{dx tx sx:AV}{xs:List AV}{R:Rn}(h:RV H dx xs tx sx R)(hk:mV R) :
  nK (.func (.func 82) [] []) [.agg (rv dx R.st tx sx)] H (xy R).1 (xy R).2:=by
 have aN:bx 75 (.agg (rv dx R.st tx sx)) H=some (H.next,al H (rv dx R.st tx sx) 75 0):=gh (by simp)
 have o1:=aG H (rv dx R.st tx sx) 75 0
 have c1:=aZ H (rv dx R.st tx sx) 75 0
 have n1:(al H (rv dx R.st tx sx) 75 0).next=H.next+1:=rfl
 generalize al H (rv dx R.st tx sx) 75 0=H1 at *
 have o2:=aG H1 zR 75 0
 have c2:=aZ H1 zR 75 0
 have n2:(al H1 zR 75 0).next=H.next+2:=by rw[cu,n1]
 rw[n1] at c2
 generalize bV:al H1 zR 75 0=H2 at *
 have bR:=o1.trans o2
 have kF:=c1.out o2 (by simp)
 have k1:cellAt H2 H.next 1=some (.int .i64 R.st):=kF.cellAt rfl
 have k4:aq H2 H.next 0 4=some (rv dx R.st tx sx):=kF.aq 4 0 (by simp)
 unfold xy
 by_cases h0:R.st=0
 ·have d0:(R.st != 0)=false:=by simp[h0]
  rw[if_neg (by simp[h0])]
  obtain⟨av,a8,au,ay,H3,r1,r2,r3,r4⟩:=Bp (h.ar bR) hk.sm
  obtain⟨H4,s1,s2,s3,s4⟩:=gO (n:=4) (vs:=rv av R.st au ay) (kF.out r3 (by simp)) rfl rfl (by simp[r2.v.d.row.one,r2.t.rl.one,r2.s.kC,jN])
  obtain⟨H5,t1,t2,t3,t4⟩:=fP s2 (by decide) (o:=1) (by simp) (v := .int .i64 3) rfl
  have e9:(rv av R.st au ay).set 1 (.int .i64 3)=rv av 3 au ay:=rfl
  rw[e9] at t2
  have k5:aq H5 H.next 0 4=some (rv av 3 au ay):=t2.aq 4 0 (by simp)
  have aH:H.next+1∉[H.next]:=by rw[No];omega
  have cQ:=((c2.out r3 (by simp)).out s3 aH).out t3 aH
  obtain⟨H6,u1,u2,u3,u4⟩:=gO (n:=4) (vs:=rv av 3 au ay) cQ rfl rfl (by simp[r2.v.d.row.one,r2.t.rl.one,r2.s.kC,jN])
  have k6:aq H6 (H.next+1) 0 4=some (rv av 3 au ay):=u2.aq 4 0 (by simp)
  have fr:∀ m,m<H.next+2->∀ j∈nP av a8 au ay,j∉[m]:=fun m hm j hj=>by rw[No];have:=r4 j hj;omega
  have R6:=((r2.out s3 (fr _ (by omega))).out t3 (fr _ (by omega))).out u3 (fr _ (by omega))
  have out:=fD (fD (fD (bR.trans r3) s3 (kf (aaU _))) t3 (kf (aaU _))) u3 (kf (ahU _))
  refine⟨av,a8,au,ay,H6,adF ?_,⟨⟨R6.v.d,R6.v.t,R6.v.s⟩,R6.t,R6.s,R6.dt,R6.ds⟩,out,fun j hj=>by have:=r4 j hj;omega⟩
  unfold SQ
  simp(disch:=first|exact zqz|fail)only[aN,n1,bV,k1,d0,k4,r1,s1,t1,k5,u1,k6,aj,ak,ag,af,simprocAttr]
 ·have d0:(R.st != 0)=true:=by simp[h0]
  rw[if_pos h0]
  have k5:aq H2 (H.next+1) 0 4=some zR:=c2.aq 4 0 (by simp)
  refine nK.err (H1:=H2) (m:=H.next+1) (adF (?_:_=some (_,H2))) bR (Out.refl _ _) (ahU _)
  have hz:st 4 (.ptr (H.next+1) 0) (.agg zR) (al H1 zR 75 0)=some H2:=by rw[<-bV];exact iI rfl rfl n1.symm (by decide) rfl
  rw[bV] at hz
  unfold SQ
  simp(disch:=first|exact zqz|fail)only[aN,n1,bV,k1,d0,hz,k5,aj,ak,ag,af,simprocAttr]
def sS (now:Int)(x:Rn × ai):Rn × ai:=(xD x.1 now,x.2)
def EV (f:Fm)(now:Int):Fm × Int:=if now<=f.ck then (f,10) else ({ f with ck:=now,ax:=f.ax.map (sS now) },0)
def uY (f:Fm)(now:Int)(i:Nat):Fm:={ f with ck:=now,ax:=(f.ax.take i).map (sS now)++f.ax.drop i }
theorem adK {f:Fm}{now:Int}{i:Nat}{x:Rn × ai}(h:f.ax[i]? = some x):(uY f now i).ax[i]? = some x:=by
 have hi:=(aaw.1 h).1
 show ((f.ax.take i).map (sS now)++f.ax.drop i)[i]? = _
 rw[ack (by rw[adY,afs];omega),adY,afs,ahj,Nat.min_eq_left (by omega),aiG,afF]
 exact h
theorem ajy {f:Fm}{now:Int}{i:Nat}{x:Rn × ai}(h:f.ax[i]? = some x):(uY f now i).ax.set i (sS now x)=(uY f now (i+1)).ax:=by
 have hi:=(aaw.1 h).1
 show ((f.ax.take i).map (sS now)++f.ax.drop i).set i (sS now x)=(f.ax.take (i+1)).map (sS now)++f.ax.drop (i+1)
 have hd:f.ax.drop i=x::f.ax.drop (i+1):=by
  rw[aik hi]
  rw[aaC hi] at h
  rw[ac8 h]
 rw[akr _ _ (by rw[adY,afs];omega),adY,afs,Nat.min_eq_left (by omega),aiG,hd,aiI,h,List.set_cons_zero,afg,afk]
 rfl
theorem FL.at {H:Hp}{p:Nat}{a:FA}{f:Fm}(h:FL H p a f){i:Nat}{x:Rn × ai}(hx:f.ax[i]? = some x) :
  ∃ r b o,a.bC[i]? = some r/\(∀ kd,ia 5 a.rx (.int kd i)=some (.ptr b o))/\b∈ah a.rx/\b<H.next/\aq H b o 4=some (rv r.dx x.1.st r.tx r.sx)/\aq H b o 5=some (bT r x)/\RV H r.dx r.xs r.tx r.sx x.1:=by
 have bD:=(aaw.1 hx).1
 have hr:a.bC[i]? = some (a.bC[i]'(by rw[h.len];exact bD)):=aaC _
 obtain⟨b,o,q1,q2,q3,q4,q5⟩:=h.r.rl.at (by decide) (L6 hr hx)
 refine⟨_,b,o,hr,q1,q2,q3,?_,q4,h.v i _ x hr hx⟩
 have e0:=q5 0 _ rfl
 have e1:=q5 1 _ rfl
 have e2:=q5 2 _ rfl
 have e3:=q5 3 _ rfl
 rw[afF] at e0
 simp only[aq,e0,e1,e2,e3,acy,acF]
 rfl
theorem afc {p:Nat}{f:Fm}{now:Int}(hr:f.ax.length<=64)(yd:∀ x∈f.ax,mV x.1/\vu x.1):∀ (r:List (Rn × ai)) (i:Nat) (H:Hp) (a:FA),i<=f.ax.length->f.ax.drop i=r->FL H p a (uY f now i)->
  ∃ a' H',(∀ db:K.Fn 0,G0 JN GO cK db (.ptr p 0) (.int .i64 now) (.int .i64 (f.ax.length:Nat)) (.int .i64 (i:Nat)) H=db H')/\FL H' p a' (uY f now f.ax.length)/\FSt H H' p a a'
 | [],i,H,a,hi,h,hF=>by
  obtain rfl:=drop_nil hi h
  refine⟨a,H,fun db => ?_,hF,FSt.same (Out.refl _ _) p a⟩
  rw[WC]
  simp only[Vn,ez,ag,af,simprocAttr]
 | x::r,i,H,a,hi,h,hF=>by
  obtain⟨g1,g2,g3⟩:=eF h
  have es:=eE g1 (by omega)
  have k3:cellAt H p 3=some a.rx:=hF.c.cellAt rfl
  obtain⟨ra,b,o,q1,q2,q3,q4,q5,q6,q7⟩:=hF.at (adK (now:=now) g2)
  obtain⟨yZ,P2⟩:=yd x (aaO g2)
  obtain⟨av,a8,au,ay,H1,t1,t2,t3,t4⟩:=arW q7 yZ P2 now
  have Ba:=hF.ar t3
  have ry:∀ j∈(RA.mk av a8 au ay).fp,j∉own p a:=fun j hj q=>by have:=t4 j hj;have:=hF.lt j q;omega
  obtain⟨H2,s1,s2,s3,s4⟩:=Ba.ach (adK (now:=now) g2) q2 (r':=⟨av,a8,au,ay⟩) t2.v ry
  have wM:cellAt H1 p 3=some a.rx:=Ba.c.cellAt rfl
  have vw:FSt H H2 p a { a with bC:=a.bC.set i ⟨av,a8,au,ay⟩ }:=⟨(t3.mono fun j hj=>by cases hj).trans (s3.mono fun j hj=>jR (k:=5) rfl hj),fun j hj => .inl hj,fun j hj=>(s4 j hj).imp (fun q=>q) fun q=>t4 j q⟩
  have Dh:FL H2 p { a with bC:=a.bC.set i ⟨av,a8,au,ay⟩ } (uY f now (i+1)):=by
   have:=ajy (now:=now) g2
   have e:{ uY f now i with ax:=(uY f now i).ax.set i (xD x.1 now,x.2) }=uY f now (i+1):=by
    show ({ ck:=now,bf:=f.bf,bK:=f.bK,ax:=_,ks:=f.ks }:Fm)=_
    rw[show (xD x.1 now,x.2)=sS now x from rfl,this];rfl
   rw[e] at s2
   exact s2
  obtain⟨a',H',i1,i2,i3⟩:=afc hr yd r (i+1) H2 _ g1 g3 Dh
  refine⟨a',H',fun db => ?_,i2,vw.trans i3⟩
  rw[WC]
  simp(disch:=first|exact zqz|fail)only[Vn,aU g1,k3,q2,q5,t1,s1,wM,ft (oe hF.r.1.rw),es,i1,aj,ak,ag,af,simprocAttr]
theorem akF {H:Hp}{p:Nat}{a:FA}{f:Fm}(h:FL H p a f)(hr:f.ax.length<=64)(yd:∀ x∈f.ax,mV x.1/\vu x.1)(now:Int) :
  ∃ a' H',cK (.func (.func 42) [] []) [.ptr p 0,.int .i64 now] H=some (.int .i64 (EV f now).2,H')/\FL H' p a' (EV f now).1/\FSt H H' p a a':=by
 have k0:cellAt H p 0=some (.int .i64 f.ck):=h.c.cellAt rfl
 unfold EV
 by_cases hn:now<=f.ck
 ·have d:decide (now<=f.ck)=true:=decide_eq_true hn
  rw[if_pos hn]
  refine⟨a,H,X7 ?_,h,FSt.same (Out.refl _ _) p a⟩
  unfold PZ
  simp(disch:=first|exact zqz|fail)only[k0,d,aj,ak,ag,af,simprocAttr]
 ·have d:decide (now<=f.ck)=false:=decide_eq_false hn
  rw[if_neg hn]
  obtain⟨H1,s1,s2,s3⟩:=h.clock now
  have s2':FL H1 p a (uY f now 0):=s2
  have k3:cellAt H1 p 3=some a.rx:=s2.c.cellAt rfl
  have fA:=s2.KI
  obtain⟨a',H',i1,i2,i3⟩:=afc hr yd f.ax 0 H1 a (ace _) abK s2'
  rw[show (((0:Nat):Int))=0 from rfl] at i1
  have e:uY f now f.ax.length={ f with ck:=now,ax:=f.ax.map (sS now) }:=by
   unfold uY
   rw[List.take_length,List.drop_length,af9]
  rw[e] at i2
  refine⟨a',H',X7 ?_,i2,s3.trans i3⟩
  unfold PZ
  simp(disch:=first|exact zqz|fail)only[k0,d,s1,k3,fA,i1,aj,ak,ag,af,simprocAttr]
noncomputable def nI (R:Rn)(e:Ev)(ck:Int):Rn × Int:=
 if e.kd=3 then pS R e.tk e.ty ck else if e.kd=4 then rC R e.tk e.ty e.dt else if e.kd=5 then yn R e.tk e.ty ck else if e.kd=7 then sZ R e.nm else xy R
noncomputable def changeM (f:Fm)(e:Ev):Fm × Int:=match f.ax[(e.rn-1).toNat]? with
 | none=>(f,0)
 | some x=>if (nI x.1 e f.ck).2=0 then ({ f with ax:=f.ax.set (e.rn-1).toNat ((nI x.1 e f.ck).1,x.2) },0) else (f,(nI x.1 e f.ck).2)
theorem aj4 {H:Hp}{p:Nat}{a:FA}{f:Fm}(h:FL H p a f)(hr:f.ax.length<=64)(yd:∀ x∈f.ax,mV x.1/\vu x.1/\x.1.sg.length<=900)(e:Ev)(h1:1<=e.rn)(h2:e.rn<=f.ax.length) :
  ∃ a' H',cK (.func (.func 43) [] []) [.ptr p 0,.agg (aV e)] H=some (.int .i64 (changeM f e).2,H')/\FL H' p a' (changeM f e).1/\FSt H H' p a a':=by
 obtain⟨i,hi⟩:∃ i:Nat,e.rn=(i:Int)+1:=⟨(e.rn-1).toNat,by omega⟩
 have bD:i<f.ax.length:=by omega
 have hx:f.ax[i]? = some (f.ax[i]'bD):=aaC _
 generalize f.ax[i]'bD=x at hx
 obtain⟨yZ,P2,ok3⟩:=yd x (aaO hx)
 have nZ:(e.rn-1).toNat=i:=by omega
 have hw:IntKind.wrap .i64 (e.rn-1)=((i:Nat):Int):=by rw[hi,wrap_i64 (by omega) (by omega)];omega
 have aN:bx 26 (.agg (aV e)) H=some (H.next,al H (aV e) 26 0):=gh (by rw[qa];omega)
 have o1:=aG H (aV e) 26 0
 have c1:=aZ H (aV e) 26 0
 have n1:(al H (aV e) 26 0).next=H.next+1:=rfl
 generalize al H (aV e) 26 0=H1 at *
 have F1:=h.ar o1
 have k3:cellAt H1 p 3=some a.rx:=F1.c.cellAt rfl
 have E1:cellAt H1 H.next 1=some (.int .i64 e.rn):=c1.cellAt rfl
 have dJ:aC H1 zR 75 0=some (H.next+1,al H1 zR 75 0):=by rw[<-n1];exact gJ (by simp)
 have o2:=aG H1 zR 75 0
 have c2:=aZ H1 zR 75 0
 have n2:(al H1 zR 75 0).next=H.next+2:=by rw[cu,n1]
 rw[n1] at c2
 generalize bV:al H1 zR 75 0=H2 at *
 have F2:=F1.ar o2
 have bR:=o1.trans o2
 have cE:=c1.out o2 (by simp)
 have E0:cellAt H2 H.next 0=some (.int .i64 e.kd):=cE.cellAt rfl
 have E2:cellAt H2 H.next 2=some (.int .i64 e.tk):=cE.cellAt rfl
 have E3:cellAt H2 H.next 3=some (.int .i64 e.ty):=cE.cellAt rfl
 have E5:cellAt H2 H.next 5=some (.str e.nm):=cE.cellAt rfl
 have E7:cellAt H2 H.next 7=some (.str e.dt):=cE.cellAt rfl
 have k0:cellAt H2 p 0=some (.int .i64 f.ck):=F2.c.cellAt rfl
 obtain⟨ra,b,o,q1,q2,q3,q4,q5,q6,q7⟩:=F2.at hx
 unfold changeM
 rw[nZ,hx]
 simp only
 have fin:∀ (fv:AV) (args:List AV) (R':Rn) (err:Int),nK fv args H2 R' err->∃ (av:AV) (a8:List AV) (au ay:AV) (H3 H4:Hp) (a':FA) (H5:Hp),cK fv args H2=some (.tuple [.agg (rv av R'.st au ay),.int .i64 err],H3)/\st 4 (.ptr (H.next+1) 0) (.agg (rv av R'.st au ay)) H3=some H4/\
   (err=0->aq H4 (H.next+1) 0 4=some (rv av R'.st au ay)/\st 4 (.ptr b o) (.agg (rv av R'.st au ay)) H4=some H5/\FL H5 p a' { f with ax:=f.ax.set i (R',x.2) }/\FSt H H5 p a a')/\(err≠0->H5=H4/\a'=a/\FL H4 p a f/\FSt H H4 p a a):=by
  rintro fv args R' err ⟨av,a8,au,ay,H3,r1,r2,r3,r4⟩
  obtain⟨H4,s1,s2,s3,s4⟩:=gO (n:=4) (vs:=rv av R'.st au ay) (c2.out r3 (by simp)) rfl rfl (by simp[r2.v.d.row.one,r2.t.rl.one,r2.s.kC,jN])
  have o4:Out [] H H4:=fD (bR.trans r3) s3 (kf (ahU _))
  have F4:=h.ar o4
  by_cases he:err=0
  ·have Ir:RV H4 av a8 au ay R':=r2.v.out s3 fun j hj=>by rw[No];have:=r4 j hj;omega
   have ry:∀ j∈(RA.mk av a8 au ay).fp,j∉own p a:=fun j hj q=>by have:=r4 j hj;have:=h.lt j q;omega
   obtain⟨H5,t1,t2,t3,t4⟩:=F4.ach hx q2 (r':=⟨av,a8,au,ay⟩) Ir ry
   exact⟨av,a8,au,ay,H3,H4,_,H5,r1,s1,fun _=>⟨s2.aq 4 0 (by simp),t1,t2,(o4.mono fun j hj=>by cases hj).trans (t3.mono fun j hj=>jR (k:=5) rfl hj),fun j hj => .inl hj,fun j hj=>(t4 j hj).imp (fun q=>q) fun q=>by have:=r4 j q;omega⟩,fun q=>absurd he q⟩
  ·exact⟨av,a8,au,ay,H3,H4,a,H4,r1,s1,fun q=>absurd q he,fun _=>⟨rfl,rfl,F4,FSt.same o4 p a⟩⟩
 have done:∀ (R':Rn) (err:Int),nI x.1 e f.ck=(R',err)->(∃ (av:AV) (a8:List AV) (au ay:AV) (H3 H4:Hp) (a':FA) (H5:Hp),cK (.func (.func 43) [] []) [.ptr p 0,.agg (aV e)] H=some (.int .i64 err,H5)/\
   (err=0->aq H4 (H.next+1) 0 4=some (rv av R'.st au ay)/\st 4 (.ptr b o) (.agg (rv av R'.st au ay)) H4=some H5/\FL H5 p a' { f with ax:=f.ax.set i (R',x.2) }/\FSt H H5 p a a')/\(err≠0->H5=H4/\a'=a/\FL H4 p a f/\FSt H H4 p a a)/\H3=H3)->
   ∃ a' H',cK (.func (.func 43) [] []) [.ptr p 0,.agg (aV e)] H=some (.int .i64 (if (nI x.1 e f.ck).2=0 then ({ f with ax:=f.ax.set i ((nI x.1 e f.ck).1,x.2) },0) else (f,(nI x.1 e f.ck).2):Fm × Int).2,H')/\FL H' p a' (if (nI x.1 e f.ck).2=0 then ({ f with ax:=f.ax.set i ((nI x.1 e f.ck).1,x.2) },0) else (f,(nI x.1 e f.ck).2):Fm × Int).1/\FSt H H' p a a':=by
  rintro R' err ho ⟨av,a8,au,ay,H3,H4,a',H5,w1,w2,w3,_⟩
  rw[ho]
  by_cases he:err=0
  ·obtain⟨_,_,z3,z4⟩:=w2 he
   rw[if_pos he]
   subst he
   exact⟨a',H5,w1,z3,z4⟩
  ·obtain⟨rfl,rfl,z3,z4⟩:=w3 he
   rw[if_neg he]
   exact⟨a',H5,w1,z3,z4⟩
 by_cases b3:e.kd=3
 ·obtain⟨av,a8,au,ay,H3,H4,a',H5,w1,w2,w3,w4⟩:=fin _ _ _ _ (aiH q7 yZ e.tk e.ty f.ck)
  refine done _ _ (by unfold nI;rw[if_pos b3]) ⟨av,a8,au,ay,H3,H4,a',H5,JX ?_,w3,w4,rfl⟩
  have d3:(e.kd==3)=true:=by simp[b3]
  unfold CA
  by_cases he:(pS x.1 e.tk e.ty f.ck).2=0
  ·obtain⟨z1,z2,_⟩:=w3 he
   simp(disch:=first|exact zqz|fail)only[aN,k3,E1,hw,q2,n1,bV,E0,E2,E3,k0,q5,w1,w2,d3,he,z1,z2,aj,ak,ag,af,simprocAttr]
  ·obtain⟨rfl,_⟩:=w4 he
   have dn:((pS x.1 e.tk e.ty f.ck).2==0)=false:=by simp[he]
   simp(disch:=first|exact zqz|fail)only[aN,k3,E1,hw,q2,n1,bV,E0,E2,E3,k0,q5,w1,w2,d3,dn,aj,ak,ag,af,simprocAttr]
 have d3:(e.kd==3)=false:=by simp[b3]
 by_cases b4:e.kd=4
 ·obtain⟨av,a8,au,ay,H3,H4,a',H5,w1,w2,w3,w4⟩:=fin _ _ _ _ (anB q7 yZ e.tk e.ty e.dt)
  refine done _ _ (by unfold nI;rw[if_neg b3,if_pos b4]) ⟨av,a8,au,ay,H3,H4,a',H5,JX ?_,w3,w4,rfl⟩
  have d4:(e.kd==4)=true:=by simp[b4]
  unfold CA
  by_cases he:(rC x.1 e.tk e.ty e.dt).2=0
  ·obtain⟨z1,z2,_⟩:=w3 he
   simp(disch:=first|exact zqz|fail)only[aN,k3,E1,hw,q2,n1,bV,E0,E2,E3,E7,q5,w1,w2,d3,d4,he,z1,z2,aj,ak,ag,af,simprocAttr]
  ·obtain⟨rfl,_⟩:=w4 he
   have dn:((rC x.1 e.tk e.ty e.dt).2==0)=false:=by simp[he]
   simp(disch:=first|exact zqz|fail)only[aN,k3,E1,hw,q2,n1,bV,E0,E2,E3,E7,q5,w1,w2,d3,d4,dn,aj,ak,ag,af,simprocAttr]
 have d4:(e.kd==4)=false:=by simp[b4]
 by_cases b5:e.kd=5
 ·obtain⟨av,a8,au,ay,H3,H4,a',H5,w1,w2,w3,w4⟩:=fin _ _ _ _ (aq0 q7 yZ P2 e.tk e.ty f.ck)
  refine done _ _ (by unfold nI;rw[if_neg b3,if_neg b4,if_pos b5]) ⟨av,a8,au,ay,H3,H4,a',H5,JX ?_,w3,w4,rfl⟩
  have d5:(e.kd==5)=true:=by simp[b5]
  unfold CA
  by_cases he:(yn x.1 e.tk e.ty f.ck).2=0
  ·obtain⟨z1,z2,_⟩:=w3 he
   simp(disch:=first|exact zqz|fail)only[aN,k3,E1,hw,q2,n1,bV,E0,E2,E3,k0,q5,w1,w2,d3,d4,d5,he,z1,z2,aj,ak,ag,af,simprocAttr]
  ·obtain⟨rfl,_⟩:=w4 he
   have dn:((yn x.1 e.tk e.ty f.ck).2==0)=false:=by simp[he]
   simp(disch:=first|exact zqz|fail)only[aN,k3,E1,hw,q2,n1,bV,E0,E2,E3,k0,q5,w1,w2,d3,d4,d5,dn,aj,ak,ag,af,simprocAttr]
 have d5:(e.kd==5)=false:=by simp[b5]
 by_cases b7:e.kd=7
 ·obtain⟨av,a8,au,ay,H3,H4,a',H5,w1,w2,w3,w4⟩:=fin _ _ _ _ (atr q7 yZ ok3 e.nm)
  refine done _ _ (by unfold nI;rw[if_neg b3,if_neg b4,if_neg b5,if_pos b7]) ⟨av,a8,au,ay,H3,H4,a',H5,JX ?_,w3,w4,rfl⟩
  have d7:(e.kd==7)=true:=by simp[b7]
  unfold CA
  by_cases he:(sZ x.1 e.nm).2=0
  ·obtain⟨z1,z2,_⟩:=w3 he
   simp(disch:=first|exact zqz|fail)only[aN,k3,E1,hw,q2,n1,bV,E0,E5,q5,w1,w2,d3,d4,d5,d7,he,z1,z2,aj,ak,ag,af,simprocAttr]
  ·obtain⟨rfl,_⟩:=w4 he
   have dn:((sZ x.1 e.nm).2==0)=false:=by simp[he]
   simp(disch:=first|exact zqz|fail)only[aN,k3,E1,hw,q2,n1,bV,E0,E5,q5,w1,w2,d3,d4,d5,d7,dn,aj,ak,ag,af,simprocAttr]
 have d7:(e.kd==7)=false:=by simp[b7]
 obtain⟨av,a8,au,ay,H3,H4,a',H5,w1,w2,w3,w4⟩:=fin _ _ _ _ (arb q7 yZ)
 refine done _ _ (by unfold nI;rw[if_neg b3,if_neg b4,if_neg b5,if_neg b7]) ⟨av,a8,au,ay,H3,H4,a',H5,JX ?_,w3,w4,rfl⟩
 unfold CA
 by_cases he:(xy x.1).2=0
 ·obtain⟨z1,z2,_⟩:=w3 he
  simp(disch:=first|exact zqz|fail)only[aN,k3,E1,hw,q2,n1,bV,E0,q5,w1,w2,d3,d4,d5,d7,he,z1,z2,aj,ak,ag,af,simprocAttr]
 ·obtain⟨rfl,_⟩:=w4 he
  have dn:((xy x.1).2==0)=false:=by simp[he]
  simp(disch:=first|exact zqz|fail)only[aN,k3,E1,hw,q2,n1,bV,E0,q5,w1,w2,d3,d4,d5,d7,dn,aj,ak,ag,af,simprocAttr]
structure Fok (f:Fm):Prop where
 run:∀ x∈f.ax,mV x.1/\vu x.1/\x.1.sg.length<=900
 nr:f.ax.length<=64
 nn:f.bf.length<=16
 nk:f.ks.length<128
noncomputable def tw (f:Fm)(e:Ev):Fm × Int:=
 if yH e=true then (if e.kd=1 then nM f e.nm e.dt else if e.kd=2 then startM f e else if e.kd=6 then EV f e.n else if e.kd=9 then (f,0) else if (f.ax.length:Int)<e.rn then (f,4) else changeM f e) else (f,1)
theorem agh {e:Ev}(h:yH e=true)(h1:e.kd≠1)(h6:e.kd≠6)(h9:e.kd≠9):1<=e.rn/\e.rn<=64:=by
 unfold yH at h
 rw[aaT,aaT] at h
 obtain⟨g1,_,g2⟩:=h
 have hm:(82:Nat)∈fieldsM e.kd:=by
  unfold fieldsM at g1 ⊢
  rw[if_neg h1] at g1 ⊢
  by_cases h2:e.kd=2
  ·rw[if_pos h2];simp
  rw[if_neg h2] at g1 ⊢
  by_cases h3:e.kd=3\/e.kd=5
  ·rw[if_pos h3];simp
  rw[if_neg h3] at g1 ⊢
  by_cases h4:e.kd=4
  ·rw[if_pos h4];simp
  rw[if_neg h4,if_neg (by omega)] at g1 ⊢
  by_cases h7:e.kd=7
  ·rw[if_pos h7];simp
  rw[if_neg h7] at g1 ⊢
  by_cases h8:e.kd=8
  ·rw[if_pos h8];simp
  rw[if_neg h8] at g1
  simp at g1
 have:=aeO.1 g2 82 hm
 unfold uv nc at this
 simp at this
 exact this
theorem Qj {H:Hp}{p:Nat}{a:FA}{f:Fm}(h:FL H p a f)(hg:Gl H)(hk:Fok f)(e:Ev) :
  ∃ a' H',cK (.func (.func 16) [] []) [.ptr p 0,.agg (aV e)] H=some (.int .i64 (tw f e).2,H')/\FL H' p a' (tw f e).1/\FSt H H' p a a':=by
 have aN:bx 26 (.agg (aV e)) H=some (H.next,al H (aV e) 26 0):=gh (by rw[qa];omega)
 have o1:=aG H (aV e) 26 0
 have c1:=aZ H (aV e) 26 0
 generalize al H (aV e) 26 0=H1 at *
 have k8:aq H1 H.next 0 8=some (aV e):=c1.aq 8 0 (by rw[qa];omega)
 obtain⟨H2,g1,g2⟩:=af1 e H1
 have o2:=o1.trans g2
 have c2:=c1.out g2 (by simp)
 have F2:=h.ar o2
 have kJ:=hg.ar o2
 have E0:cellAt H2 H.next 0=some (.int .i64 e.kd):=c2.cellAt rfl
 have E1:cellAt H2 H.next 1=some (.int .i64 e.rn):=c2.cellAt rfl
 have E4:cellAt H2 H.next 4=some (.int .i64 e.n):=c2.cellAt rfl
 have E5:cellAt H2 H.next 5=some (.str e.nm):=c2.cellAt rfl
 have E7:cellAt H2 H.next 7=some (.str e.dt):=c2.cellAt rfl
 have A6:aq H2 H.next 0 8=some (aV e):=c2.aq 8 0 (by rw[qa];omega)
 unfold tw
 cases sI:yH e with
 | false=>
  rw[sI] at g1
  rw[if_neg (by simp)]
  refine⟨a,H2,CJ ?_,F2,FSt.same o2 p a⟩
  unfold yX
  simp(disch:=first|exact zqz|fail)only[aN,k8,g1,aj,ak,ag,af,simprocAttr]
 | true=>
  rw[sI] at g1
  rw[if_pos rfl]
  by_cases b1:e.kd=1
  ·obtain⟨a',H3,d1,d2,d3⟩:=afq F2 kJ hk.nn e.nm e.dt
   rw[if_pos b1]
   refine⟨a',H3,CJ ?_,d2,FSt.end o2 d3⟩
   have q1:(e.kd==1)=true:=by simp[b1]
   unfold yX
   simp(disch:=first|exact zqz|fail)only[aN,k8,g1,E0,E5,E7,q1,d1,aj,ak,ag,af,simprocAttr]
  have q1:(e.kd==1)=false:=by simp[b1]
  rw[if_neg b1]
  by_cases b2:e.kd=2
  ·obtain⟨a',H3,d1,d2,d3⟩:=an0 F2 kJ hk.nk hk.nr e
   rw[if_pos b2]
   refine⟨a',H3,CJ ?_,d2,FSt.end o2 d3⟩
   have q2:(e.kd==2)=true:=by simp[b2]
   unfold yX
   simp(disch:=first|exact zqz|fail)only[aN,k8,g1,E0,A6,q1,q2,d1,aj,ak,ag,af,simprocAttr]
  have q2:(e.kd==2)=false:=by simp[b2]
  rw[if_neg b2]
  by_cases b6:e.kd=6
  ·obtain⟨a',H3,d1,d2,d3⟩:=akF F2 hk.nr (fun x hx=>⟨(hk.run x hx).1,(hk.run x hx).2.1⟩) e.n
   rw[if_pos b6]
   refine⟨a',H3,CJ ?_,d2,FSt.end o2 d3⟩
   have q6:(e.kd==6)=true:=by simp[b6]
   unfold yX
   simp(disch:=first|exact zqz|fail)only[aN,k8,g1,E0,E4,q1,q2,q6,d1,aj,ak,ag,af,simprocAttr]
  have q6:(e.kd==6)=false:=by simp[b6]
  rw[if_neg b6]
  by_cases b9:e.kd=9
  ·rw[if_pos b9]
   refine⟨a,H2,CJ ?_,F2,FSt.same o2 p a⟩
   have q9:(e.kd==9)=true:=by simp[b9]
   unfold yX
   simp(disch:=first|exact zqz|fail)only[aN,k8,g1,E0,q1,q2,q6,q9,aj,ak,ag,af,simprocAttr]
  have q9:(e.kd==9)=false:=by simp[b9]
  rw[if_neg b9]
  have k3:cellAt H2 p 3=some a.rx:=F2.c.cellAt rfl
  have fA:=F2.KI
  by_cases ba:(f.ax.length:Int)<e.rn
  ·have d:decide (((f.ax.length:Nat):Int)<e.rn)=true:=decide_eq_true ba
   rw[if_pos ba]
   refine⟨a,H2,CJ ?_,F2,FSt.same o2 p a⟩
   unfold yX
   simp(disch:=first|exact zqz|fail)only[aN,k8,g1,E0,E1,q1,q2,q6,q9,k3,fA,d,aj,ak,ag,af,simprocAttr]
  ·have d:decide (((f.ax.length:Nat):Int)<e.rn)=false:=decide_eq_false ba
   rw[if_neg ba]
   obtain⟨a',H3,d1,d2,d3⟩:=aj4 F2 hk.nr hk.run e (agh sI b1 b6 b9).1 (by omega)
   refine⟨a',H3,CJ ?_,d2,FSt.end o2 d3⟩
   unfold yX
   simp(disch:=first|exact zqz|fail)only[aN,k8,g1,E0,E1,q1,q2,q6,q9,k3,fA,d,A6,d1,aj,ak,ag,af,simprocAttr]
theorem anOK:xA P an:=Z8 fun p hp => .inl (aeO.1 (show anL.all (fun p=>p.2.plain)=true by kernel_rfl) p hp)
theorem afr {α:Type}(Q:Nat->α->Prop):∀ n,(∀ j,j<n->∃ a,Q j a)->∃ l:List α,l.length=n/\∀ (j:Nat) (a:α),l[j]? = some a->Q j a
 | 0,_=>⟨[],rfl,fun j a h=>by simp at h⟩
 | n+1,h=>by
  obtain⟨l,hl,hq⟩:=afr Q n fun j hj=>h j (by omega)
  obtain⟨a,ha⟩:=h n (by omega)
  refine⟨l++[a],by simp[hl],fun j b hb => ?_⟩
  by_cases hj:j<l.length
  ·rw[abX hj] at hb;exact hq j b hb
  ·rw[ack (by omega)] at hb
   have:j-l.length=0:=by
    have:=(aaw.1 hb).1
    simp at this;omega
   rw[this] at hb
   cases hb
   rw[show j=n by omega];exact ha
theorem Iw {H:Hp}{k:IntKind}{l:List AV}{d:D}(h:Is H (.int k) l d):∃ z,l=[.int k z]/\k.min<=z/\z<=k.max:=by
 cases h with
 | int k z h=>exact⟨z,rfl,h⟩
def OA (s:ai):Prop:=(∀ c∈s,c<256)/\s.length<=Go.reachBytes
theorem QR {H:Hp}{l:List AV}{d:D}(h:Is H .str l d):∃ s,l=[.str s]/\OA s:=by
 cases h with
 | str s h hl=>exact⟨s,rfl,h,hl⟩
theorem YI {es:Nat}:∀ {cs:List AV} {L:List (List AV)},cs.length=L.length*es->(∀ (i:Nat) (c:List AV),L[i]? = some c->(cs.drop (i*es)).take es=c/\c.length=es)->cs=L.flatten
 | cs,[],h,_=>by
  simp at h;simp[h]
 | cs,a::L,h,hq=>by
  obtain⟨h1,h2⟩:=hq 0 a rfl
  rw[aiA,abK] at h1
  simp only[aa1,ahJ,ajO] at h
  have ih:=YI (es:=es) (cs:=cs.drop es) (L:=L) (by rw[ahT];omega) fun i c hc=>by
   obtain⟨g1,g2⟩:=hq (i+1) c hc
   refine⟨?_,g2⟩
   rw[List.drop_drop,show es+i*es=(i+1)*es by rw[ahJ,ajO];omega]
   exact g1
  rw[akC,<-ih,<-h1,ai3]
theorem ahu {α:Type}{H:Hp}{es:Nat}{ty:Ty}{x:AV}{d:D}(C:α->List AV)(hC:∀ a,(C a).length=es)(Q:α->Prop)(h1:∀ (l:List AV) (d:D),l.length=es->Is H ty l d->∃ a,l=C a/\Q a)(dK:0<es)(h:Is H (.slice es ty) [x] d) :
  ∃ l:List α,RL H es x (l.map C)/\∀ a∈l,Q a:=by
 cases h with
 | @slice _ _ _ cs ds hr hl hd=>
  obtain⟨l,g1,g2⟩:=afr (fun j (a:α)=>(cs.drop (j*es)).take es=C a/\Q a) ds.length (fun j hj=>by
   have hs:=hd j _ (aaC hj)
   have hle:(j+1)*es<=ds.length*es:=agV _ hj
   rw[ahJ,ajO] at hle
   exact h1 _ _ (by rw[afs,ahT];omega) hs)
  refine⟨l,⟨?_,fun c hc => ?_⟩,fun a ha => ?_⟩
  ·have:cs=(l.map C).flatten:=YI (by rw[adY,g1];exact hl) fun i c hc=>by
    rw[aeI,aam] at hc
    obtain⟨a,ha,rfl⟩:=hc
    exact⟨(g2 i a ha).1,hC a⟩
   rw[<-this];exact hr
  ·obtain⟨a,_,rfl⟩:=adD.1 hc
   exact hC a
  ·obtain⟨j,hj⟩:=adR ha
   exact (g2 j a hj).2
abbrev MR:Ty := .struct 8 [(0,1,.int .i64),(1,1,.int .i64),(2,1,.int .i64),(3,1,.int .i64),(4,1,.int .i64),(5,1,.str),(6,1,.str),(7,1,.str)]
theorem eight {l:List AV}(h:l.length=8){a b c d e f g i:AV}(h0:(l.drop 0).take 1=[a])(h1:(l.drop 1).take 1=[b])(h2:(l.drop 2).take 1=[c])(h3:(l.drop 3).take 1=[d])(h4:(l.drop 4).take 1=[e])(h5:(l.drop 5).take 1=[f])(h6:(l.drop 6).take 1=[g])(h7:(l.drop 7).take 1=[i]):l=[a,b,c,d,e,f,g,i]:=by
 match l,h with
 | [x0,x1,x2,x3,x4,x5,x6,x7],_=>
  simp at h0 h1 h2 h3 h4 h5 h6 h7
  simp[h0,h1,h2,h3,h4,h5,h6,h7]
structure TQ (e:Ev):Prop where
 nm:OA e.nm
 ky:OA e.ky
 dt:OA e.dt
 n : -9223372036854775808<=e.n/\e.n<=9223372036854775807
theorem amM {H:Hp}{l:List AV}{d:D}(hl:l.length=8)(h:Is H MR l d):∃ e:Ev,l=aV e/\TQ e:=by
 cases h with
 | @struct _ _ _ ds _ hn hd=>
  have at':∀ j,j<8->∃ d,ds[j]? = some d:=fun j hj=>⟨_,aaC (by rw[hn];exact hj)⟩
  obtain⟨d0,e0⟩:=at' 0 (by omega)
  obtain⟨d1,e1⟩:=at' 1 (by omega)
  obtain⟨d2,e2⟩:=at' 2 (by omega)
  obtain⟨d3,e3⟩:=at' 3 (by omega)
  obtain⟨d4,e4⟩:=at' 4 (by omega)
  obtain⟨d5,e5⟩:=at' 5 (by omega)
  obtain⟨d6,e6⟩:=at' 6 (by omega)
  obtain⟨d7,e7⟩:=at' 7 (by omega)
  obtain⟨z0,f0,_⟩:=Iw (hd 0 _ _ rfl e0)
  obtain⟨z1,f1,_⟩:=Iw (hd 1 _ _ rfl e1)
  obtain⟨z2,f2,_⟩:=Iw (hd 2 _ _ rfl e2)
  obtain⟨z3,f3,_⟩:=Iw (hd 3 _ _ rfl e3)
  obtain⟨z4,f4,g4,g5⟩:=Iw (hd 4 _ _ rfl e4)
  obtain⟨s5,f5,k5⟩:=QR (hd 5 _ _ rfl e5)
  obtain⟨s6,f6,k6⟩:=QR (hd 6 _ _ rfl e6)
  obtain⟨s7,f7,k7⟩:=QR (hd 7 _ _ rfl e7)
  exact⟨⟨z0,z1,z2,z3,z4,s5,s6,s7⟩,eight hl f0 f1 f2 f3 f4 f5 f6 f7,k5,k6,k7,g4,g5⟩
def vS (l:List Ev):List (List AV):=l.map aV
theorem adg {H:Hp}{x:AV}{d:D}(h:Is H (.slice 8 MR) [x] d):∃ l:List Ev,RL H 8 x (vS l)/\∀ e∈l,TQ e:=
 ahu aV (fun _=>rfl) TQ (fun l d hl hi=>amM hl hi) (by decide) h
theorem apX (a b c a' b' c':Int)(s s':ai)(H:Hp):dX P 50 132 (.agg [.int .i64 a,.int .i64 b,.int .i64 c,.str s]) (.agg [.int .i64 a',.int .i64 b',.int .i64 c',.str s']) H=rJ (fun z:Bool=>some z) [a==a',b==b',c==c',s==s']:=by kernel_rfl
theorem an4:Program.eqGuardType P P.depth 132=false:=by kernel_rfl
theorem rt_eq (t u:RT):((t.ph==u.ph)&&((t.tr==u.tr)&&((t.gm==u.gm)&&(t.oV==u.oV))))=decide (t=u):=by
 obtain⟨a,b,c,d⟩:=t
 obtain⟨a',b',c',d'⟩:=u
 rw[aku]
 simp
theorem amp (t u:RT)(H:Hp):gA P .neq 132 false (.agg (ee t)) (.agg (ee u))=true/\fe P .neq 132 (.agg (ee t)) (.agg (ee u)) H=some (.bool (!decide (t=u))):=by
 constructor
 ·show (!(Program.eqGuardType P P.depth 132))=true
  rw[an4];rfl
 ·show (dX P 50 132 (.agg (ee t)) (.agg (ee u)) H).map (fun b=>AV.bool !b)=_
  have h:dX P 50 132 (.agg (ee t)) (.agg (ee u)) H=_:=apX t.ph t.tr t.gm u.ph u.tr u.gm t.oV u.oV H
  rw[h,I4,<-rt_eq]
  simp
theorem drop_at {α:Type}{m:List α}{i:Nat}{b:α}(h:m[i]? = some b):m.drop i=b::m.drop (i+1):=by
 obtain⟨w1,w2⟩:=aaw.1 h
 rw[aik w1,w2]
theorem WR {x y:AV}{l m:List RT}{H:Hp}(hn:l.length<=16777216)(eO:l.length=m.length)(hx:RL H 4 x (fY l))(hy:RL H 4 y (fY m))(bY:K.Fn 0):∀ (r:List RT) (i:Nat),i<=l.length->l.drop i=r->
  GQ JN GO cK bY x y (.int .i64 (l.length:Nat)) (.int .i64 (i:Nat)) H=if r=m.drop i then bY H else some (.bool false,H)
 | [],i,hi,h=>by
  obtain rfl:=drop_nil hi h
  have:m.drop l.length=[]:=aiv (by omega)
  rw[aa4]
  simp only[ND,ez,this,if_true,ag,af,simprocAttr]
 | t::r,i,hi,h=>by
  obtain⟨h1,h2,h3⟩:=eF h
  have es:=eE h1 (by omega)
  obtain⟨u,hu⟩:∃ b,m[i]? = some b:=⟨_,aaC (by omega)⟩
  obtain⟨b,o,q1,q2,q3,q4,q5⟩:=hx.at (by decide) (rf h2)
  obtain⟨b',o',p1,p2,p3,p4,p5⟩:=hy.at (by decide) (rf hu)
  obtain⟨g1,g2⟩:=amp t u H
  have ih:=WR hn eO hx hy bY r (i+1) h1 h3
  rw[aa4,drop_at hu]
  generalize m.drop (i+1)=s at ih
  by_cases hb:t=u
  ·rw[decide_eq_true hb] at g2
   have e:(if t::r=u::s then bY H else some (.bool false,H))=if r=s then bY H else some (AV.bool false,H):=by simp[hb]
   rw[e]
   simp(disch:=first|exact zqz|fail)only[ND,aU h1,q1,q4,p1,p4,g1,og,g2,es,ih,aj,ak,ag,af,simprocAttr]
  ·rw[decide_eq_false hb] at g2
   have e:(if t::r=u::s then bY H else some (.bool false,H))=some (AV.bool false,H):=by simp[hb]
   rw[e]
   simp(disch:=first|exact zqz|fail)only[ND,aU h1,q1,q4,p1,p4,g1,og,g2,aj,ak,ag,af,simprocAttr]
theorem aja {x y:AV}{l m:List RT}{H:Hp}(hn:l.length<=16777216)(hx:RL H 4 x (fY l))(hy:RL H 4 y (fY m)):cK (.func (.func 73) [] []) [x,y] H=some (.bool (decide (l=m)),H):=by
 have lx:=hx.len (by decide)
 have ly:=hy.len (by decide)
 rw[AZ] at lx ly
 refine alw ?_
 unfold ZA
 by_cases eO:l.length=m.length
 ·have i1:=fun bY=>WR hn eO hx hy bY l 0 (ace _) abK
  rw[show (((0:Nat):Int))=0 from rfl] at i1
  have aH:(((l.length:Nat):Int) != ((m.length:Nat):Int))=false:=by simp[eO]
  simp(disch:=first|exact zqz|fail)only[lx,ly,aH,i1,abK,aj,ak,ag,af,simprocAttr]
  by_cases hb:l=m<;>simp[hb]
 ·have aH:(((l.length:Nat):Int) != ((m.length:Nat):Int))=true:=by simp;omega
  have hb:l≠m:=fun e=>eO (by rw[e])
  simp only[lx,ly,aH,hb,ag,af,simprocAttr]
theorem akB {t u:Tk}{x y:AV}{H:Hp}(dh:t.after.length<=16777216)(hx:Rw H 1 x (ints t.after))(hy:Rw H 1 y (ints u.after)) :
  ∃ H',cK (.func (.func 71) [] []) [.agg (aF t x),.agg (aF u y)] H=some (.bool (decide (t=u)),H')/\Out [] H H':=by
 have b1:=uk t x H
 have o1:=aG H (aF t x) 99 0
 have c1:=aZ H (aF t x) 99 0
 have n1:(al H (aF t x) 99 0).next=H.next+1:=rfl
 generalize al H (aF t x) 99 0=H1 at *
 have b2:=uk u y H1
 have o2:=aG H1 (aF u y) 99 0
 have c2:=aZ H1 (aF u y) 99 0
 rw[n1] at b2 c2
 have ma:=c1.out o2 (by simp)
 have bR:=o1.trans o2
 generalize al H1 (aF u y) 99 0=H2 at *
 obtain⟨e0,e1,e2,e3,e4,e5⟩:=sw t x
 obtain⟨g0,g1,g2,g3,g4,g5⟩:=sw u y
 have k0:=ma.cellAt e0
 have k1:=ma.cellAt e1
 have k2:=ma.cellAt e2
 have k3:=ma.cellAt e3
 have k4:=ma.cellAt e4
 have k5:=ma.cellAt e5
 have m0:=c2.cellAt g0
 have m1:=c2.cellAt g1
 have m2:=c2.cellAt g2
 have m3:=c2.cellAt g3
 have m4:=c2.cellAt g4
 have m5:=c2.cellAt g5
 have he:=aqJ (hx.ar bR) (hy.ar bR) (by omega)
 refine⟨H2,aij ?_,bR⟩
 unfold Ux
 have no:∀ (P:Tk->Prop),P t->¬P u->decide (t=u)=false:=fun P h1 h2=>decide_eq_false fun e=>h2 (e▸h1)
 by_cases d1:t.after=u.after
 ·rw[decide_eq_true d1] at he
  by_cases d2:t.name=u.name
  ·have f2:(t.name==u.name)=true:=by simp[d2]
   by_cases d3:t.cz=u.cz
   ·have f3:(t.cz==u.cz)=true:=by simp[d3]
    by_cases d4:t.wait=u.wait
    ·have f4:(t.wait==u.wait)=true:=by simp[d4]
     by_cases d5:t.base=u.base
     ·have f5:(t.base==u.base)=true:=by simp[d5]
      have f6:(t.on==u.on)=decide (t=u):=by
       obtain⟨a,b,c,d,e,f⟩:=t
       obtain⟨a',b',c',d',e',f'⟩:=u
       simp only at d1 d2 d3 d4 d5
       subst d1 d2 d3 d4 d5
       rw[aku];simp
      simp(disch:=first|exact zqz|fail)only[b1,b2,k0,k1,k2,k3,k4,k5,m0,m1,m2,m3,m4,m5,he,f2,f3,f4,f5,f6,aj,ak,ag,af,simprocAttr]
     ·have f5:(t.base==u.base)=false:=by simp[d5]
      rw[no (fun z=>z.base=t.base) rfl fun e=>d5 e.symm]
      simp(disch:=first|exact zqz|fail)only[b1,b2,k0,k1,k2,k3,k4,k5,m0,m1,m2,m3,m4,m5,he,f2,f3,f4,f5,aj,ak,ag,af,simprocAttr]
    ·have f4:(t.wait==u.wait)=false:=by simp[d4]
     rw[no (fun z=>z.wait=t.wait) rfl fun e=>d4 e.symm]
     simp(disch:=first|exact zqz|fail)only[b1,b2,k0,k1,k2,k3,k4,k5,m0,m1,m2,m3,m4,m5,he,f2,f3,f4,aj,ak,ag,af,simprocAttr]
   ·have f3:(t.cz==u.cz)=false:=by simp[d3]
    rw[no (fun z=>z.cz=t.cz) rfl fun e=>d3 e.symm]
    simp(disch:=first|exact zqz|fail)only[b1,b2,k0,k1,k2,k3,k4,k5,m0,m1,m2,m3,m4,m5,he,f2,f3,aj,ak,ag,af,simprocAttr]
  ·have f2:(t.name==u.name)=false:=by simp[d2]
   rw[no (fun z=>z.name=t.name) rfl fun e=>d2 e.symm]
   simp(disch:=first|exact zqz|fail)only[b1,b2,k0,k1,k2,k3,k4,k5,m0,m1,m2,m3,m4,m5,he,f2,aj,ak,ag,af,simprocAttr]
 ·rw[decide_eq_false d1] at he
  rw[no (fun z=>z.after=t.after) rfl fun e=>d1 e.symm]
  simp(disch:=first|exact zqz|fail)only[b1,b2,k0,k1,k2,k3,k4,k5,m0,m1,m2,m3,m4,m5,he,aj,ak,ag,af,simprocAttr]
theorem aaJ {ts us:List Tk}{dx dy:AV}{xs ys:List AV}(hn:ts.length<=16777216)(eO:ts.length=us.length)(dh:∀ t∈ts,t.after.length<=16777216):∀ (r:List Tk) (i:Nat) (H:Hp),i<=ts.length->ts.drop i=r->RD H dx xs ts->RD H dy ys us->
  ∃ H',(∀ aP:K.Fn 0,Jg JN GO cK aP dy (.func (.func 71) [] []) dx (.int .i64 (ts.length:Nat)) (.int .i64 (i:Nat)) H=if r=us.drop i then aP H' else some (.bool false,H'))/\Out [] H H'
 | [],i,H,hi,h,hX,hY=>by
  obtain rfl:=drop_nil hi h
  have:us.drop ts.length=[]:=aiv (by omega)
  refine⟨H,fun aP => ?_,Out.refl _ _⟩
  rw[TZ]
  simp only[Hc,ez,this,if_true,ag,af,simprocAttr]
 | t::r,i,H,hi,h,hX,hY=>by
  obtain⟨h1,h2,h3⟩:=eF h
  have es:=eE h1 (by omega)
  obtain⟨u,hu⟩:∃ b,us[i]? = some b:=⟨_,aaC (by omega)⟩
  obtain⟨x,b,o,q0,q1,q2,q3,q4,q5,q6⟩:=hX.at h2
  have s1:=yp t x q1 H
  have o1:=aG H (aF t x) 99 0
  have c1:=aZ H (aF t x) 99 0
  have n1:(al H (aF t x) 99 0).next=H.next+1:=rfl
  generalize bW:al H (aF t x) 99 0=H1 at *
  obtain⟨y,b',o',p0,p1,p2,p3,p4,p5,p6⟩:=(hY.ar o1).at hu
  have s2:=yp u y p1 H1
  have o2:=aG H1 (aF u y) 99 0
  have c2:=aZ H1 (aF u y) 99 0
  rw[n1] at s2 c2
  have bR:=o1.trans o2
  have ma:=c1.out o2 (by simp)
  generalize bV:al H1 (aF u y) 99 0=H2 at *
  have k1:aq H2 H.next 0 6=some (aF t x):=ma.aq 6 0 (by rw[vZ];omega)
  have k2:aq H2 (H.next+1) 0 6=some (aF u y):=c2.aq 6 0 (by rw[vZ];omega)
  obtain⟨H3,f1,f2⟩:=akB (dh t (aaO h2)) (q2.ar bR) (p2.ar o2)
  have o3:=bR.trans f2
  rw[drop_at hu]
  by_cases hb:t=u
  ·obtain⟨H',i1,i2⟩:=aaJ hn eO dh r (i+1) H3 h1 h3 (hX.ar o3) (hY.ar o3)
   generalize us.drop (i+1)=s at i1
   rw[decide_eq_true hb] at f1
   refine⟨H',fun aP => ?_,o3.trans i2⟩
   have e:(if t::r=u::s then aP H' else some (.bool false,H'))=if r=s then aP H' else some (AV.bool false,H'):=by simp[hb]
   rw[e,TZ]
   simp(disch:=first|exact zqz|fail)only[Hc,aU h1,q3,q5,s1,p3,p5,n1,s2,k1,k2,f1,es,i1,aj,ak,ag,af,simprocAttr]
  ·rw[decide_eq_false hb] at f1
   refine⟨H3,fun aP => ?_,o3⟩
   have e:(if t::r=u::us.drop (i+1) then aP H3 else some (.bool false,H3))=some (AV.bool false,H3):=by simp[hb]
   rw[e,TZ]
   simp(disch:=first|exact zqz|fail)only[Hc,aU h1,q3,q5,s1,p3,p5,n1,s2,k1,k2,f1,aj,ak,ag,af,simprocAttr]
theorem aip {ts us:List Tk}{dx dy:AV}{xs ys:List AV}{H:Hp}(hn:ts.length<=16777216)(dh:∀ t∈ts,t.after.length<=16777216)(hX:RD H dx xs ts)(hY:RD H dy ys us) :
  ∃ H',cK (.func (.func 75) [] []) [dx,dy,.func (.func 71) [] []] H=some (.bool (decide (ts=us)),H')/\Out [] H H':=by
 have lx:=hX.aK
 have ly:=hY.aK
 by_cases eO:ts.length=us.length
 ·obtain⟨H',i1,i2⟩:=aaJ hn eO dh ts 0 H (ace _) abK hX hY
  rw[show (((0:Nat):Int))=0 from rfl] at i1
  have aH:(((ts.length:Nat):Int) != ((us.length:Nat):Int))=false:=by simp[eO]
  refine⟨H',adJ ?_,i2⟩
  unfold OJ
  simp(disch:=first|exact zqz|fail)only[lx,ly,aH,i1,abK,aj,ak,ag,af,simprocAttr]
  by_cases hb:ts=us<;>simp[hb]
 ·have aH:(((ts.length:Nat):Int) != ((us.length:Nat):Int))=true:=by simp;omega
  have hb:ts≠us:=fun e=>eO (by rw[e])
  refine⟨H,adJ ?_,Out.refl _ _⟩
  unfold OJ
  simp only[lx,ly,aH,hb,decide_false,ag,af,simprocAttr]
def zr (R S:Rn):Bool:=(R.st==S.st)&&(decide (R.rs=S.rs)&&(decide (R.sg=S.sg)&&decide (R.ts=S.ts)))
theorem Zs {H:Hp}{dx tx sx dy ty sy:AV}{xs ys:List AV}{R S:Rn}(hr:R.rs.length<=16777216)(hg:R.sg.length<=16777216)(hn:R.ts.length<=16777216)(ha:∀ t∈R.ts,t.after.length<=16777216)(hX:RV H dx xs tx sx R)(hY:RV H dy ys ty sy S) :
  ∃ H',cK (.func (.func 36) [] []) [.agg (rv dx R.st tx sx),.agg (rv dy S.st ty sy)] H=some (.bool (zr R S),H')/\Out [] H H':=by
 have b1:bx 75 (.agg (rv dx R.st tx sx)) H=some (H.next,al H (rv dx R.st tx sx) 75 0):=gh (by simp)
 have o1:=aG H (rv dx R.st tx sx) 75 0
 have c1:=aZ H (rv dx R.st tx sx) 75 0
 have n1:(al H (rv dx R.st tx sx) 75 0).next=H.next+1:=rfl
 generalize al H (rv dx R.st tx sx) 75 0=H1 at *
 have b2:bx 75 (.agg (rv dy S.st ty sy)) H1=some (H.next+1,al H1 (rv dy S.st ty sy) 75 0):=by rw[<-n1];exact gh (by simp)
 have o2:=aG H1 (rv dy S.st ty sy) 75 0
 have c2:=aZ H1 (rv dy S.st ty sy) 75 0
 rw[n1] at c2
 have ma:=c1.out o2 (by simp)
 have bR:=o1.trans o2
 generalize bV:al H1 (rv dy S.st ty sy) 75 0=H2 at *
 have k0:cellAt H2 H.next 0=some dx:=ma.cellAt rfl
 have k1:cellAt H2 H.next 1=some (.int .i64 R.st):=ma.cellAt rfl
 have k2:cellAt H2 H.next 2=some tx:=ma.cellAt rfl
 have k3:cellAt H2 H.next 3=some sx:=ma.cellAt rfl
 have m0:cellAt H2 (H.next+1) 0=some dy:=c2.cellAt rfl
 have m1:cellAt H2 (H.next+1) 1=some (.int .i64 S.st):=c2.cellAt rfl
 have m2:cellAt H2 (H.next+1) 2=some ty:=c2.cellAt rfl
 have m3:cellAt H2 (H.next+1) 3=some sy:=c2.cellAt rfl
 have e1:=aja hr (hX.t.ar bR) (hY.t.ar bR)
 have e2:=ajl (hX.s.ar bR) (hY.s.ar bR) hg
 obtain⟨H3,e3,o3⟩:=aip hn ha (hX.d.ar bR) (hY.d.ar bR)
 unfold zr
 cases d0:(R.st==S.st) with
 | false=>
  refine⟨H2,KR ?_,bR⟩
  unfold EO
  simp(disch:=first|exact zqz|fail)only[b1,n1,bV,k0,k1,k2,k3,m0,m1,m2,m3,d0,acL,aj,ak,ag,af,simprocAttr]
 | true=>
  cases d1:decide (R.rs=S.rs) with
  | false=>
   rw[d1] at e1
   refine⟨H2,KR ?_,bR⟩
   unfold EO
   simp(disch:=first|exact zqz|fail)only[b1,n1,bV,k0,k1,k2,k3,m0,m1,m2,m3,d0,e1,acL,ac5,aj,ak,ag,af,simprocAttr]
  | true=>
   rw[d1] at e1
   cases d2:decide (R.sg=S.sg) with
   | false=>
    rw[d2] at e2
    refine⟨H2,KR ?_,bR⟩
    unfold EO
    simp(disch:=first|exact zqz|fail)only[b1,n1,bV,k0,k1,k2,k3,m0,m1,m2,m3,d0,e1,e2,acL,ac5,aj,ak,ag,af,simprocAttr]
   | true=>
    rw[d2] at e2
    refine⟨H3,KR ?_,bR.trans o3⟩
    unfold EO
    simp(disch:=first|exact zqz|fail)only[b1,n1,bV,k0,k1,k2,k3,m0,m1,m2,m3,d0,e1,e2,e3,ac5,aj,ak,ag,af,simprocAttr]
def allP {α:Type}(p:α->α->Bool):List α->List α->Bool
 | [],_=>true
 | _::_,[]=>true
 | a::l,b::m=>p a b&&allP p l m
theorem allP_refl {α:Type}{p:α->α->Bool}:∀ {l:List α},(∀ a∈l,p a a=true)->allP p l l=true
 | [],_=>rfl
 | a::l,h=>by
  show (p a a&&allP p l l)=true
  rw[h a (.head _),allP_refl fun b hb=>h b (.tail _ hb)];rfl
theorem eqfs_loop {fv x y:AV}{l m:List ai}{p:ai->ai->Bool}{H0:Hp}(hn:l.length<=16777216)(eO:l.length=m.length)(hx:Rw H0 1 x (strs l))(hy:Rw H0 1 y (strs m))
  (hp:∀ H s t,Out [] H0 H->∃ H',cK fv [.str s,.str t] H=some (.bool (p s t),H')/\Out [] H H'):∀ (r:List ai) (i:Nat) (H:Hp),i<=l.length->l.drop i=r->Out [] H0 H->
  ∃ H',(∀ aP:K.Fn 0,IL JN GO cK aP y fv x (.int .i64 (l.length:Nat)) (.int .i64 (i:Nat)) H=if allP p r (m.drop i)=true then aP H' else some (.bool false,H'))/\Out [] H0 H'
 | [],i,H,hi,h,hO=>by
  obtain rfl:=drop_nil hi h
  refine⟨H,fun aP => ?_,hO⟩
  rw[Tc]
  simp only[bl_slices_EqualFunc___string___string_string_string_,ez,allP,if_true,ag,af,simprocAttr]
 | s::r,i,H,hi,h,hO=>by
  obtain⟨h1,h2,h3⟩:=eF h
  have es:=eE h1 (by omega)
  obtain⟨t,ht⟩:∃ b,m[i]? = some b:=⟨_,aaC (by omega)⟩
  obtain⟨q,q1,q2⟩:=(hx.ar hO).gw (nE h2) .i64
  obtain⟨u,u1,u2⟩:=(hy.ar hO).gw (nE ht) .i64
  obtain⟨H1,f1,f2⟩:=hp H s t hO
  have wB:=hO.trans f2
  rw[drop_at ht]
  cases hb:p s t with
  | true=>
   obtain⟨H',i1,i2⟩:=eqfs_loop hn eO hx hy hp r (i+1) H1 h1 h3 wB
   generalize m.drop (i+1)=z at i1
   rw[hb] at f1
   refine⟨H',fun aP => ?_,i2⟩
   have e:allP p (s::r) (t::z)=allP p r z:=by show (p s t&&_)=_;rw[hb];rfl
   rw[e,Tc]
   simp(disch:=first|exact zqz|fail)only[bl_slices_EqualFunc___string___string_string_string_,aU h1,q1,q2,u1,u2,f1,es,i1,aj,ak,ag,af,simprocAttr]
  | false=>
   rw[hb] at f1
   refine⟨H1,fun aP => ?_,wB⟩
   have e:allP p (s::r) (t::m.drop (i+1))=false:=by show (p s t&&_)=_;rw[hb];rfl
   rw[e,Tc]
   simp(disch:=first|exact zqz|fail)only[bl_slices_EqualFunc___string___string_string_string_,aU h1,q1,q2,u1,u2,f1,if_neg,abH,not_false_eq_true,if_false,aj,ak,ag,af,simprocAttr]
def eqL {α:Type}(p:α->α->Bool)(l m:List α):Bool:=decide (l.length=m.length)&&allP p l m
theorem eqL_refl {α:Type}{p:α->α->Bool}{l:List α}(h:∀ a∈l,p a a=true):eqL p l l=true:=by
 unfold eqL;rw[allP_refl h,decide_eq_true rfl];rfl
theorem rw_lens {H:Hp}{x:AV}{l:List ai}(h:Rw H 1 x (strs l)):aK x=some (.int .i64 (l.length:Nat)):=by
 have:=h.jn;rwa[gB] at this
theorem eqfs_c {fv x y:AV}{l m:List ai}{p:ai->ai->Bool}{H:Hp}(hn:l.length<=16777216)(hx:Rw H 1 x (strs l))(hy:Rw H 1 y (strs m))
  (hp:∀ H1 s t,Out [] H H1->∃ H',cK fv [.str s,.str t] H1=some (.bool (p s t),H')/\Out [] H1 H') :
  ∃ H',cK (.func (.func 37) [] []) [x,y,fv] H=some (.bool (eqL p l m),H')/\Out [] H H':=by
 have lx:=rw_lens hx
 have ly:=rw_lens hy
 unfold eqL
 by_cases eO:l.length=m.length
 ·obtain⟨H',i1,i2⟩:=eqfs_loop hn eO hx hy hp l 0 H (ace _) abK (Out.refl _ _)
  rw[show (((0:Nat):Int))=0 from rfl] at i1
  have aH:(((l.length:Nat):Int) != ((m.length:Nat):Int))=false:=by simp[eO]
  refine⟨H',afS ?_,i2⟩
  unfold Vq
  rw[decide_eq_true eO,ac5]
  simp(disch:=first|exact zqz|fail)only[lx,ly,aH,i1,abK,aj,ak,ag,af,simprocAttr]
  cases hb:allP p l m<;>simp
 ·have aH:(((l.length:Nat):Int) != ((m.length:Nat):Int))=true:=by simp;omega
  refine⟨H,afS ?_,Out.refl _ _⟩
  unfold Vq
  simp only[lx,ly,aH,eO,decide_false,acL,ag,af,simprocAttr]
structure Szr (R:Rn):Prop where
 a:R.rs.length<=16777216
 b:R.sg.length<=16777216
 c:R.ts.length<=16777216
 d:∀ t∈R.ts,t.after.length<=16777216
def sameO (x y:Rn × ai):Bool:=(x.2==y.2)&&zr x.1 y.1
theorem same2_c {H:Hp}{r r':RA}{x x':Rn × ai}(hz:Szr x.1)(hX:RV H r.dx r.xs r.tx r.sx x.1)(hY:RV H r'.dx r'.xs r'.tx r'.sx x'.1) :
  ∃ H',cK (.func (.func 35) [] []) [.agg (bT r x),.agg (bT r' x')] H=some (.bool (sameO x x'),H')/\Out [] H H':=by
 have b1:bx 77 (.agg (bT r x)) H=some (H.next,al H (bT r x) 77 0):=gh (by simp[bT])
 have o1:=aG H (bT r x) 77 0
 have c1:=aZ H (bT r x) 77 0
 have n1:(al H (bT r x) 77 0).next=H.next+1:=rfl
 generalize al H (bT r x) 77 0=H1 at *
 have b2:bx 77 (.agg (bT r' x')) H1=some (H.next+1,al H1 (bT r' x') 77 0):=by rw[<-n1];exact gh (by simp[bT])
 have o2:=aG H1 (bT r' x') 77 0
 have c2:=aZ H1 (bT r' x') 77 0
 rw[n1] at c2
 have ma:=c1.out o2 (by simp)
 have bR:=o1.trans o2
 generalize bV:al H1 (bT r' x') 77 0=H2 at *
 have k4:cellAt H2 H.next 4=some (.str x.2):=ma.cellAt rfl
 have m4:cellAt H2 (H.next+1) 4=some (.str x'.2):=c2.cellAt rfl
 have k0:aq H2 H.next 0 4=some (rv r.dx x.1.st r.tx r.sx):=ma.aq 4 0 (by simp[bT])
 have m0:aq H2 (H.next+1) 0 4=some (rv r'.dx x'.1.st r'.tx r'.sx):=c2.aq 4 0 (by simp[bT])
 obtain⟨H3,e3,o3⟩:=Zs hz.a hz.b hz.c hz.d (hX.ar bR) (hY.ar bR)
 unfold sameO
 cases d0:(x.2==x'.2) with
 | false=>
  refine⟨H2,aa2 ?_,bR⟩
  unfold Ua
  simp(disch:=first|exact zqz|fail)only[b1,n1,b2,k4,m4,k0,m0,d0,acL,aj,ak,ag,af,simprocAttr]
 | true=>
  refine⟨H3,aa2 ?_,bR.trans o3⟩
  unfold Ua
  simp(disch:=first|exact zqz|fail)only[b1,n1,b2,k4,m4,k0,m0,d0,e3,ac5,aj,ak,ag,af,simprocAttr]
theorem row_len (r:RA)(x:Rn × ai):(bT r x).length=5:=rfl
theorem st_row {r:RA}{x:Rn × ai}(hv:(bT r x).all bq=true)(H:Hp):st 5 (.ptr H.next 0) (.agg (bT r x)) (al H [.ae,(.int .i64 0),.ae,.ae,(.str [])] 77 0)=some (al H (bT r x) 77 0):=iI hv rfl rfl (by decide) rfl
theorem FL.one {H:Hp}{p:Nat}{a:FA}{f:Fm}(h:FL H p a f){i:Nat}{r:RA}{x:Rn × ai}(hr:a.bC[i]? = some r)(hx:f.ax[i]? = some x):(bT r x).all bq=true:=h.r.one _ (aaO (L6 hr hx))
theorem eqfo_loop {p q:Nat}{a b:FA}{f g:Fm}{H0:Hp}(hn:f.ax.length<=16777216)(eO:f.ax.length=g.ax.length)(hF:FL H0 p a f)(hG:FL H0 q b g)(hz:∀ x∈f.ax,Szr x.1):∀ (r:List (Rn × ai)) (i:Nat) (H:Hp),i<=f.ax.length->f.ax.drop i=r->Out [] H0 H->
  ∃ H',(∀ aP:K.Fn 0,JH JN GO cK aP b.rx (.func (.func 35) [] []) a.rx (.int .i64 (f.ax.length:Nat)) (.int .i64 (i:Nat)) H=if allP sameO r (g.ax.drop i)=true then aP H' else some (.bool false,H'))/\Out [] H0 H'
 | [],i,H,hi,h,hO=>by
  obtain rfl:=drop_nil hi h
  refine⟨H,fun aP => ?_,hO⟩
  rw[QZ]
  simp only[bl_slices_EqualFunc___flow_one___flow_one_flow_one_flow_one_,ez,allP,if_true,ag,af,simprocAttr]
 | x::r,i,H,hi,h,hO=>by
  obtain⟨h1,h2,h3⟩:=eF h
  have es:=eE h1 (by omega)
  obtain⟨y,hy⟩:∃ b,g.ax[i]? = some b:=⟨_,aaC (by omega)⟩
  obtain⟨ra,m,o,q1,q2,q3,q4,q5,q6,q7⟩:=(hF.ar hO).at h2
  have s1:=st_row ((hF.ar hO).one q1 h2) H
  have o1:=aG H (bT ra x) 77 0
  have c1:=aZ H (bT ra x) 77 0
  have n1:(al H (bT ra x) 77 0).next=H.next+1:=rfl
  generalize bW:al H (bT ra x) 77 0=H1 at *
  obtain⟨rb,m',o',p1,p2,p3,p4,p5,p6,p7⟩:=(hG.ar (hO.trans o1)).at hy
  have s2:=st_row ((hG.ar (hO.trans o1)).one p1 hy) H1
  have o2:=aG H1 (bT rb y) 77 0
  have c2:=aZ H1 (bT rb y) 77 0
  rw[n1] at s2 c2
  have bR:=o1.trans o2
  have ma:=c1.out o2 (by simp)
  generalize bV:al H1 (bT rb y) 77 0=H2 at *
  have k1:aq H2 H.next 0 5=some (bT ra x):=ma.aq 5 0 (by rw[row_len];omega)
  have k2:aq H2 (H.next+1) 0 5=some (bT rb y):=c2.aq 5 0 (by rw[row_len];omega)
  obtain⟨H3,f1,f2⟩:=same2_c (hz x (aaO h2)) (q7.ar bR) (p7.ar o2)
  have o3:=bR.trans f2
  rw[drop_at hy]
  cases hb:sameO x y with
  | true=>
   obtain⟨H',i1,i2⟩:=eqfo_loop hn eO hF hG hz r (i+1) H3 h1 h3 (hO.trans o3)
   generalize g.ax.drop (i+1)=z at i1
   rw[hb] at f1
   refine⟨H',fun aP => ?_,i2⟩
   have e:allP sameO (x::r) (y::z)=allP sameO r z:=by show (sameO x y&&_)=_;rw[hb];rfl
   rw[e,QZ]
   simp(disch:=first|exact zqz|fail)only[bl_slices_EqualFunc___flow_one___flow_one_flow_one_flow_one_,aU h1,q2,q6,s1,p2,p6,n1,s2,k1,k2,f1,es,i1,aj,ak,ag,af,simprocAttr]
  | false=>
   rw[hb] at f1
   refine⟨H3,fun aP => ?_,hO.trans o3⟩
   have e:allP sameO (x::r) (y::g.ax.drop (i+1))=false:=by show (sameO x y&&_)=_;rw[hb];rfl
   rw[e,QZ]
   simp(disch:=first|exact zqz|fail)only[bl_slices_EqualFunc___flow_one___flow_one_flow_one_flow_one_,aU h1,q2,q6,s1,p2,p6,n1,s2,k1,k2,f1,abH,if_false,aj,ak,ag,af,simprocAttr]
theorem eqfo_c {p q:Nat}{a b:FA}{f g:Fm}{H:Hp}(hn:f.ax.length<=16777216)(hF:FL H p a f)(hG:FL H q b g)(hz:∀ x∈f.ax,Szr x.1) :
  ∃ H',cK (.func (.func 38) [] []) [a.rx,b.rx,.func (.func 35) [] []] H=some (.bool (eqL sameO f.ax g.ax),H')/\Out [] H H':=by
 have lx:=hF.r.rl.len (by decide)
 have ly:=hG.r.rl.len (by decide)
 rw[agM,hF.len,Nat.min_self] at lx
 rw[agM,hG.len,Nat.min_self] at ly
 unfold eqL
 by_cases eO:f.ax.length=g.ax.length
 ·obtain⟨H',i1,i2⟩:=eqfo_loop hn eO hF hG hz f.ax 0 H (ace _) abK (Out.refl _ _)
  rw[show (((0:Nat):Int))=0 from rfl] at i1
  have aH:(((f.ax.length:Nat):Int) != ((g.ax.length:Nat):Int))=false:=by simp[eO]
  refine⟨H',aal ?_,i2⟩
  unfold Nn
  rw[decide_eq_true eO,ac5]
  simp(disch:=first|exact zqz|fail)only[lx,ly,aH,i1,abK,aj,ak,ag,af,simprocAttr]
  cases hb:allP sameO f.ax g.ax<;>simp
 ·have aH:(((f.ax.length:Nat):Int) != ((g.ax.length:Nat):Int))=true:=by simp;omega
  refine⟨H,aal ?_,Out.refl _ _⟩
  unfold Nn
  simp only[lx,ly,aH,eO,decide_false,acL,ag,af,simprocAttr]
theorem eqA_ke (a b a' b':ai)(c c':Int)(H:Hp):dX P 50 82 (.agg [.str a,.str b,.int .i64 c]) (.agg [.str a',.str b',.int .i64 c']) H=rJ (fun z:Option Bool=>z) [rJ (fun z:Bool=>some z) [a==a',b==b'],some (c==c')]:=by kernel_rfl
theorem eqG_ke:Program.eqGuardType P P.depth 82=false:=by kernel_rfl
theorem ne_ke (x y:Ke)(H:Hp):gA P .neq 82 false (.agg (gj x)) (.agg (gj y))=true/\fe P .neq 82 (.agg (gj x)) (.agg (gj y)) H=some (.bool (!decide (x=y))):=by
 constructor
 ·show (!(Program.eqGuardType P P.depth 82))=true
  rw[eqG_ke];rfl
 ·show (dX P 50 82 (.agg (gj x)) (.agg (gj y)) H).map (fun b=>AV.bool !b)=_
  have h:dX P 50 82 (.agg (gj x)) (.agg (gj y)) H=_:=eqA_ke x.1.1 x.1.2 y.1.1 y.1.2 x.2 y.2 H
  rw[h]
  obtain⟨⟨a,b⟩,c⟩:=x
  obtain⟨⟨a',b'⟩,c'⟩:=y
  have e:decide ((((a,b),c):Ke)=((a',b'),c'))=((a==a')&&((b==b')&&(c==c'))):=by rw[aku];simp[and_assoc]
  rw[e]
  generalize (a==a')=x
  generalize (b==b')=y
  generalize (c==c')=z
  cases x<;>cases y<;>cases z<;>rfl
theorem kes_get {l:List Ke}{i:Nat}{x:Ke}(h:l[i]? = some x):(l.map gj)[i]? = some (gj x):=by simp[h]
theorem eqke_loop {x y:AV}{l m:List Ke}{H:Hp}(hn:l.length<=16777216)(eO:l.length=m.length)(hx:RL H 3 x (l.map gj))(hy:RL H 3 y (m.map gj))(bY:K.Fn 0):∀ (r:List Ke) (i:Nat),i<=l.length->l.drop i=r->
  Kk JN GO cK bY x y (.int .i64 (l.length:Nat)) (.int .i64 (i:Nat)) H=if r=m.drop i then bY H else some (.bool false,H)
 | [],i,hi,h=>by
  obtain rfl:=drop_nil hi h
  have:m.drop l.length=[]:=aiv (by omega)
  rw[aex]
  simp only[bl_slices_Equal___keys_Entry_keys_Entry_,ez,this,if_true,ag,af,simprocAttr]
 | t::r,i,hi,h=>by
  obtain⟨h1,h2,h3⟩:=eF h
  have es:=eE h1 (by omega)
  obtain⟨u,hu⟩:∃ b,m[i]? = some b:=⟨_,aaC (by omega)⟩
  obtain⟨b,o,q1,q2,q3,q4,q5⟩:=hx.at (by decide) (kes_get h2)
  obtain⟨b',o',p1,p2,p3,p4,p5⟩:=hy.at (by decide) (kes_get hu)
  obtain⟨g1,g2⟩:=ne_ke t u H
  have ih:=eqke_loop hn eO hx hy bY r (i+1) h1 h3
  rw[aex,drop_at hu]
  generalize m.drop (i+1)=s at ih
  by_cases hb:t=u
  ·rw[decide_eq_true hb] at g2
   have e:(if t::r=u::s then bY H else some (.bool false,H))=if r=s then bY H else some (AV.bool false,H):=by simp[hb]
   rw[e]
   simp(disch:=first|exact zqz|fail)only[bl_slices_Equal___keys_Entry_keys_Entry_,aU h1,q1,q4,p1,p4,g1,og,g2,es,ih,aj,ak,ag,af,simprocAttr]
  ·rw[decide_eq_false hb] at g2
   have e:(if t::r=u::s then bY H else some (.bool false,H))=some (AV.bool false,H):=by simp[hb]
   rw[e]
   simp(disch:=first|exact zqz|fail)only[bl_slices_Equal___keys_Entry_keys_Entry_,aU h1,q1,q4,p1,p4,g1,og,g2,aj,ak,ag,af,simprocAttr]
theorem eqke_c {x y:AV}{l m:List Ke}{H:Hp}(hn:l.length<=16777216)(hx:RL H 3 x (l.map gj))(hy:RL H 3 y (m.map gj)):cK (.func (.func 39) [] []) [x,y] H=some (.bool (decide (l=m)),H):=by
 have lx:=hx.len (by decide)
 have ly:=hy.len (by decide)
 rw[adY] at lx ly
 refine awl ?_
 unfold abh
 by_cases eO:l.length=m.length
 ·have i1:=fun bY=>eqke_loop hn eO hx hy bY l 0 (ace _) abK
  rw[show (((0:Nat):Int))=0 from rfl] at i1
  have aH:(((l.length:Nat):Int) != ((m.length:Nat):Int))=false:=by simp[eO]
  simp(disch:=first|exact zqz|fail)only[lx,ly,aH,i1,abK,aj,ak,ag,af,simprocAttr]
  by_cases hb:l=m<;>simp[hb]
 ·have aH:(((l.length:Nat):Int) != ((m.length:Nat):Int))=true:=by simp;omega
  have hb:l≠m:=fun e=>eO (by rw[e])
  simp only[lx,ly,aH,hb,decide_false,ag,af,simprocAttr]
def sameT (f g:Fm)(s t:ai):Bool:=(s==t)&&((fw f.bK s).getD []==(fw g.bK t).getD [])
def sameF (f g:Fm):Bool:=(f.ck==g.ck)&&(eqL (sameT f g) f.bf g.bf&&(eqL sameO f.ax g.ax&&decide (f.ks=g.ks)))
theorem sameT_c {H:Hp}{p q i j:Nat}{a b:FA}{f g:Fm}(hi:cellAt H i 0=some (.ptr p 0))(hj:cellAt H j 0=some (.ptr q 0))(hF:FL H p a f)(hG:FL H q b g)(s t:ai) :
  cK (.func (.func 34) [] [.ptr i 0,.ptr j 0]) [.str s,.str t] H=some (.bool (sameT f g s t),H):=by
 have k2:cellAt H p 2=some (.map a.tm):=hF.c.cellAt rfl
 have m2:cellAt H q 2=some (.map b.tm):=hG.c.cellAt rfl
 have l1:=J8 hF.t hF.vz s false
 have l2:=J8 hG.t hG.vz t false
 refine aue ?_
 unfold Z7 sameT
 cases d:(s==t) with
 | false=>simp(disch:=first|exact zqz|fail)only[d,acL,aj,ak,ag,af,simprocAttr]
 | true=>simp(disch:=first|exact zqz|fail)only[d,hi,hj,k2,m2,l1,l2,cond_false,ac5,aj,ak,ag,af,simprocAttr]
structure SzF (f:Fm):Prop where
 n:f.bf.length<=1000
 r:f.ax.length<=1000
 k:f.ks.length<=1000
 z:∀ x∈f.ax,Szr x.1
theorem fsame_c {H:Hp}{p q:Nat}{a b:FA}{f g:Fm}(hF:FL H p a f)(hG:FL H q b g)(hz:SzF f)(Be:SzF g) :
  ∃ H',cK (.func (.func 15) [] []) [.ptr p 0,.ptr q 0] H=some (.bool (sameF f g),H')/\Out [] H H':=by
 have b1:bx 27 (.ptr p 0) H=some (H.next,al H [.ptr p 0] 27 0):=ID rfl
 have o1:=aG H [.ptr p 0] 27 0
 have c1:=aZ H [.ptr p 0] 27 0
 have n1:(al H [.ptr p 0] 27 0).next=H.next+1:=rfl
 generalize al H [.ptr p 0] 27 0=H1 at *
 have b2:bx 27 (.ptr q 0) H1=some (H.next+1,al H1 [.ptr q 0] 27 0):=by rw[<-n1];exact ID rfl
 have o2:=aG H1 [.ptr q 0] 27 0
 have c2:=aZ H1 [.ptr q 0] 27 0
 rw[n1] at c2
 have ma:=c1.out o2 (by simp)
 have bR:=o1.trans o2
 generalize bV:al H1 [.ptr q 0] 27 0=H2 at *
 have Dh:=hF.ar bR
 have hG2:=hG.ar bR
 have x0:cellAt H2 H.next 0=some (.ptr p 0):=ma.cellAt rfl
 have y0:cellAt H2 (H.next+1) 0=some (.ptr q 0):=c2.cellAt rfl
 have k0:cellAt H2 p 0=some (.int .i64 f.ck):=Dh.c.cellAt rfl
 have m0:cellAt H2 q 0=some (.int .i64 g.ck):=hG2.c.cellAt rfl
 have k1:cellAt H2 p 1=some a.nx:=Dh.c.cellAt rfl
 have m1:cellAt H2 q 1=some b.nx:=hG2.c.cellAt rfl
 obtain⟨H3,e3,o3⟩:=eqfs_c (fv := .func (.func 34) [] [.ptr H.next 0,.ptr (H.next+1) 0]) (p:=sameT f g) (by have:=hz.n;omega) Dh.n.rw hG2.n.rw fun Hq s t ho=>⟨Hq,sameT_c ((ma.out ho (by simp)).cellAt rfl) ((c2.out ho (by simp)).cellAt rfl) (Dh.ar ho) (hG2.ar ho) s t,Out.refl _ _⟩
 have hF3:=Dh.ar o3
 have z7:=hG2.ar o3
 have x3:cellAt H3 H.next 0=some (.ptr p 0):=(ma.out o3 (by simp)).cellAt rfl
 have y3:cellAt H3 (H.next+1) 0=some (.ptr q 0):=(c2.out o3 (by simp)).cellAt rfl
 have k3:cellAt H3 p 3=some a.rx:=hF3.c.cellAt rfl
 have m3:cellAt H3 q 3=some b.rx:=z7.c.cellAt rfl
 obtain⟨H4,e4,o4⟩:=eqfo_c (by have:=hz.r;omega) hF3 z7 hz.z
 have AW:=o3.trans o4
 have M7:=hF3.ar o4
 have hG4:=z7.ar o4
 have x4:cellAt H4 H.next 0=some (.ptr p 0):=(ma.out AW (by simp)).cellAt rfl
 have y4:cellAt H4 (H.next+1) 0=some (.ptr q 0):=(c2.out AW (by simp)).cellAt rfl
 have k4:cellAt H4 p 4=some (.ptr a.kp 0):=M7.c.cellAt rfl
 have m4:cellAt H4 q 4=some (.ptr b.kp 0):=hG4.c.cellAt rfl
 have sp:∀ i,same (.ptr i 0) (.ptr i 0)=true:=fun i=>by simp[same,pL,aie]
 obtain⟨ox,H5,e5,l5,o5,r5⟩:=Rb hz.k M7.k
 have hG5:=hG4.ar o5
 have y5:cellAt H5 (H.next+1) 0=some (.ptr q 0):=(c2.out (AW.trans o5) (by simp)).cellAt rfl
 have m5:cellAt H5 q 4=some (.ptr b.kp 0):=hG5.c.cellAt rfl
 obtain⟨oy,H6,e6,l6,o6,r6⟩:=Rb Be.k hG5.k
 have e7:=eqke_c (by have:=hz.k;omega) (l5.rl.ar o6) l6.rl
 have oA:=bR.trans o3
 have oB:=oA.trans o4
 unfold sameF
 cases d0:(f.ck==g.ck) with
 | false=>
  refine⟨H2,KL ?_,bR⟩
  unfold DE
  simp(disch:=first|exact zqz|fail)only[b1,n1,bV,x0,y0,k0,m0,d0,acL,aj,ak,ag,af,simprocAttr]
 | true=>
  cases d1:eqL (sameT f g) f.bf g.bf with
  | false=>
   rw[d1] at e3
   refine⟨H3,KL ?_,oA⟩
   unfold DE
   simp(disch:=first|exact zqz|fail)only[b1,n1,bV,x0,y0,k0,m0,k1,m1,d0,e3,acL,ac5,aj,ak,ag,af,simprocAttr]
  | true=>
   rw[d1] at e3
   cases d2:eqL sameO f.ax g.ax with
   | false=>
    rw[d2] at e4
    refine⟨H4,KL ?_,oB⟩
    unfold DE
    simp(disch:=first|exact zqz|fail)only[b1,n1,bV,x0,y0,k0,m0,k1,m1,d0,e3,x3,y3,k3,m3,e4,acL,ac5,aj,ak,ag,af,simprocAttr]
   | true=>
    rw[d2] at e4
    refine⟨H6,KL ?_,(oB.trans o5).trans o6⟩
    unfold DE
    simp(disch:=first|exact zqz|fail)only[b1,n1,bV,x0,y0,k0,m0,k1,m1,d0,e3,x3,y3,k3,m3,e4,x4,y4,k4,m4,ft (sp q),ft (sp b.kp),e5,y5,m5,e6,e7,ac5,aj,ak,ag,af,simprocAttr]
theorem after_le {ts:List Tk}(hn:ts.length<=16)(ha:wG ts):∀ t∈ts,t.after.length<=16:=fun t ht=>by
 obtain⟨i,hi⟩:=adR ht
 obtain⟨x1,x2⟩:=Bl ha hi
 have:=Oq (n:=ts.length) (fun a h=>⟨(x1 a h).1,(x1 a h).2.1⟩) x2
 omega
def u3 (r:RT):Bool:=r.ph==3
def u3at (rs:List RT)(k:Nat):Bool:=((rs[k]?).map u3).getD false
theorem ph_u3 (rs:List RT)(a:Int):(zV rs a != 3) = !(u3at rs a.toNat):=by
 unfold zV u3at
 cases rs[a.toNat]? <;> rfl
theorem blk_congr {rs vY:List RT}(h:∀ k,u3at rs k=u3at vY k)(t:Tk):cI rs t=cI vY t:=by
 unfold cI
 refine OP fun a _ => ?_
 rw[ph_u3,ph_u3,h]
theorem blk_mono {rs vY:List RT}(h:∀ k,u3at rs k=true->u3at vY k=true){t:Tk}(hb:cI rs t=false):cI vY t=false:=by
 unfold cI at hb ⊢
 rw[ajt] at hb ⊢
 intro a ha
 have:=hb a ha
 rw[ph_u3] at this ⊢
 have h1:u3at rs a.toNat=true:=by simpa using this
 rw[h _ h1];simp
theorem settle_at {R:Rn}{i:Nat}{t:Tk}{r:RT}(ht:R.ts[i]? = some t)(hr:R.rs[i]? = some r):(iH R).rs[i]? = some (kU R.rs R.sg t r):=by
 unfold iH
 simp only
 rw[aeG,ht,hr]
theorem settle_len {R:Rn}(h:R.rs.length=R.ts.length):(iH R).rs.length=R.rs.length:=by
 unfold iH
 simp only
 rw[agM];omega
theorem settle_u3 {R:Rn}(h:R.rs.length=R.ts.length):(iH R).rs.map u3=R.rs.map u3:=by
 apply ajs
 intro k
 rw[aeI,aeI]
 by_cases hk:k<R.rs.length
 ·have e1:R.rs[k]? = some R.rs[k]:=aaC hk
  have e2:R.ts[k]? = some (R.ts[k]'(by omega)):=aaC _
  rw[settle_at e2 e1,e1]
  simp only[ae6]
  congr 1
  exact Pc _ _ _ _
 ·rw[ahX (by rw[settle_len h];omega),ahX (by omega)]
theorem u3at_map {rs vY:List RT}(h:rs.map u3=vY.map u3)(k:Nat):u3at rs k=u3at vY k:=by
 unfold u3at
 rw[<-aeI,<-aeI,h]
theorem cnt_map {rs vY:List RT}(h:rs.map u3=vY.map u3):rs.countP u3=vY.countP u3:=by
 have e:∀ l:List RT,l.countP u3=(l.map u3).countP id:=fun l=>by rw[List.countP_map];rfl
 rw[e,e,h]
theorem all_cnt {l:List RT}:(l.all fun r=>r.ph==3)=decide (l.countP u3=l.length):=by
 rw[aku,aeO,decide_eq_true_eq,List.countP_eq_length]
 exact Iff.rfl
theorem settle_st {R:Rn}:(iH R).st=if R.rs.countP u3=R.rs.length then 1 else R.st:=by
 unfold iH
 simp only
 rw[all_cnt]
 by_cases h:R.rs.countP u3=R.rs.length
 ·rw[decide_eq_true h,if_pos rfl,if_pos h]
 ·rw[decide_eq_false h,if_neg (by simp),if_neg h]
structure Inv0 (R:Rn):Prop where
 ok:mV R
 n1:1<=R.rs.length
 n2:R.rs.length<=16
 td:∀ t∈R.ts,0<=t.cz/\t.cz<=8/\1<=t.base/\t.base<=1000
 tr:∀ (i:Nat) (t:Tk) (r:RT),R.ts[i]? = some t->R.rs[i]? = some r->0<=r.tr/\r.tr<=t.cz+1/\(r.ph=0\/r.ph=1\/r.ph=5->r.tr<=t.cz)/\(r.ph≠0->cI R.rs t=false)
def stI (R:Rn):Prop:=R.st=1 ↔ ∀ r∈R.rs,r.ph=3
structure Step (R R':Rn):Prop where
 ts:R'.ts=R.ts
 len:R'.rs.length=R.rs.length
 mono:∀ (i:Nat) (r r':RT),R.rs[i]? = some r->R'.rs[i]? = some r'->r.tr<=r'.tr/\(r.ph=3->r'=r)
 sg:R'.sg.length<=R.sg.length+1
theorem Step.refl (R:Rn):Step R R:=⟨rfl,rfl,fun i r r' h h'=>by rw[h] at h';cases h';exact⟨Int.le_refl _,fun _=>rfl⟩,by omega⟩
theorem Inv0.bd {R:Rn}(h:Inv0 R):vu R:=⟨fun t ht=>by have:=h.td t ht;omega,fun r hr=>by
 obtain⟨i,hi⟩:=adR hr
 have bD:=(aaw.1 hi).1
 have ht:R.ts[i]? = some (R.ts[i]'(by rw[<-h.ok.len];exact bD)):=aaC _
 have a:=h.tr i _ r ht hi
 have b:=h.td _ (aaO ht)
 omega⟩
theorem u3_set {rs:List RT}{i:Nat}{r r1:RT}(hr:rs[i]? = some r)(h3:r.ph≠3):∀ k,u3at rs k=true->u3at (rs.set i r1) k=true:=by
 intro k hk
 by_cases e:i=k
 ·subst e
  unfold u3at at hk
  rw[hr] at hk
  have:(r.ph==3)=true:=hk
  exact absurd (by simpa using this) h3
 ·unfold u3at at hk ⊢
  rw[aj5 e];exact hk
theorem set_inv {R:Rn}{i:Nat}{t:Tk}{r r1:RT}{s1:Int}(h:Inv0 R)(ht:R.ts[i]? = some t)(hr:R.rs[i]? = some r)(h3:r.ph≠3)(h0:r.ph≠0)(b1:r.tr<=r1.tr)(b2:r1.tr<=t.cz+1)(b3:r1.ph=0\/r1.ph=1\/r1.ph=5->r1.tr<=t.cz) :
  Inv0 { R with rs:=R.rs.set i r1,st:=s1 }/\Step R { R with rs:=R.rs.set i r1,st:=s1 }:=by
 have hu:=u3_set (r1:=r1) hr h3
 have bD:=(aaw.1 hr).1
 have hk:=h.ok.set i r1
 refine⟨⟨⟨⟨hk.sm.n,hk.sm.a,hk.sm.r,hk.sm.s⟩,hk.len,hk.jY⟩,by show 1<=(R.rs.set i r1).length;rw[adU];exact h.n1,by show (R.rs.set i r1).length<=16;rw[adU];exact h.n2,h.td,fun j u q jG hq => ?_⟩,rfl,adU,fun j q q' hq hq' => ?_,by show R.sg.length<=_;omega⟩
 ·have vt:(R.rs.set i r1)[j]? = some q:=hq
  have vm:R.ts[j]? = some u:=jG
  by_cases e:i=j
  ·subst e
   rw[ahC bD] at vt
   have e1:r1=q:=ac8 vt
   have e2:t=u:=ac8 (ht.symm.trans vm)
   subst e1
   subst e2
   have a:=h.tr i t r ht hr
   exact⟨by omega,b2,b3,fun _=>blk_mono hu (a.2.2.2 h0)⟩
  ·rw[aj5 e] at vt
   have a:=h.tr j u q vm vt
   exact⟨a.1,a.2.1,a.2.2.1,fun z=>blk_mono hu (a.2.2.2 z)⟩
 ·have vt:(R.rs.set i r1)[j]? = some q':=hq'
  by_cases e:i=j
  ·subst e
   rw[ahC bD] at vt
   have e1:r1=q':=ac8 vt
   have e2:r=q:=ac8 (hr.symm.trans hq)
   subst e1
   subst e2
   exact⟨b1,fun z=>absurd z h3⟩
  ·rw[aj5 e] at vt
   have e1:q=q':=ac8 (hq.symm.trans vt)
   subst e1
   exact⟨Int.le_refl _,fun _=>rfl⟩
theorem settle_inv {R:Rn}(h:Inv0 R):Inv0 (iH R)/\Step R (iH R):=by
 have hl:=h.ok.len
 have hlen:=settle_len hl
 have hb:∀ t,cI (iH R).rs t=cI R.rs t:=fun t=>blk_congr (u3at_map (settle_u3 hl)) t
 have ff:∀ (i:Nat) (r:RT),(iH R).rs[i]? = some r->∃ t r0,R.ts[i]? = some t/\R.rs[i]? = some r0/\r=kU R.rs R.sg t r0:=by
  intro i r hr
  have bD:=(aaw.1 hr).1
  rw[hlen] at bD
  have e1:R.rs[i]? = some R.rs[i]:=aaC _
  have e2:R.ts[i]? = some (R.ts[i]'(by rw[<-hl];exact bD)):=aaC _
  rw[settle_at e2 e1] at hr
  cases hr
  exact⟨_,_,e2,e1,rfl⟩
 have e1:(iH R).ts=R.ts:=rfl
 have e2:(iH R).sg=R.sg:=rfl
 refine⟨⟨⟨⟨h.ok.sm.n,h.ok.sm.a,by rw[hlen];exact h.ok.sm.r,h.ok.sm.s⟩,by rw[hlen];exact hl,h.ok.jY⟩,by rw[hlen];exact h.n1,by rw[hlen];exact h.n2,h.td,fun i t r ht hr => ?_⟩,rfl,hlen,fun i r r' hr ea => ?_,by rw[e2];omega⟩
 ·obtain⟨t',r0,k1,k2,rfl⟩:=ff i r hr
  have ht:R.ts[i]? = some t:=ht
  rw[k1] at ht
  cases ht
  have a:=h.tr i t r0 k1 k2
  rw[hb]
  unfold kU
  split
  ·rename_i hy
   unfold Bz at hy
   simp only[aaT,aj7,beq_iff_eq] at hy
   exact⟨a.1,a.2.1,fun _=>a.2.2.1 (.inl hy.1),fun _=>hy.2.1⟩
  ·exact a
 ·obtain⟨t',r0,k1,k2,rfl⟩:=ff i r' ea
  rw[hr] at k2
  cases k2
  unfold kU
  split
  ·rename_i hy
   unfold Bz at hy
   rw[aaT,beq_iff_eq] at hy
   exact⟨Int.le_refl _,fun z=>by rw[hy.1] at z;cases z⟩
  ·exact⟨Int.le_refl _,fun _=>rfl⟩
theorem Step.trans {A B C:Rn}(h:Step A B)(k:Step B C)(hs:B.sg=A.sg\/C.sg=B.sg):Step A C:=by
 refine⟨k.ts.trans h.ts,k.len.trans h.len,fun i r r' hr ea => ?_,?_⟩
 ·have bD:=(aaw.1 hr).1
  have e:B.rs[i]? = some (B.rs[i]'(by rw[h.len];exact bD)):=aaC _
  obtain⟨a1,a2⟩:=h.mono i r _ hr e
  obtain⟨b1,b2⟩:=k.mono i _ r' e ea
  exact⟨by omega,fun z=>by rw[b2 (by rw[a2 z];exact z),a2 z]⟩
 ·have a:=h.sg
  have b:=k.sg
  rcases hs with e | e
  ·rw[e] at b;exact b
  ·rw[e];exact a
theorem stI_of {R:Rn}(h:R.rs.countP u3=R.rs.length->R.st=1)(h':R.rs.countP u3≠R.rs.length->R.st≠1):stI R:=by
 unfold stI
 constructor
 ·intro e r hr
  refine Classical.byContradiction fun q => ?_
  by_cases hc:R.rs.countP u3=R.rs.length
  ·rw[List.countP_eq_length] at hc
   have:=hc r hr
   unfold u3 at this
   exact q (by simpa using this)
  ·exact h' hc e
 ·intro e
  refine h ?_
  rw[List.countP_eq_length]
  intro r hr
  unfold u3
  rw[e r hr];rfl
theorem not_all {R:Rn}{i:Nat}{r:RT}(hr:R.rs[i]? = some r)(h3:r.ph≠3)(hs:R.st≠1):stI R:=by
 unfold stI
 exact⟨fun e=>absurd e hs,fun e=>absurd (e r (aaO hr)) h3⟩
theorem settle_stI {R:Rn}(hl:R.rs.length=R.ts.length)(h0:R.st≠1):stI (iH R):=by
 have hc:=cnt_map (settle_u3 hl)
 have hlen:=settle_len hl
 have aA:=settle_st (R:=R)
 refine stI_of (fun e => ?_) (fun e => ?_)
 ·rw[hc,hlen] at e
  rw[aA,if_pos e]
 ·rw[hc,hlen] at e
  rw[aA,if_neg e];exact h0
def Good1 (R R':Rn)(e:Int):Prop:=e=0->Inv0 R'/\stI R'/\Step R R'
theorem lease_good {R:Rn}(h:Inv0 R)(hs:stI R)(task now:Int)(t:RT)(ht:R.rs[task.toNat]? = some t):Good1 R (pS R task (iU (t.tr+1)) now).1 (pS R task (iU (t.tr+1)) now).2:=by
 intro he
 unfold pS at he ⊢
 by_cases h0:pT R task=0
 ·obtain⟨i,u,rfl,hu,aA⟩:=HU h0
  rw[acB] at ht
  have e0:u=t:=ac8 (hu.symm.trans ht)
  subst e0
  have bD:=(aaw.1 hu).1
  have hd:R.ts[i]? = some (R.ts[i]'(by rw[<-h.ok.len];exact bD)):=aaC _
  rw[if_pos h0,acB,hu,hd] at he ⊢
  simp only at he ⊢
  by_cases h1:u.ph=1
  ·rw[if_pos h1,if_pos trivial]
   have a:=h.tr i _ u hd hu
   have b:=h.td _ (aaO hd)
   have c:=a.2.2.1 (.inr (.inl h1))
   have ew:iU (u.tr+1)=u.tr+1:=wrap_i64 (by omega) (by omega)
   obtain⟨k1,k2⟩:=set_inv (s1:=R.st) (r1:=⟨2,iU (u.tr+1),iU (now+(R.ts[i]'(by rw[<-h.ok.len];exact bD)).wait),u.oV⟩) h hd hu (by rw[h1];decide) (by rw[h1];decide) (by show u.tr<=iU (u.tr+1);rw[ew];omega) (by show iU (u.tr+1)<=_;rw[ew];omega) (by intro z;rcases z with z | z | z<;>cases z)
   refine⟨k1,?_,k2⟩
   exact not_all (i:=i) (ahC bD) (by show (2:Int)≠3;decide) (by show R.st≠1;rw[aA];decide)
  ·rw[if_neg h1] at he;cases he
 ·rw[if_neg h0] at he;exact absurd he h0
theorem done_good {R:Rn}(h:Inv0 R)(hs:stI R)(task bL:Int)(d:ai):Good1 R (rC R task bL d).1 (rC R task bL d).2:=by
 intro he
 unfold rC at he ⊢
 by_cases h0:nO R task bL=0
 ·obtain⟨i,u,rfl,hu,aA,nw,Jz⟩:=Ld h0
  have bD:=(aaw.1 hu).1
  have hd:R.ts[i]? = some (R.ts[i]'(by rw[<-h.ok.len];exact bD)):=aaC _
  rw[if_pos h0,acB]
  have a:=h.tr i _ u hd hu
  obtain⟨k1,k2⟩:=set_inv (s1:=R.st) (r1:=⟨3,bL,0,d⟩) h hd hu (by rw[nw];decide) (by rw[nw];decide) (by show u.tr<=bL;omega) (by show bL<=_;omega) (by intro z;rcases z with z | z | z<;>cases z)
  obtain⟨m1,m2⟩:=settle_inv k1
  exact⟨m1,settle_stI k1.ok.len (by show R.st≠1;rw[aA];decide),k2.trans m2 (.inr rfl)⟩
 ·rw[if_neg h0] at he;exact absurd he h0
theorem failR_good {R:Rn}(h:Inv0 R){i:Nat}{t:RT}{d:Tk}(hr:R.rs[i]? = some t)(hd:R.ts[i]? = some d)(aA:R.st=0)(nw:t.ph=2)(now:Int):Inv0 (mP R i t d now)/\stI (mP R i t d now)/\Step R (mP R i t d now)/\(mP R i t d now).sg=R.sg:=by
 have bD:=(aaw.1 hr).1
 have a:=h.tr i d t hd hr
 unfold mP
 split
 ·rename_i hle
  obtain⟨k1,k2⟩:=set_inv (s1:=R.st) (r1:={ t with ph:=5,gm:=iU (now+dM d.base t.tr) }) h hd hr (by rw[nw];decide) (by rw[nw];decide) (Int.le_refl _) a.2.1 (fun _=>hle)
  exact⟨k1,not_all (i:=i) (ahC bD) (by show (5:Int)≠3;decide) (by show R.st≠1;rw[aA];decide),k2,rfl⟩
 ·obtain⟨k1,k2⟩:=set_inv (s1:=2) (r1:={ t with ph:=4,gm:=0 }) h hd hr (by rw[nw];decide) (by rw[nw];decide) (Int.le_refl _) a.2.1 (by intro z;rcases z with z | z | z<;>cases z)
  exact⟨k1,not_all (i:=i) (ahC bD) (by show (4:Int)≠3;decide) (by show (2:Int)≠1;decide),k2,rfl⟩
theorem tickAt_good {R:Rn}(h:Inv0 R)(hs:stI R)(i:Nat)(now:Int):Inv0 (tickAt now R i)/\stI (tickAt now R i)/\Step R (tickAt now R i)/\(tickAt now R i).sg=R.sg:=by
 unfold tickAt
 split
 ·rename_i t d ht hd
  split
  ·exact⟨h,hs,Step.refl R,rfl⟩
  ·rename_i hn
   rw[not_or] at hn
   have aA:R.st=0:=aiO.1 hn.1
   split
   ·rename_i nw
    exact failR_good h ht hd aA nw now
   ·split
    ·rename_i nw
     have bD:=(aaw.1 ht).1
     have a:=h.tr i d t hd ht
     obtain⟨k1,k2⟩:=set_inv (s1:=R.st) (r1:={ t with ph:=1,gm:=0 }) h hd ht (by rw[nw];decide) (by rw[nw];decide) (Int.le_refl _) a.2.1 (fun _=>a.2.2.1 (.inr (.inr nw)))
     exact⟨k1,not_all (i:=i) (ahC bD) (by show (1:Int)≠3;decide) (by show R.st≠1;rw[aA];decide),k2,rfl⟩
    ·exact⟨h,hs,Step.refl R,rfl⟩
 ·exact⟨h,hs,Step.refl R,rfl⟩
theorem signal_good {R:Rn}(h:Inv0 R)(hs:stI R)(name:ai)(y7:R.sg.length<=900):Good1 R (sZ R name).1 (sZ R name).2:=by
 intro he
 unfold sZ at he ⊢
 by_cases h0:R.st≠0
 ·rw[if_pos h0] at he;cases he
 rw[if_neg h0] at he ⊢
 have aA:R.st=0:=aiO.1 h0
 split at he
 ·cases he
 ·rename_i h5
  rw[if_neg h5]
  split at he
  ·rename_i h6
   rw[if_pos h6]
   have k1:Inv0 { R with sg:=R.sg++[name] }:=⟨⟨⟨h.ok.sm.n,h.ok.sm.a,h.ok.sm.r,by show (R.sg++[name]).length<=1000;rw[abj];simp;omega⟩,h.ok.len,h.ok.jY⟩,h.n1,h.n2,h.td,h.tr⟩
   have k2:Step R { R with sg:=R.sg++[name] }:=⟨rfl,rfl,(Step.refl R).mono,by show (R.sg++[name]).length<=_;rw[abj];simp⟩
   obtain⟨m1,m2⟩:=settle_inv k1
   exact⟨m1,settle_stI k1.ok.len (by show R.st≠1;rw[aA];decide),k2.trans m2 (.inr rfl)⟩
  ·cases he
theorem new_inv {ts:List Tk}(hg:iF ts=0)(h1:1<=ts.length)(h2:ts.length<=16)(ha:wG ts)(hq:∀ t∈ts,xq t=false/\tB t=false):Inv0 (bA ts).1/\stI (bA ts).1/\(bA ts).1.sg.length=0/\(bA ts).1.ts=ts/\(bA ts).2=0:=by
 unfold bA
 rw[if_pos hg]
 have dh:=after_le h2 ha
 have h0:Inv0 ⟨ts,0,List.replicate ts.length od,[]⟩:=by
  refine⟨⟨⟨by show ts.length<=1000;omega,fun t ht=>by have:=dh t ht;omega,by show (List.replicate ts.length od).length<=1000;rw[agw];omega,ace _⟩,by show (List.replicate ts.length od).length=ts.length;rw[agw],fun t ht a haa => ?_⟩,by show 1<=(List.replicate ts.length od).length;rw[agw];exact h1,by show (List.replicate ts.length od).length<=16;rw[agw];exact h2,fun t ht => ?_,fun i t r ht hr => ?_⟩
  ·obtain⟨i,hi⟩:=adR ht
   have:=(Bl ha hi).1 a haa
   exact⟨this.1,by show a<(ts.length:Int);omega⟩
  ·have:=(hq t ht).2
   unfold tB at this
   simp only[ajm,Bool.not_eq_false',aaT,decide_eq_true_eq] at this
   omega
  ·have:=aaO hr
   have e:r=od:=(List.mem_replicate.1 this).2
   subst e
   have ho:=(hq t (aaO ht)).2
   unfold tB at ho
   simp only[ajm,Bool.not_eq_false',aaT,decide_eq_true_eq] at ho
   exact⟨by show (0:Int)<=0;omega,by show (0:Int)<=t.cz+1;omega,fun _=>by show (0:Int)<=t.cz;omega,fun z=>absurd rfl z⟩
 exact⟨(settle_inv h0).1,settle_stI h0.ok.len (by show (0:Int)≠1;decide),rfl,rfl,rfl⟩
structure TI (r:RT):Prop where
 ph:0<=r.ph/\r.ph<=5
 dt:r.oV.length<=64
 tl:0<=r.gm/\r.gm<=1099511691776
 tz:r.ph≠2->r.ph≠5->r.gm=0
structure RI (R:Rn):Prop where
 i0:Inv0 R
 s1:stI R
 st:0<=R.st/\R.st<=3
 ti:∀ r∈R.rs,TI r
 sn:R.sg.Nodup
 sk:∀ s∈R.sg,s≠[]/\∃ t∈R.ts,t.on=s
 wt:∀ t∈R.ts,1<=t.wait/\t.wait<=1000
theorem nodup_len:∀ (l m:List ai),l.Nodup->(∀ x∈l,x∈m)->l.length<=m.length
 | [],m,_,_=>ace _
 | x::l,m,hn,h=>by
  rw[aju] at hn
  have hx:=h x (.head _)
  have ih:=nodup_len l (m.erase x) hn.2 fun y hy=>(List.mem_erase_of_ne fun q=>hn.1 (by rw[<-q];exact hy)).2 (h y (.tail _ hy))
  have:=List.length_erase_of_mem hx
  have:=List.length_pos_of_mem hx
  rw[aa1];omega
theorem RI.sg {R:Rn}(h:RI R):R.sg.length<=16:=by
 have:=nodup_len R.sg (R.ts.map (·.on)) h.sn fun s hs=>by
  obtain⟨_,t,ht,rfl⟩:=h.sk s hs
  exact List.mem_map_of_mem ht
 rw[adY,<-h.i0.ok.len] at this
 have:=h.i0.n2
 omega
theorem RI.to {R R':Rn}(h:RI R)(a:Inv0 R')(b:stI R')(nJ:R'.ts=R.ts)(y7:R'.sg=R.sg)(aA:0<=R'.st/\R'.st<=3)(hti:∀ r∈R'.rs,TI r):RI R':=
 ⟨a,b,aA,hti,by rw[y7];exact h.sn,by rw[y7,nJ];exact h.sk,by rw[nJ];exact h.wt⟩
theorem ti_set {rs:List RT}{i:Nat}{u:RT}(h:∀ r∈rs,TI r)(hu:TI u):∀ r∈rs.set i u,TI r:=fun r hr=>(mem_set hr).elim (h r) fun q=>q▸hu
theorem ti_settle {R:Rn}(h:∀ r∈R.rs,TI r):∀ r∈(iH R).rs,TI r:=by
 intro r hr
 obtain⟨i,hi⟩:=adR hr
 have hz:(List.zipWith (kU R.rs R.sg) R.ts R.rs)[i]? = some r:=hi
 rw[aeG] at hz
 cases ht:R.ts[i]? with
 | none=>rw[ht] at hz;cases hz
 | some t=>
  cases hq:R.rs[i]? with
  | none=>rw[ht,hq] at hz;cases hz
  | some q=>
   rw[ht,hq] at hz
   have hq0:=h q (aaO hq)
   have Be:kU R.rs R.sg t q=r:=ac8 hz
   subst Be
   unfold kU
   split
   ·rename_i u6
    unfold Bz at u6
    rw[aaT,beq_iff_eq] at u6
    exact⟨⟨by show (0:Int)<=1;omega,by show (1:Int)<=5;omega⟩,hq0.dt,hq0.tl,fun _ _=>hq0.tz (by rw[u6.1];decide) (by rw[u6.1];decide)⟩
   ·exact hq0
theorem st_settle {R:Rn}(h:0<=R.st/\R.st<=3):0<=(iH R).st/\(iH R).st<=3:=by
 unfold iH
 simp only
 split<;>omega
theorem lease_ri {R:Rn}(h:RI R)(task bL now:Int)(h0:0<=now)(h1:now<=1099511627776)(he:(pS R task bL now).2=0):RI (pS R task bL now).1/\(pS R task bL now).1.ts=R.ts:=by
 have hm:pT R task=0:=by
  unfold pS at he
  by_cases q:pT R task=0
  ·exact q
  ·rw[if_neg q] at he;exact absurd he q
 obtain⟨i,t,rfl,ht,aA⟩:=HU hm
 have bD:=(aaw.1 ht).1
 have hd:R.ts[i]? = some (R.ts[i]'(by rw[<-h.i0.ok.len];exact bD)):=aaC _
 have Jz:bL=iU (t.tr+1):=by
  unfold pS at he
  rw[if_pos hm,acB,ht,hd] at he
  simp only at he
  by_cases q:t.ph=1
  ·rw[if_pos q] at he
   by_cases q2:bL=iU (t.tr+1)
   ·exact q2
   ·rw[if_neg q2] at he;cases he
  ·rw[if_neg q] at he;cases he
 subst Jz
 obtain⟨a,b,_⟩:=lease_good h.i0 h.s1 (i:Int) now t (by rw[acB];exact ht) he
 have hw:=h.wt _ (aaO hd)
 have key:pS R (i:Int) (iU (t.tr+1)) now=({ R with rs:=R.rs.set i ⟨2,iU (t.tr+1),iU (now+(R.ts[i]'(by rw[<-h.i0.ok.len];exact bD)).wait),t.oV⟩ },0):=by
  unfold pS at he ⊢
  rw[if_pos hm,acB,ht,hd] at he ⊢
  simp only at he ⊢
  by_cases q:t.ph=1
  ·rw[if_pos q,if_pos trivial]
  ·rw[if_neg q] at he;cases he
 have nJ:(pS R (i:Int) (iU (t.tr+1)) now).1.ts=R.ts:=by rw[key]
 refine⟨h.to a b nJ (by rw[key]) (by rw[key];exact h.st) ?_,nJ⟩
 rw[key]
 refine ti_set h.ti ⟨⟨by show (0:Int)<=2;omega,by show (2:Int)<=5;omega⟩,(h.ti t (aaO ht)).dt,?_,fun q=>absurd rfl q⟩
 show 0<=iU _/\iU _<=_
 rw[show iU (now+(R.ts[i]'(by rw[<-h.i0.ok.len];exact bD)).wait)=now+(R.ts[i]'(by rw[<-h.i0.ok.len];exact bD)).wait from wrap_i64 (by omega) (by omega)]
 omega
theorem done_ri {R:Rn}(h:RI R)(task bL:Int)(d:ai)(hd:d.length<=64)(he:(rC R task bL d).2=0):RI (rC R task bL d).1/\(rC R task bL d).1.ts=R.ts:=by
 obtain⟨a,b,_⟩:=done_good h.i0 h.s1 task bL d he
 have hm:nO R task bL=0:=by
  unfold rC at he
  by_cases q:nO R task bL=0
  ·exact q
  ·rw[if_neg q] at he;exact absurd he q
 have key:rC R task bL d=(iH { R with rs:=R.rs.set task.toNat ⟨3,bL,0,d⟩ },0):=by unfold rC;rw[if_pos hm]
 rw[key] at a b ⊢
 refine⟨h.to a b rfl rfl (st_settle h.st) (ti_settle (ti_set h.ti ⟨⟨by show (0:Int)<=3;omega,by show (3:Int)<=5;omega⟩,hd,⟨by show (0:Int)<=0;omega,by show (0:Int)<=_;omega⟩,fun _ _=>rfl⟩)),rfl⟩
theorem dM_le (b t:Int):0<=dM b t/\dM b t<=64000:=by
 unfold dM
 have h1:=aq6 b.toNat t.toNat
 omega
theorem failR_ri {R:Rn}(h:RI R){i:Nat}{t:RT}{d:Tk}(ht:R.rs[i]? = some t)(hd:R.ts[i]? = some d)(aA:R.st=0)(nw:t.ph=2){now:Int}(h0:0<=now)(h1:now<=1099511627776):RI (mP R i t d now)/\(mP R i t d now).ts=R.ts:=by
 obtain⟨a,b,_⟩:=failR_good h.i0 ht hd aA nw now
 have hT:=h.ti t (aaO ht)
 have hb:=dM_le d.base t.tr
 unfold mP at a b ⊢
 by_cases hle:t.tr<=d.cz
 ·rw[if_pos hle] at a b ⊢
  refine⟨h.to a b rfl rfl h.st (ti_set h.ti ⟨⟨by show (0:Int)<=5;omega,by show (5:Int)<=5;omega⟩,hT.dt,?_,fun _ q=>absurd rfl q⟩),rfl⟩
  show 0<=iU _/\iU _<=_
  rw[show iU (now+dM d.base t.tr)=now+dM d.base t.tr from wrap_i64 (by omega) (by omega)]
  omega
 ·rw[if_neg hle] at a b ⊢
  exact⟨h.to a b rfl rfl ⟨by show (0:Int)<=2;omega,by show (2:Int)<=3;omega⟩ (ti_set h.ti ⟨⟨by show (0:Int)<=4;omega,by show (4:Int)<=5;omega⟩,hT.dt,⟨by show (0:Int)<=0;omega,by show (0:Int)<=_;omega⟩,fun _ _=>rfl⟩),rfl⟩
theorem fail_ri {R:Rn}(h:RI R)(task bL now:Int)(h0:0<=now)(h1:now<=1099511627776)(he:(yn R task bL now).2=0):RI (yn R task bL now).1/\(yn R task bL now).1.ts=R.ts:=by
 unfold yn at he ⊢
 by_cases q:nO R task bL=0
 ·obtain⟨i,u,rfl,hu,aA,nw,Jz⟩:=Ld q
  have bD:=(aaw.1 hu).1
  have hd:R.ts[i]? = some (R.ts[i]'(by rw[<-h.i0.ok.len];exact bD)):=aaC _
  rw[if_pos q,acB,hu,hd]
  exact failR_ri h hu hd aA nw h0 h1
 ·rw[if_neg q] at he;exact absurd he q
theorem tickAt_ri {R:Rn}(h:RI R)(i:Nat){now:Int}(h0:0<=now)(h1:now<=1099511627776):RI (tickAt now R i)/\(tickAt now R i).ts=R.ts:=by
 obtain⟨a,b,_⟩:=tickAt_good h.i0 h.s1 i now
 unfold tickAt at a b ⊢
 split
 ·rename_i t d ht hd
  rw[ht,hd] at a b
  simp only at a b
  by_cases hn:R.st≠0\/now<t.gm
  ·rw[if_pos hn];exact⟨h,rfl⟩
  ·rw[if_neg hn] at a b ⊢
   rw[not_or] at hn
   by_cases hp:t.ph=2
   ·rw[if_pos hp];exact failR_ri h ht hd (aiO.1 hn.1) hp h0 h1
   ·rw[if_neg hp] at a b ⊢
    by_cases h5:t.ph=5
    ·rw[if_pos h5] at a b ⊢
     exact⟨h.to a b rfl rfl h.st (ti_set h.ti ⟨⟨by show (0:Int)<=1;omega,by show (1:Int)<=5;omega⟩,(h.ti t (aaO ht)).dt,⟨by show (0:Int)<=0;omega,by show (0:Int)<=_;omega⟩,fun _ _=>rfl⟩),rfl⟩
    ·rw[if_neg h5];exact⟨h,rfl⟩
 ·exact⟨h,rfl⟩
theorem tickN_ri {now:Int}(h0:0<=now)(h1:now<=1099511627776):∀ (m i:Nat) (R:Rn),RI R->RI (yj now m i R)/\(yj now m i R).ts=R.ts
 | 0,i,R,h=>⟨h,rfl⟩
 | m+1,i,R,h=>by
  obtain⟨a,b⟩:=tickAt_ri h i h0 h1
  obtain⟨c,d⟩:=tickN_ri h0 h1 m (i+1) _ a
  exact⟨c,d.trans b⟩
theorem signal_ri {R:Rn}(h:RI R)(name:ai)(he:(sZ R name).2=0):RI (sZ R name).1/\(sZ R name).1.ts=R.ts:=by
 obtain⟨a,b,_⟩:=signal_good h.i0 h.s1 name (by have:=h.sg;omega) he
 unfold sZ at he a b ⊢
 by_cases h0:R.st≠0
 ·rw[if_pos h0] at he;cases he
 rw[if_neg h0] at he a b ⊢
 by_cases h5:R.sg.any (fun s=>name==s)=true
 ·rw[if_pos h5] at he;cases he
 rw[if_neg h5] at he a b ⊢
 by_cases h6:Km R.ts name=true
 ·rw[if_pos h6] at a b ⊢
  have hno:name∉R.sg:=fun q=>h5 (List.any_eq_true.2 ⟨name,q,by simp⟩)
  unfold Km at h6
  rw[List.any_eq_true] at h6
  obtain⟨t,ht,hq⟩:=h6
  simp at hq
  refine⟨⟨a,b,st_settle h.st,ti_settle h.ti,?_,?_,h.wt⟩,rfl⟩
  ·show (R.sg++[name]).Nodup
   rw[af2]
   refine⟨h.sn,by simp,fun x hx y hy q => ?_⟩
   simp at hy
   subst hy;subst q
   exact hno hx
  ·intro s hs
   have wk:s∈R.sg++[name]:=hs
   rcases abN.1 wk with q | q
   ·exact h.sk s q
   ·rw[No] at q
    subst q
    exact⟨hq.2,t,ht,hq.1⟩
 ·rw[if_neg h6] at he;cases he
theorem cancel_ri {R:Rn}(h:RI R)(he:(xy R).2=0):RI (xy R).1/\(xy R).1.ts=R.ts:=by
 unfold xy at he ⊢
 by_cases h0:R.st≠0
 ·rw[if_pos h0] at he;cases he
 rw[if_neg h0]
 have aA:R.st=0:=aiO.1 h0
 refine⟨h.to ⟨⟨⟨h.i0.ok.sm.n,h.i0.ok.sm.a,h.i0.ok.sm.r,h.i0.ok.sm.s⟩,h.i0.ok.len,h.i0.ok.jY⟩,h.i0.n1,h.i0.n2,h.i0.td,h.i0.tr⟩ ⟨fun q => ?_,fun q => ?_⟩ rfl rfl ⟨by show (0:Int)<=3;omega,by show (3:Int)<=3;omega⟩ h.ti,rfl⟩
 ·have:(3:Int)=1:=q
  omega
 ·have:=h.s1.2 q
  omega
theorem new_ri {text:ai}(h:(aM text).2=0):RI (bA (aM text).1).1/\(bA (aM text).1).1.ts=(aM text).1/\(bA (aM text).1).2=0:=by
 obtain⟨g1,g2,g3,g4,g5,g6⟩:=LH h
 obtain⟨a,b,c,d,e⟩:=new_inv g1 g2 g3 g4 g6
 have h0:TI od:=⟨⟨by show (0:Int)<=0;omega,by show (0:Int)<=5;omega⟩,ace _,⟨by show (0:Int)<=0;omega,by show (0:Int)<=_;omega⟩,fun _ _=>rfl⟩
 refine⟨?_,d,e⟩
 have y7:(bA (aM text).1).1.sg=[]:=List.length_eq_zero_iff.1 c
 refine⟨a,b,?_,?_,by rw[y7];exact akK,fun s hs=>by (rw[y7] at hs;cases hs),?_⟩
 ·unfold bA
  rw[if_pos g1]
  exact st_settle ⟨by show (0:Int)<=0;omega,by show (0:Int)<=3;omega⟩
 ·unfold bA
  rw[if_pos g1]
  refine ti_settle fun r hr => ?_
  rw[(List.mem_replicate.1 hr).2];exact h0
 ·rw[d]
  intro t ht
  have:=(g6 t ht).2
  unfold tB at this
  simp only[ajm,Bool.not_eq_false',aaT,decide_eq_true_eq] at this
  omega
structure FI (f:Fm):Prop where
 run:∀ x∈f.ax,RI x.1/\∃ t,fw f.bK x.2=some t/\(aM t).1=x.1.ts
 nr:f.ax.length<=64
 nn:f.bf.length<=16
 nt:f.bK.map (·.1)=f.bf
 tx:∀ x∈f.bK,tP x.1=true/\(aM x.2).2=0/\lM (aM x.2).1=x.2
 nd:f.bf.Nodup
 nk:f.ks.length<=f.ax.length
 kk:∀ x∈f.ks,1<=x.2/\x.2<=f.ax.length/\(∃ y,f.ax[(x.2-1).toNat]? = some y/\y.2=x.1.1)/\x.1.2≠[]/\x.1.2.length<=16
 kd:(f.ks.map (·.1)).Nodup
 ck:0<=f.ck/\f.ck<=1099511627776
theorem FI.ok {f:Fm}(h:FI f):Fok f:=⟨fun x hx=>⟨(h.run x hx).1.i0.ok,(h.run x hx).1.i0.bd,by have:=(h.run x hx).1.sg;omega⟩,h.nr,h.nn,by have:=h.nk;have:=h.nr;omega⟩
theorem fi0:FI rj:=⟨fun x hx=>(by cases hx),ace _,ace _,rfl,fun x hx=>(by cases hx),akK,ace _,fun x hx=>(by cases hx),akK,by show (0:Int)<=0;omega,by show (0:Int)<=_;omega⟩
theorem goodE_f {e:Ev}(h:yH e=true){c:Nat}(hc:c∈fieldsM e.kd):uv e c=true:=by
 unfold yH at h
 rw[aaT,aaT] at h
 exact aeO.1 h.2.2 c hc
theorem getT_snoc {l:List (ai × ai)}{s t u:ai}(h:fw l s=some t)(x:ai × ai):fw (l++[x]) s=some t:=by
 unfold fw at h ⊢
 rw[aam] at h
 obtain⟨y,h1,h2⟩:=h
 rw[List.find?_append,h1,Option.some_or,ae6,h2]
theorem getT_mem {l:List (ai × ai)}{s t:ai}(h:fw l s=some t):(s,t)∈l:=by
 obtain⟨a,b,rfl,_⟩:=afL h
 simp
theorem define_fi {f:Fm}(h:FI f){s t:ai}(hs:tP s=true):FI (nM f s t).1:=by
 unfold nM
 cases hg:fw f.bK s with
 | some u=>rw[if_pos (show (some u).isSome=true from rfl)];exact h
 | none=>
  rw[if_neg (by simp)]
  by_cases hp:(aM t).2≠0
  ·rw[if_pos hp];exact h
  rw[if_neg hp]
  have hp:=aiO.1 hp
  by_cases bJ:f.bf.length=16
  ·rw[if_pos bJ];exact h
  rw[if_neg bJ]
  obtain⟨_,_,_,_,_,_,jC⟩:=Qi hp
  have hno:=Ls hg
  refine⟨fun x hx => ?_,h.nr,by show (f.bf++[s]).length<=16;rw[abj];have:=h.nn;simp;omega,by show (f.bK++[(s,lM (aM t).1)]).map (·.1)=f.bf++[s];rw[afg,h.nt];rfl,fun x hx => ?_,?_,h.nk,h.kk,h.kd,h.ck⟩
  ·obtain⟨a,u,b,c⟩:=h.run x hx
   exact⟨a,u,getT_snoc (u:=u) b _,c⟩
  ·rcases abN.1 hx with q | q
   ·exact h.tx x q
   ·rw[No] at q
    subst q
    exact⟨hs,by show (aM (lM (aM t).1)).2=0;rw[jC],by show lM (aM (lM (aM t).1)).1=_;rw[jC]⟩
  ·show (f.bf++[s]).Nodup
   rw[af2]
   refine⟨h.nd,by simp,fun x hx y hy q => ?_⟩
   simp at hy
   subst hy;subst q
   rw[<-h.nt] at hx
   obtain⟨z,hz,rfl⟩:=adD.1 hx
   exact hno z hz rfl
theorem start_fi {f:Fm}(h:FI f){e:Ev}(hk:e.ky.length<=16):FI (startM f e).1:=by
 unfold startM
 split
 ·exact h
 ·rename_i t hg
  split
  ·exact h
  rename_i KQ
  split
  ·exact h
  rename_i pW
  split
  ·exact h
  rename_i rE
  have rE:=aiO.1 rE
  have hm:=getT_mem hg
  obtain⟨_,hp,_⟩:=h.tx _ hm
  obtain⟨a,b,c⟩:=new_ri hp
  rw[if_neg (by simp[c])]
  have BV:∀ {i:Nat} {y:Rn × ai},f.ax[i]? = some y->(f.ax++[((bA (aM t).1).1,e.nm)])[i]? = some y:=fun {i y} q=>by
   rw[abX (aaw.1 q).1];exact q
  have hkk':∀ x∈f.ks,1<=x.2/\x.2<=((f.ax++[((bA (aM t).1).1,e.nm)]).length:Int)/\(∃ y,(f.ax++[((bA (aM t).1).1,e.nm)])[(x.2-1).toNat]? = some y/\y.2=x.1.1)/\x.1.2≠[]/\x.1.2.length<=16:=by
   intro x hx
   obtain⟨q1,q2,⟨y,q3,q4⟩,q5⟩:=h.kk x hx
   refine⟨q1,by rw[abj];simp;omega,⟨y,BV q3,q4⟩,q5⟩
  have Ff:(f.ax++[((bA (aM t).1).1,e.nm)]).length<=64:=by rw[abj];have:=h.nr;simp;omega
  refine⟨fun x hx => ?_,Ff,h.nn,h.nt,h.tx,h.nd,?_,?_,?_,h.ck⟩
  ·rcases abN.1 hx with q | q
   ·exact h.run x q
   ·rw[No] at q
    subst q
    exact⟨a,t,hg,b.symm⟩
  ·show (if e.ky=[] then f.ks else f.ks++[((e.nm,e.ky),e.rn)]).length<=(f.ax++[((bA (aM t).1).1,e.nm)]).length
   have:=h.nk
   split<;>simp<;>omega
  ·show ∀ x∈(if e.ky=[] then f.ks else f.ks++[((e.nm,e.ky),e.rn)]),_
   split
   ·exact hkk'
   ·rename_i aH
    intro x hx
    rcases abN.1 hx with q | q
    ·exact hkk' x q
    ·rw[No] at q
     subst q
     refine⟨by show 1<=e.rn;omega,by show e.rn<=_;rw[abj];simp;omega,⟨((bA (aM t).1).1,e.nm),?_,rfl⟩,aH,hk⟩
     show (f.ax++[((bA (aM t).1).1,e.nm)])[(e.rn-1).toNat]? = _
     rw[show (e.rn-1).toNat=f.ax.length by omega,ack (aaU _),aiG];rfl
  ·show ((if e.ky=[] then f.ks else f.ks++[((e.nm,e.ky),e.rn)]).map (·.1)).Nodup
   split
   ·exact h.kd
   ·rename_i aH
    rw[afg,af2]
    refine⟨h.kd,by simp,fun x hx y hy q => ?_⟩
    simp at hy
    subst hy;subst q
    obtain⟨z,hz,CS⟩:=adD.1 hx
    cases DP:la f.ks (e.nm,e.ky) with
    | none=>exact Jk DP z hz CS
    | some id=>exact KQ ⟨aH,by rw[DP];rfl⟩
theorem tick_fi {f:Fm}(h:FI f){now:Int}(h0:0<=now)(h1:now<=1099511627776):FI (EV f now).1:=by
 unfold EV
 split
 ·exact h
 refine⟨fun x hx => ?_,by show (f.ax.map (sS now)).length<=64;rw[adY];exact h.nr,h.nn,h.nt,h.tx,h.nd,by show _<=(f.ax.map (sS now)).length;rw[adY];exact h.nk,fun x hx => ?_,h.kd,h0,h1⟩
 ·obtain⟨y,hy,rfl⟩:=adD.1 hx
  obtain⟨a,t,b,c⟩:=h.run y hy
  obtain⟨d,e⟩:=tickN_ri h0 h1 y.1.rs.length 0 y.1 a
  exact⟨d,t,b,c.trans e.symm⟩
 ·obtain⟨q1,q2,⟨y,q3,q4⟩,q5⟩:=h.kk x hx
  refine⟨q1,by show x.2<=((f.ax.map (sS now)).length:Int);rw[adY];exact q2,⟨sS now y,?_,q4⟩,q5⟩
  show (f.ax.map (sS now))[(x.2-1).toNat]? = _
  rw[aeI,q3];rfl
theorem op_ri {R:Rn}(h:RI R){e:Ev}{ck:Int}(h0:0<=ck)(h1:ck<=1099511627776)(hd:e.kd=4->e.dt.length<=64)(he:(nI R e ck).2=0):RI (nI R e ck).1/\(nI R e ck).1.ts=R.ts:=by
 unfold nI at he ⊢
 split
 ·rename_i q;rw[if_pos q] at he;exact lease_ri h _ _ _ h0 h1 he
 ·rename_i q3
  rw[if_neg q3] at he
  split
  ·rename_i q;rw[if_pos q] at he;exact done_ri h _ _ _ (hd q) he
  ·rename_i q4
   rw[if_neg q4] at he
   split
   ·rename_i q;rw[if_pos q] at he;exact fail_ri h _ _ _ h0 h1 he
   ·rename_i q5
    rw[if_neg q5] at he
    split
    ·rename_i q;rw[if_pos q] at he;exact signal_ri h _ he
    ·rename_i q7
     rw[if_neg q7] at he
     exact cancel_ri h he
theorem change_fi {f:Fm}(h:FI f){e:Ev}(hd:e.kd=4->e.dt.length<=64):FI (changeM f e).1:=by
 unfold changeM
 split
 ·exact h
 ·rename_i x hx
  split
  ·rename_i he
   have hm:=aaO hx
   have bD:=(aaw.1 hx).1
   obtain⟨a,t,b,c⟩:=h.run x hm
   obtain⟨d,g⟩:=op_ri a h.ck.1 h.ck.2 hd he
   refine⟨fun y hy => ?_,by show (f.ax.set _ _).length<=64;rw[adU];exact h.nr,h.nn,h.nt,h.tx,h.nd,by show _<=(f.ax.set _ _).length;rw[adU];exact h.nk,fun y hy => ?_,h.kd,h.ck⟩
   ·rcases agt hy with q | rfl
    ·exact h.run y q
    ·exact⟨d,t,b,c.trans g.symm⟩
   ·obtain⟨q1,q2,⟨z,q3,q4⟩,q5⟩:=h.kk y hy
    refine⟨q1,by show y.2<=((f.ax.set _ _).length:Int);rw[adU];exact q2,?_,q5⟩
    show ∃ w,(f.ax.set (e.rn-1).toNat ((nI x.1 e f.ck).1,x.2))[(y.2-1).toNat]? = some w/\w.2=y.1.1
    rw[ah2]
    by_cases hq:(e.rn-1).toNat=(y.2-1).toNat
    ·rw[if_pos hq,if_pos bD]
     refine⟨_,rfl,?_⟩
     rw[<-hq] at q3
     have:=ac8 (hx.symm.trans q3)
     rw[this];exact q4
    ·rw[if_neg hq];exact⟨z,q3,q4⟩
  ·exact h
theorem apply_fi {f:Fm}(h:FI f)(e:Ev):FI (tw f e).1:=by
 unfold tw
 by_cases hg:yH e=true
 ·rw[if_pos hg]
  split
  ·rename_i hk
   have:=goodE_f hg (c:=77) (by rw[hk];simp[fieldsM])
   unfold uv at this
   simp at this
   exact define_fi h this
  split
  ·rename_i vl hk
   have:=goodE_f hg (c:=75) (by rw[hk];simp[fieldsM])
   unfold uv at this
   simp at this
   exact start_fi h this
  split
  ·rename_i vl gp hk
   have:=goodE_f hg (c:=78) (by rw[hk];simp[fieldsM])
   unfold uv nc at this
   rw[if_neg (by decide),if_neg (by decide),if_neg (by decide),if_pos rfl,if_neg (by omega)] at this
   simp at this
   exact tick_fi h (by omega) this.2
  split
  ·exact h
  split
  ·exact h
  ·refine change_fi h fun hk => ?_
   have:=goodE_f hg (c:=68) (by rw[hk];simp[fieldsM])
   unfold uv at this
   rw[if_neg (by decide),if_neg (by decide),if_neg (by decide),if_neg (by decide),if_neg (by decide),if_neg (by decide),if_neg (by omega)] at this
   simpa using this
 ·rw[if_neg hg];exact h
theorem FI.sz {f:Fm}(h:FI f):SzF f:=
 ⟨by have:=h.nn;omega,by have:=h.nr;omega,by have:=h.nk;have:=h.nr;omega,fun x hx=>by
  obtain⟨hr,_⟩:=h.run x hx
  have hs:=hr.i0.ok.sm
  exact⟨by have:=hs.r;omega,by have:=hs.s;omega,by have:=hs.n;omega,fun t ht=>by have:=hs.a t ht;omega⟩⟩
theorem sameR_refl (R:Rn):zr R R=true:=by unfold zr;simp
theorem sameF_refl (f:Fm):sameF f f=true:=by
 unfold sameF
 rw[eqL_refl fun s _=>by simp[sameT],eqL_refl fun x _=>by simp[sameO,sameR_refl]]
 simp
noncomputable def allM:Fm->List Ev->Fm
 | f,[]=>f
 | f,e::r=>allM (tw f e).1 r
theorem all_fi:∀ {l:List Ev} {f:Fm},FI f->FI (allM f l)
 | [],f,h=>h
 | e::r,f,h=>all_fi (l:=r) (apply_fi h e)
theorem st_ev (e:Ev)(H:Hp):st 8 (.ptr H.next 0) (.agg (aV e)) (al H zE 26 0)=some (al H (aV e) 26 0):=iI rfl rfl rfl (by decide) rfl
theorem evs_get {l:List Ev}{i:Nat}{e:Ev}(h:l[i]? = some e):(vS l)[i]? = some (aV e):=by unfold vS;rw[aeI,h];rfl
theorem evs_len {H:Hp}{x:AV}{l:List Ev}(h:RL H 8 x (vS l)):aK x=some (.int .i64 (l.length:Nat)):=by
 have:=h.len (by decide);unfold vS at this;rwa[adY] at this
theorem all_loop {p:Nat}{x:AV}{l:List Ev}(hl:l.length<=1000):∀ (r:List Ev) (i:Nat) (H:Hp) (a:FA) (f:Fm),i<=l.length->l.drop i=r->RL H 8 x (vS l)->(∀ j∈ah x,j∉own p a)->FL H p a f->FI f->Gl H->
  ∃ a' H',(∀ j4:K.Fn 1,J0 JN GO cK j4 (.ptr p 0) x (.int .i64 (l.length:Nat)) (.int .i64 (i:Nat)) H=j4 (.ptr p 0) H')/\FL H' p a' (allM f r)/\FSt H H' p a a'
 | [],i,H,a,f,hi,h,hx,hd,hF,hI,hg=>by
  obtain rfl:=drop_nil hi h
  refine⟨a,H,fun j4 => ?_,hF,FSt.same (Out.refl _ _) p a⟩
  rw[aec]
  simp only[bl_flow_All,ez,ag,af,simprocAttr]
 | e::r,i,H,a,f,hi,h,hx,hd,hF,hI,hg=>by
  obtain⟨h1,h2,h3⟩:=eF h
  have es:=eE h1 (by omega)
  obtain⟨b,o,q1,q2,q3,q4,q5⟩:=hx.at (by decide) (evs_get h2)
  have hz:=st_ev e H
  have o1:=aG H (aV e) 26 0
  have c1:=aZ H (aV e) 26 0
  generalize bW:al H (aV e) 26 0=H1 at *
  have ek:aq H1 H.next 0 8=some (aV e):=c1.aq 8 0 (by rw[qa];omega)
  obtain⟨a',H2,u1,u2,u3⟩:=Qj (hF.ar o1) (hg.ar o1) hI.ok e
  have eL:=hx.1.lt
  obtain⟨a2,H',i1,i2,i3⟩:=all_loop hl r (i+1) H2 a' (tw f e).1 h1 h3 ((hx.ar o1).out u3.o fun j hj z=>hd j hj z) (fun j hj z=>(u3.w j z).elim (hd j hj) fun z=>by have:=eL j hj;have:=o1.1;omega) u2 (apply_fi hI e) ((hg.ar o1).out u3.o hF.lo)
  refine⟨a2,H',fun j4 => ?_,i2,((FSt.same o1 p a).trans u3).trans i3⟩
  rw[aec]
  simp(disch:=first|exact zqz|fail)only[bl_flow_All,aU h1,q1,q4,hz,bW,ek,u1,es,i1,aj,ak,ag,af,simprocAttr]
theorem all_c {x:AV}{l:List Ev}{H:Hp}(hl:l.length<=1000)(hg:Gl H)(mb:11<=H.next)(hx:RL H 8 x (vS l)) :
  ∃ p a H',cK (.func (.func 13) [] []) [x] H=some (.ptr p 0,H')/\FL H' p a (allM rj l)/\Out [] H H'/\(∀ j∈own p a,H.next<=j)/\∀ j∈DfK.dU a,H.next<=j:=by
 obtain⟨p,a,H1,n1,n2,n3,n4,n5⟩:=Xz mb
 have eL:=hx.1.lt
 have pP:=evs_len hx
 obtain⟨a',H',i1,i2,i3⟩:=all_loop hl l 0 H1 a rj (ace _) abK (hx.ar n3) (fun j hj z=>by have:=eL j hj;have:=n4 j z;omega) n2 fi0 (hg.ar n3)
 rw[show (((0:Nat):Int))=0 from rfl] at i1
 have l1:=n3.1
 refine⟨p,a',H',alP ?_,i2,n3.then i3.o fun j hj => .inr (n4 j hj),fun j hj=>(i3.w j hj).elim (n4 j) fun z=>by omega,fun j hj=>(i3.i j hj).elim (fun z=>by unfold DfK.dU at z;rw[n5] at z;cases z) fun z=>by omega⟩
 unfold Xe
 simp(disch:=first|exact zqz|fail)only[n1,pP,i1,aj,ak,ag,af,simprocAttr]
theorem heavy_c (e:Ev)(H:Hp):∃ b H',cK (.func (.func 12) [] []) [.agg (aV e)] H=some (.bool b,H')/\Out [] H H':=by
 have b1:bx 26 (.agg (aV e)) H=some (H.next,al H (aV e) 26 0):=gh (by rw[qa];omega)
 have o1:=aG H (aV e) 26 0
 have c1:=aZ H (aV e) 26 0
 generalize al H (aV e) 26 0=H1 at *
 have k5:cellAt H1 H.next 5=some (.str e.nm):=c1.cellAt rfl
 have k6:cellAt H1 H.next 6=some (.str e.ky):=c1.cellAt rfl
 have k7:cellAt H1 H.next 7=some (.str e.dt):=c1.cellAt rfl
 cases d1:decide ((40:Int)<(e.nm.length:Int)) with
 | true=>
  refine⟨true,H1,Tl ?_,o1⟩
  unfold K0
  simp(disch:=first|exact zqz|fail)only[b1,k5,k6,k7,d1,aj,ak,ag,af,simprocAttr]
 | false=>
  cases d2:decide ((40:Int)<(e.ky.length:Int)) with
  | true=>
   refine⟨true,H1,Tl ?_,o1⟩
   unfold K0
   simp(disch:=first|exact zqz|fail)only[b1,k5,k6,k7,d1,d2,aj,ak,ag,af,simprocAttr]
  | false=>
   refine⟨decide ((950:Int)<(e.dt.length:Int)),H1,Tl ?_,o1⟩
   unfold K0
   simp(disch:=first|exact zqz|fail)only[b1,k5,k6,k7,d1,d2,aj,ak,ag,af,simprocAttr]
theorem rp (n a b:Int)(H:Hp):cK (.func (.func 93) [] []) [.int .i64 n,.int .i64 a,.int .i64 b] H=some (.bool (nc n a b),H):=by
 refine aoj ?_
 unfold aeg nc
 by_cases h1:a<=n
 ·simp(disch:=first|exact zqz|fail)only[h1,ac5,aj,ak,ag,af,simprocAttr]
 ·simp(disch:=first|exact zqz|fail)only[h1,acL,aj,ak,ag,af,simprocAttr]
def Bv (t:Tk)(r:RT):Bool:=
 nc r.ph 0 5&&(nc r.tr 0 (t.cz+1)&&(!decide (64<r.oV.length)&&(!decide (r.gm<0)&&(!decide (1099511691776<r.gm)&&(((r.ph==2)||(r.ph==5))||(r.gm==0))))))
def ug (ts:List Tk)(l:List ai):ai->Nat->Bool:=fun s i => !((l.take i).any (fun a=>s==a))&&(!(s==[])&&ts.any (fun t=>t.on==s))
noncomputable def yo (R:Rn)(ts:List Tk):Bool:=
 decide ((bA ts).2=0)&&(nc R.st 0 3&&(decide (R.rs.length=ts.length)&&(zr { R with ts:=(bA ts).1.ts } R &&
  ((List.zipWith Bv ts R.rs).all id&&(List.zipWith (ug ts R.sg) R.sg (List.range R.sg.length)).all id))))
theorem aoW {ts:List Tk}{xs:List AV}{i:Nat}{t:Tk}{x:AV}(ht:ts[i]? = some t)(hx:xs[i]? = some x):(List.zipWith aF ts xs)[i]? = some (aF t x):=by rw[aeG,ht,hx]
theorem RD.cz {H:Hp}{dx:AV}{xs:List AV}{ts:List Tk}(h:RD H dx xs ts){i:Nat}{t:Tk}(ht:ts[i]? = some t):∃ b o,(∀ k,ia 6 dx (.int k i)=some (.ptr b o))/\cellAt H b (o+2)=some (.int .i64 t.cz):=by
 have hi:=(aaw.1 ht).1
 have hx:xs[i]? = some (xs[i]'(by rw[h.len];exact hi)):=aaC _
 obtain⟨b,o,q1,q2,q3,q4,q5⟩:=h.row.at (by decide) (aoW ht hx)
 exact⟨b,o,q1,q5 2 _ rfl⟩
theorem adQ {ts:List Tk}{rs:List RT}{p d:Nat}{dx tx:AV}{xs:List AV}(hlen:rs.length=ts.length)(hn:rs.length<=1000)(hq:∀ t∈ts,0<=t.cz/\t.cz<=8):∀ (r:List RT) (i:Nat) (H:Hp),i<=rs.length->rs.drop i=r->RL H 4 tx (fY rs)->RD H dx xs ts->Cs H d [dx] 72 0->
  ∃ H',(∀ lS:K.Fn 2,FF JN GO cK lS (.ptr p 0) (.ptr d 0) tx (.int .i64 (rs.length:Nat)) (.int .i64 (i:Nat)) H=if (List.zipWith Bv (ts.drop i) r).all id=true then lS (.ptr p 0) (.ptr d 0) H' else some (.bool false,H'))/\Out [] H H'
 | [],i,H,hi,h,hT,hD,hd=>by
  obtain rfl:=drop_nil hi h
  refine⟨H,fun lS => ?_,Out.refl _ _⟩
  rw[TK,List.zipWith_nil_right]
  simp only[uy,ez,List.all_nil,if_true,ag,af,simprocAttr]
 | u::r,i,H,hi,h,hT,hD,hd=>by
  obtain⟨h1,h2,h3⟩:=eF h
  have es:=eE h1 (by omega)
  obtain⟨t,ht⟩:∃ t,ts[i]? = some t:=⟨_,aaC (by omega)⟩
  obtain⟨r1,r2⟩:=hq t (aaO ht)
  have er:IntKind.wrap .i64 (t.cz+1)=t.cz+1:=wrap_i64 (by omega) (by omega)
  obtain⟨b,o,q1,q2,q3,q4,q5⟩:=hT.at (by decide) (rf h2)
  have hz:st 4 (.ptr H.next 0) (.agg (ee u)) (al H [.int .i64 0,.int .i64 0,.int .i64 0,.str []] 132 0)=some (al H (ee u) 132 0):=iI rfl rfl rfl (by decide) rfl
  have o1:=aG H (ee u) 132 0
  have c1:=aZ H (ee u) 132 0
  generalize bW:al H (ee u) 132 0=H1 at *
  have k0:cellAt H1 H.next 0=some (.int .i64 u.ph):=c1.cellAt rfl
  have k1:cellAt H1 H.next 1=some (.int .i64 u.tr):=c1.cellAt rfl
  have k2:cellAt H1 H.next 2=some (.int .i64 u.gm):=c1.cellAt rfl
  have k3:cellAt H1 H.next 3=some (.str u.oV):=c1.cellAt rfl
  have fE:=hd.out o1 (by simp)
  have AY:=hT.ar o1
  have zx:=hD.ar o1
  have kd:cellAt H1 d 0=some dx:=fE.cellAt rfl
  obtain⟨b2,o2,p1,p2⟩:=zx.cz ht
  obtain⟨H',i1,i2⟩:=adQ (p:=p) hlen hn hq r (i+1) H1 h1 h3 AY zx fE
  rw[drop_at ht,List.zipWith_cons_cons,ajU]
  have hid:∀ b:Bool,id b=b:=fun _=>rfl
  rw[hid]
  cases hM:Bv t u with
  | true=>
   unfold Bv at hM
   simp only[aaT,aj7] at hM
   obtain⟨m1,m2,m3,m4,m5,m6⟩:=hM
   have JJ:decide ((64:Int)<((u.oV.length:Nat):Int))=false:=by rw[decide_eq_false_iff_not] at m3 ⊢;omega
   refine⟨H',fun lS => ?_,o1.trans i2⟩
   rw[TK,ac5,<-i1 lS]
   cases a2:(u.ph==2) with
   | true=>simp(disch:=first|exact zqz|fail)only[uy,aU h1,q1,q4,hz,bW,k0,k1,k2,k3,kd,p1,p2,er,a2,rp,m1,m2,JJ,m4,m5,es,aj,ak,ag,af,simprocAttr]
   | false=>
    cases a5:(u.ph==5) with
    | true=>simp(disch:=first|exact zqz|fail)only[uy,aU h1,q1,q4,hz,bW,k0,k1,k2,k3,kd,p1,p2,er,a2,a5,rp,m1,m2,JJ,m4,m5,es,aj,ak,ag,af,simprocAttr]
    | false=>
     rw[a2,a5,Bool.or_false,akA,beq_iff_eq] at m6
     have m6':(u.gm != 0)=false:=by simp[m6]
     simp(disch:=first|exact zqz|fail)only[uy,aU h1,q1,q4,hz,bW,k0,k1,k2,k3,kd,p1,p2,er,a2,a5,rp,m1,m2,JJ,m4,m5,m6',es,aj,ak,ag,af,simprocAttr]
  | false=>
   refine⟨H1,fun lS => ?_,o1⟩
   rw[TK,acL,if_neg (by decide)]
   unfold Bv at hM
   have key:∀ c2 c5:Bool,(u.ph==2)=c2->(u.ph==5)=c5->uy JN GO cK lS (FF JN GO cK lS) (.ptr p 0) (.ptr d 0) tx (.int .i64 (rs.length:Nat)) (.int .i64 (i:Nat)) H=some (.bool false,H1):=by
    intro c2 c5 a2 a5
    cases m1:nc u.ph 0 5 with
    | false=>cases c2<;>cases c5<;>simp(disch:=first|exact zqz|fail)only[uy,aU h1,q1,q4,hz,bW,k0,k1,k2,k3,kd,p1,p2,er,a2,a5,rp,m1,es,aj,ak,ag,af,simprocAttr]
    | true=>
    cases m2:nc u.tr 0 (t.cz+1) with
    | false=>cases c2<;>cases c5<;>simp(disch:=first|exact zqz|fail)only[uy,aU h1,q1,q4,hz,bW,k0,k1,k2,k3,kd,p1,p2,er,a2,a5,rp,m1,m2,es,aj,ak,ag,af,simprocAttr]
    | true=>
    cases m3:decide ((64:Int)<((u.oV.length:Nat):Int)) with
    | true=>cases c2<;>cases c5<;>simp(disch:=first|exact zqz|fail)only[uy,aU h1,q1,q4,hz,bW,k0,k1,k2,k3,kd,p1,p2,er,a2,a5,rp,m1,m2,m3,es,aj,ak,ag,af,simprocAttr]
    | false=>
    have JJ:decide (64<u.oV.length)=false:=by rw[decide_eq_false_iff_not] at m3 ⊢;omega
    cases m4:decide (u.gm<0) with
    | true=>cases c2<;>cases c5<;>simp(disch:=first|exact zqz|fail)only[uy,aU h1,q1,q4,hz,bW,k0,k1,k2,k3,kd,p1,p2,er,a2,a5,rp,m1,m2,m3,m4,es,aj,ak,ag,af,simprocAttr]
    | false=>
    cases m5:decide (1099511691776<u.gm) with
    | true=>cases c2<;>cases c5<;>simp(disch:=first|exact zqz|fail)only[uy,aU h1,q1,q4,hz,bW,k0,k1,k2,k3,kd,p1,p2,er,a2,a5,rp,m1,m2,m3,m4,m5,es,aj,ak,ag,af,simprocAttr]
    | false=>
     rw[m1,m2,JJ,m4,m5,a2,a5] at hM
     cases c2 with
     | true=>cases hM
     | false=>
      cases c5 with
      | true=>cases hM
      | false=>
       have m6:(u.gm != 0)=true:=by
        rw[bne,aj7];simpa using hM
       simp(disch:=first|exact zqz|fail)only[uy,aU h1,q1,q4,hz,bW,k0,k1,k2,k3,kd,p1,p2,er,a2,a5,rp,m1,m2,m3,m4,m5,m6,es,aj,ak,ag,af,simprocAttr]
   exact key _ _ rfl rfl
theorem aqY {t:Tk}{x:AV}{s:ai}{p:Nat}{H:Hp}(hp:cellAt H p 0=some (.str s))(jy:p<H.next) :
  ∃ H',cK (.func (.func 96) [] [.ptr p 0]) [.agg (aF t x)] H=some (.bool (t.on==s),H')/\Out [] H H':=by
 have o1:=aG H (aF t x) 99 0
 have c1:=aZ H (aF t x) 99 0
 have b1:=uk t x H
 generalize al H (aF t x) 99 0=H1 at *
 obtain⟨e0,e1,e2,e3,e4,e5⟩:=sw t x
 have k5:=c1.cellAt e5
 have kp:cellAt H1 p 0=some (.str s):=by rw[o1.cellAt jy (by simp)];exact hp
 refine⟨H1,ahn ?_,o1⟩
 unfold afl
 simp(disch:=first|exact zqz|fail)only[b1,k5,kp,aj,ak,ag,af,simprocAttr]
def WV (s:ai)(c:List AV):Bool:=match c[5]? with | some (AV.str a)=>a==s | _=>false
theorem Xu (s:ai):∀ (ts:List Tk) (xs:List AV),xs.length=ts.length->(List.zipWith aF ts xs).any (WV s)=ts.any (fun t=>t.on==s)
 | [],_,_=>rfl
 | t::ts,[],h=>by simp at h
 | t::ts,x::xs,h=>by
  rw[List.zipWith_cons_cons,List.any_cons,List.any_cons,Xu s ts xs (by simpa using h)];rfl
theorem ZF {ts:List Tk}{sg:List ai}{p d:Nat}{dx sx:AV}{xs:List AV}{F:List AV}(hF:F[3]? = some sx)(hn:sg.length<=1000)(htn:ts.length<=1000):∀ (r:List ai) (i:Nat) (H:Hp),i<=sg.length->sg.drop i=r->Rw H 1 sx (strs sg)->RD H dx xs ts->Cs H d [dx] 72 0->Cs H p F 75 0->
  ∃ H',(∀ mg:K.Fn 0,Hs JN GO cK mg (.ptr p 0) (.ptr d 0) sx (.int .i64 (sg.length:Nat)) (.int .i64 (i:Nat)) H=if (List.zipWith (ug ts sg) r ((List.range sg.length).drop i)).all id=true then mg H' else some (.bool false,H'))/\Out [] H H'
 | [],i,H,hi,h,hS,hD,hd,hp=>by
  obtain rfl:=drop_nil hi h
  refine⟨H,fun mg => ?_,Out.refl _ _⟩
  rw[JP,List.zipWith_nil_left]
  simp only[Ca,ez,List.all_nil,if_true,ag,af,simprocAttr]
 | s::r,i,H,hi,h,hS,hD,hd,hp=>by
  obtain⟨h1,h2,h3⟩:=eF h
  have es:=eE h1 (by omega)
  obtain⟨q,q1,q2⟩:=hS.gw (nE h2) .i64
  have hz:st 1 (.ptr H.next 0) (.str s) (al H [.str []] 9 0)=some (al H [.str s] 9 0):=Oh (l:=[.str []]) rfl rfl (by decide) (by decide)
  have o1:=aG H [.str s] 9 0
  have c1:=aZ H [.str s] 9 0
  have n1:(al H [.str s] 9 0).next=H.next+1:=rfl
  generalize bW:al H [.str s] 9 0=H1 at *
  have ks:cellAt H1 H.next 0=some (.str s):=c1.cellAt rfl
  have fE:=hd.out o1 (by simp)
  have Q7:=hp.out o1 (by simp)
  have Ga:=hS.ar o1
  have zx:=hD.ar o1
  have kd:cellAt H1 d 0=some dx:=fE.cellAt rfl
  have kp:cellAt H1 p 3=some sx:=Q7.cellAt hF
  obtain⟨ur,s1,s2,s3⟩:=ET (n:=sg.length) Ga (by rw[gB,ahD]) (by decide) (a:=0) (b:=i) (lo:=none) (hi:=some (.int .i64 (i:Nat))) (ace _) hi (Bd.no 0) (Bd.yes _ _ _)
  have pG:((strs sg).drop (0*1)).take ((i-0)*1)=strs (sg.take i):=by simp[strs,List.map_take]
  rw[pG] at s2
  have mA:=Va s2 (by rw[afs];omega) s
  have hr:(List.range sg.length)[i]? = some i:=by rw[List.getElem?_range];simp[h1]
  rw[drop_at hr,List.zipWith_cons_cons,ajU]
  have hid:∀ b:Bool,id b=b:=fun _=>rfl
  rw[hid]
  cases c3:((sg.take i).any (fun a=>s==a)) with
  | true=>
   have hM:ug ts sg s i=false:=by unfold ug;rw[c3];rfl
   refine⟨H1,fun mg => ?_,o1⟩
   rw[JP,hM,acL,if_neg (by decide)]
   simp(disch:=first|exact zqz|fail)only[Ca,aU h1,q1,q2,hz,bW,ks,kp,s1,mA,c3,aj,ak,ag,af,simprocAttr]
  | false=>
   cases c4:(s==[]) with
   | true=>
    have hM:ug ts sg s i=false:=by unfold ug;rw[c3,c4];rfl
    refine⟨H1,fun mg => ?_,o1⟩
    rw[JP,hM,acL,if_neg (by decide)]
    simp(disch:=first|exact zqz|fail)only[Ca,aU h1,q1,q2,hz,bW,ks,kp,s1,mA,c3,c4,aj,ak,ag,af,simprocAttr]
   | false=>
    obtain⟨H2,t1,t2⟩:=adI (fv := .func (.func 96) [] [.ptr H.next 0]) (p:=WV s) zx.row (by rw[agM,zx.len,Nat.min_self];omega) (fun H' k c hc=>by
     obtain⟨j,hj⟩:=adR hc
     rw[aeG] at hj
     cases ht:ts[j]? with
     | none=>rw[ht] at hj;cases hj
     | some t=>
      cases hx:xs[j]? with
      | none=>rw[ht,hx] at hj;cases hj
      | some x=>
       rw[ht,hx] at hj
       obtain rfl:=ac8 hj
       have jy:H.next<H1.next:=by omega
       exact aqY (by rw[k.cellAt jy (by simp)];exact ks) (aew jy k.1))
    rw[Xu s ts xs zx.len] at t1
    have bR:=o1.trans t2
    cases c5:ts.any (fun t=>t.on==s) with
    | false=>
     have hM:ug ts sg s i=false:=by unfold ug;rw[c3,c4,c5];rfl
     rw[c5] at t1
     refine⟨H2,fun mg => ?_,bR⟩
     rw[JP,hM,acL,if_neg (by decide)]
     simp(disch:=first|exact zqz|fail)only[Ca,aU h1,q1,q2,hz,bW,ks,kp,kd,s1,mA,c3,c4,t1,aj,ak,ag,af,simprocAttr]
    | true=>
     have hM:ug ts sg s i=true:=by unfold ug;rw[c3,c4,c5];rfl
     rw[c5] at t1
     obtain⟨H',i1,i2⟩:=ZF (p:=p) (d:=d) hF hn htn r (i+1) H2 h1 h3 (Ga.ar t2) (zx.ar t2) (fE.out t2 (by simp)) (Q7.out t2 (by simp))
     refine⟨H',fun mg => ?_,bR.trans i2⟩
     rw[JP,hM,ac5,<-i1 mg]
     simp(disch:=first|exact zqz|fail)only[Ca,aU h1,q1,q2,hz,bW,ks,kp,kd,s1,mA,c3,c4,t1,es,aj,ak,ag,af,simprocAttr]
theorem TJ {ts:List Tk}(h:(bA ts).2=0):(bA ts).1.ts=ts:=by
 unfold bA at h ⊢
 by_cases hg:iF ts=0
 ·rw[if_pos hg];rfl
 ·rw[if_neg hg] at h;exact absurd h hg
theorem aiu {H:Hp}{dx tx sx ex:AV}{xs ys:List AV}{R:Rn}{ts:List Tk}(hR:RV H dx xs tx sx R)(hD:RD H ex ys ts)(hn:ts.length<=1000)(dh:∀ t∈ts,t.after.length<=1000)(hq:∀ t∈ts,0<=t.cz/\t.cz<=8)(hr:R.rs.length<=1000)(hg:R.sg.length<=1000) :
  ∃ H',cK (.func (.func 57) [] []) [.agg (rv dx R.st tx sx),dv ex] H=some (.bool (yo R ts),H')/\Out [] H H':=by
 have b1:bx 75 (.agg (rv dx R.st tx sx)) H=some (H.next,al H (rv dx R.st tx sx) 75 0):=gh (by simp)
 have o1:=aG H (rv dx R.st tx sx) 75 0
 have c1:=aZ H (rv dx R.st tx sx) 75 0
 have n1:(al H (rv dx R.st tx sx) 75 0).next=H.next+1:=rfl
 generalize al H (rv dx R.st tx sx) 75 0=H1 at *
 have b2:bx 72 (dv ex) H1=some (H.next+1,al H1 [ex] 72 0):=by rw[<-n1];exact gh (by simp)
 have o2:=aG H1 [ex] 72 0
 have c2:=aZ H1 [ex] 72 0
 have n2:(al H1 [ex] 72 0).next=H.next+2:=by rw[cu,n1]
 rw[n1] at c2
 generalize bV:al H1 [ex] 72 0=H2 at *
 have bR:=o1.trans o2
 have kl:aq H2 (H.next+1) 0 1=some [ex]:=c2.aq 1 0 (by simp)
 obtain⟨fx,fs,gx,gs,H3,r1,r2,r3,r4⟩:=Vj (hD.ar bR) hn dh
 have hz:st 4 (.ptr H3.next 0) (.agg (rv fx (bA ts).1.st gx gs)) (al H3 zR 75 0)=some (al H3 (rv fx (bA ts).1.st gx gs) 75 0):=iI (by simp[r2.v.d.row.one,r2.t.rl.one,r2.s.kC,jN]) rfl rfl (by decide) rfl
 have o4:=aG H3 (rv fx (bA ts).1.st gx gs) 75 0
 have c4:=aZ H3 (rv fx (bA ts).1.st gx gs) 75 0
 have n3:=r3.1
 have AW:=(bR.trans r3).trans o4
 generalize hA4:al H3 (rv fx (bA ts).1.st gx gs) 75 0=H4 at *
 have cp:=((c1.out o2 (by simp)).out r3 (by simp)).out o4 (by simp)
 have cd:=(c2.out r3 (by simp)).out o4 (by simp)
 have k1:cellAt H4 H.next 1=some (.int .i64 R.st):=cp.cellAt rfl
 have k2:cellAt H4 H.next 2=some tx:=cp.cellAt rfl
 have k3:cellAt H4 H.next 3=some sx:=cp.cellAt rfl
 have kd:cellAt H4 (H.next+1) 0=some ex:=cd.cellAt rfl
 have lt:=hR.t.len (by decide)
 rw[AZ] at lt
 have le:=hD.aK
 unfold yo
 by_cases he:(bA ts).2=0
 rotate_left
 ·have d0:((bA ts).2 != 0)=true:=by simp[he]
  rw[decide_eq_false he]
  refine⟨H4,FD ?_,AW⟩
  unfold Bc
  simp(disch:=first|exact zqz|fail)only[b1,n1,b2,bV,kl,r1,hz,hA4,d0,acL,aj,ak,ag,af,simprocAttr]
 have d0:((bA ts).2 != 0)=false:=by simp[he]
 rw[decide_eq_true he,ac5]
 cases m1:nc R.st 0 3 with
 | false=>
  refine⟨H4,FD ?_,AW⟩
  unfold Bc
  simp(disch:=first|exact zqz|fail)only[b1,n1,b2,bV,kl,r1,hz,hA4,d0,k1,rp,m1,acL,aj,ak,ag,af,simprocAttr]
 | true=>
 by_cases hl:R.rs.length=ts.length
 rotate_left
 ·have d1:(((R.rs.length:Nat):Int) != ((ts.length:Nat):Int))=true:=by simp;omega
  rw[decide_eq_false hl]
  refine⟨H4,FD ?_,AW⟩
  unfold Bc
  simp(disch:=first|exact zqz|fail)only[b1,n1,b2,bV,kl,r1,hz,hA4,d0,k1,k2,kd,lt,le,rp,m1,d1,acL,ac5,aj,ak,ag,af,simprocAttr]
 have d1:(((R.rs.length:Nat):Int) != ((ts.length:Nat):Int))=false:=by simp[hl]
 rw[decide_eq_true hl,ac5,ac5]
 have hN:∀ j,j∈[H3.next]->H.next<=j:=kf (by omega)
 have Vw:H.next∉[H3.next]:=by rw[No];omega
 have UT:H.next+1∉[H3.next]:=by rw[No];omega
 obtain⟨H5,u1,u2,u3,u4⟩:=fP c4 (by decide) (o:=1) (by simp) (v := .int .i64 R.st) rfl
 obtain⟨H6,v1,v2,v3,v4⟩:=fP u2 (by decide) (o:=2) (by simp) (v:=tx) hR.t.one
 obtain⟨H7,w1,w2,w3,w4⟩:=fP v2 (by decide) (o:=3) (by simp) (v:=sx) hR.s.one
 have e9:(((rv fx (bA ts).1.st gx gs).set 1 (.int .i64 R.st)).set 2 tx).set 3 sx=rv fx R.st tx sx:=rfl
 rw[e9] at w2
 have Ql:=cp.out u3 Vw
 have Wl:=Ql.out v3 Vw
 have Zn:=Wl.out w3 Vw
 have cd7:=((cd.out u3 UT).out v3 UT).out w3 UT
 have yE:cellAt H5 H.next 2=some tx:=Ql.cellAt rfl
 have tM:cellAt H5 H.next 3=some sx:=Ql.cellAt rfl
 have vh:cellAt H6 H.next 3=some sx:=Wl.cellAt rfl
 have f7:aq H7 H3.next 0 4=some (rv fx R.st tx sx):=w2.aq 4 0 (by simp)
 have p7:aq H7 H.next 0 4=some (rv dx R.st tx sx):=Zn.aq 4 0 (by simp)
 have o7:Out [] H H7:=fD (fD (fD AW u3 hN) v3 hN) w3 hN
 have HY:=hR.ar o7
 have Wp:=hD.ar o7
 have hX:RV H7 fx fs tx sx { R with ts:=(bA ts).1.ts }:=by
  refine⟨?_,HY.t,HY.s⟩
  have fr:∀ j∈lU fx fs,j∉[H3.next]:=fun j hj=>by
   rw[No];have:=r2.v.d.lt j hj;omega
  exact (((r2.v.d.ar o4).out u3 fr).out v3 fr).out w3 fr
 have nJ:=TJ he
 obtain⟨H8,s1,s2⟩:=Zs (R:={ R with ts:=(bA ts).1.ts }) (S:=R) (by show R.rs.length<=_;omega) (by show R.sg.length<=_;omega) (by show (bA ts).1.ts.length<=_;rw[nJ];omega) (by show ∀ t∈(bA ts).1.ts,_;rw[nJ];exact fun t ht=>by have:=dh t ht;omega) hX HY
 have Al:cK (.func (.func 36) [] []) [.agg (rv fx R.st tx sx),.agg (rv dx R.st tx sx)] H7=some (.bool (zr { R with ts:=(bA ts).1.ts } R),H8):=s1
 have o8:=o7.trans s2
 cases m2:zr { R with ts:=(bA ts).1.ts } R with
 | false=>
  rw[m2] at Al
  refine⟨H8,FD ?_,o8⟩
  unfold Bc
  simp(disch:=first|exact zqz|fail)only[b1,n1,b2,bV,kl,r1,hz,hA4,d0,k1,k2,k3,kd,lt,le,rp,m1,d1,u1,v1,w1,yE,tM,vh,ft (oe hR.t.1),ft (oe hR.s),f7,p7,Al,acL,ac5,aj,ak,ag,af,simprocAttr]
 | true=>
 rw[m2] at Al
 have cp8:=Zn.out s2 (by simp)
 have WS:=cd7.out s2 (by simp)
 have A6:cellAt H8 H.next 2=some tx:=cp8.cellAt rfl
 obtain⟨H9,i1,i2⟩:=adQ (p:=H.next) (d:=H.next+1) hl hr hq R.rs 0 H8 (ace _) abK (HY.t.ar s2) (Wp.ar s2) WS
 rw[show (((0:Nat):Int))=0 from rfl,abK] at i1
 have o9:=o8.trans i2
 have Yv:=cp8.out i2 (by simp)
 have Eh:cellAt H9 H.next 3=some sx:=Yv.cellAt rfl
 cases m3:(List.zipWith Bv ts R.rs).all id with
 | false=>
  simp only[m3,abH,if_false] at i1
  refine⟨H9,FD ?_,o9⟩
  unfold Bc
  simp(disch:=first|exact zqz|fail)only[b1,n1,b2,bV,kl,r1,hz,hA4,d0,k1,k2,k3,kd,lt,le,rp,m1,d1,u1,v1,w1,yE,tM,vh,ft (oe hR.t.1),ft (oe hR.s),f7,p7,Al,A6,i1,acL,ac5,aj,ak,ag,af,simprocAttr]
 | true=>
 simp only[m3,if_true] at i1
 have ls:=hR.s.jn
 rw[gB] at ls
 obtain⟨uL,j1,j2⟩:=ZF (p:=H.next) (d:=H.next+1) (F:=rv dx R.st tx sx) rfl hg hn R.sg 0 H9 (ace _) abK ((HY.s.ar s2).ar i2) ((Wp.ar s2).ar i2) (WS.out i2 (by simp)) Yv
 rw[show (((0:Nat):Int))=0 from rfl,abK] at j1
 refine⟨uL,FD ?_,o9.trans j2⟩
 unfold Bc
 cases m4:(List.zipWith (ug ts R.sg) R.sg (List.range R.sg.length)).all id with
 | false=>
  simp only[m4,abH,if_false] at j1
  simp(disch:=first|exact zqz|fail)only[b1,n1,b2,bV,kl,r1,hz,hA4,d0,k1,k2,k3,kd,lt,le,ls,rp,m1,d1,u1,v1,w1,yE,tM,vh,ft (oe hR.t.1),ft (oe hR.s),f7,p7,Al,A6,i1,Eh,j1,Bool.and_false,ac5,aj,ak,ag,af,simprocAttr]
 | true=>
  simp only[m4,if_true] at j1
  simp(disch:=first|exact zqz|fail)only[b1,n1,b2,bV,kl,r1,hz,hA4,d0,k1,k2,k3,kd,lt,le,ls,rp,m1,d1,u1,v1,w1,yE,tM,vh,ft (oe hR.t.1),ft (oe hR.s),f7,p7,Al,A6,i1,Eh,j1,ac5,aj,ak,ag,af,simprocAttr]
structure SS where
 ck:Int
 bf:List ai
 bK:List ai
 rs:List Rn
 iB:List ai
 ks:List Ke
structure SA where
 nx:AV
 tx:AV
 rx:AV
 ox:AV
 kx:AV
 bC:List RA
def jt (a:SA)(S:SS):List AV:=[.int .i64 S.ck,a.nx,a.tx,a.rx,a.ox,a.kx]
def lE (r:RA)(R:Rn):List AV:=rv r.dx R.st r.tx r.sx
structure SV (N:Nat)(H:Hp)(a:SA)(S:SS):Prop where
 n:Rw H 1 a.nx (strs S.bf)
 t:Rw H 1 a.tx (strs S.bK)
 r:RL H 4 a.rx (List.zipWith lE a.bC S.rs)
 v:∀ (i:Nat) (r:RA) (R:Rn),a.bC[i]? = some r->S.rs[i]? = some R->RV H r.dx r.xs r.tx r.sx R
 len:a.bC.length=S.rs.length
 o:Rw H 1 a.ox (strs S.iB)
 k:RL H 3 a.kx (S.ks.map gj)
 b:∀ j,(j∈ah a.nx\/j∈ah a.tx\/j∈ah a.rx\/j∈ah a.ox\/j∈ah a.kx\/j∈a.bC.flatMap RA.fp)->j<N
theorem SV.out {N:Nat}{H H':Hp}{a:SA}{S:SS}{T:List Nat}(h:SV N H a S)(k:Out T H H')(hs:∀ j∈T,N<=j):SV N H' a S:=by
 have q:∀ j,j<N->j∉T:=fun j hj hm=>by have:=hs j hm;omega
 exact⟨h.n.out k fun j hj=>q j (h.b j (.inl hj)),h.t.out k fun j hj=>q j (h.b j (.inr (.inl hj))),h.r.out k fun j hj=>q j (h.b j (.inr (.inr (.inl hj)))),
  fun i r R hr hR=>(h.v i r R hr hR).out k fun j hj=>q j (h.b j (.inr (.inr (.inr (.inr (.inr (ahi.2 ⟨r,aaO hr,hj⟩))))))),h.len,h.o.out k fun j hj=>q j (h.b j (.inr (.inr (.inr (.inl hj))))),h.k.out k fun j hj=>q j (h.b j (.inr (.inr (.inr (.inr (.inl hj)))))),h.b⟩
theorem SV.ar {N:Nat}{H H':Hp}{a:SA}{S:SS}(h:SV N H a S)(k:Out [] H H'):SV N H' a S:=h.out k fun _ q=>by cases q
theorem agJ {text:ai}{dx:AV}{xs:List AV}{H:Hp}(hg:Gl H)(h:RD H dx xs (aM text).1):∃ H',cK (.func (.func 55) [] []) [dv dx] H=some (.str (lM (aM text).1),H')/\Out [] H H':=by
 by_cases hp:(aM text).2=0
 ·have jC:=Qi hp
  exact Yu hg jC.2.1 jC.2.2.1 jC.2.2.2.1 jC.1 h
 ·have h0:=S0 hp
  rw[h0] at h ⊢
  have hg0:iF []≠0:=by unfold iF;simp
  have hs:lM []=[]:=by unfold lM;rw[if_neg hg0]
  have aN:bx 72 (dv dx) H=some (H.next,al H [dx] 72 0):=gh (by simp)
  have o1:=aG H [dx] 72 0
  have c1:=aZ H [dx] 72 0
  generalize hA:al H [dx] 72 0=H1 at *
  have k1:aq H1 H.next 0 1=some [dx]:=c1.aq 1 0 (by simp)
  obtain⟨H2,g1,g2⟩:=N7 (ts:=[]) (ace _) (fun t ht=>by cases ht) (h.ar o1)
  have d:(iF [] != 0)=true:=by simp[hg0]
  refine⟨H2,Wt ?_,o1.trans g2⟩
  unfold KM
  simp(disch:=first|exact zqz|fail)only[aN,hA,k1,g1,d,hs,aj,ak,ag,af,simprocAttr]
noncomputable def mF:Fm->List (ai × ai)->Option Fm
 | f,[]=>some f
 | f,x::r=>if tP x.1=true/\lM (aM x.2).1=x.2/\(nM f x.1 x.2).2=0 then mF (nM f x.1 x.2).1 r else none
theorem ats {f:Fm}{s t:ai}(hn:f.bf.length<=16):(nM f s t).1.bf.length<=16:=by
 unfold nM
 split
 ·exact hn
 ·split
  ·exact hn
  ·split
   ·exact hn
   ·rename_i h
    show (f.bf++[s]).length<=16
    rw[abj];simp;omega
theorem aeM {α β:Type}{l:List α}{m:List β}{i:Nat}{x:α × β}(h:(l.zip m)[i]? = some x):l[i]? = some x.1/\m[i]? = some x.2:=by
 rw[List.getElem?_zip_eq_some] at h;exact h
theorem Mw (s:ai):same (.str s) (.str s)=true:=by simp[same,pL]
theorem acY {sp p:Nat}{sa:SA}{S:SS}(hl:S.bf.length=S.bK.length)(hn:S.bf.length<=1000):∀ (r:List (ai × ai)) (i:Nat) (H:Hp) (a:FA) (f:Fm),i<=S.bf.length->(S.bf.zip S.bK).drop i=r->SV sp H sa S->Cs H sp (jt sa S) 50 0->FL H p a f->Gl H->(∀ j∈own p a,sp<j)->f.bf.length<=16->
  ∃ a' H',(∀ iy:K.Fn 2,C7 JN GO cK iy (.ptr sp 0) (.ptr p 0) sa.nx (.int .i64 (S.bf.length:Nat)) (.int .i64 (i:Nat)) H=match mF f r with | none=>some (.tuple [.dR,.int .i64 2],H') | some _=>iy (.ptr sp 0) (.ptr p 0) H')/\∀ f',mF f r=some f'->FL H' p a' f'/\FSt H H' p a a'/\f'.bf.length<=16
 | [],i,H,a,f,hi,h,hS,hc,hF,hg,ho,kB=>by
  have p9:(S.bf.zip S.bK).length=S.bf.length:=by rw[List.length_zip];omega
  obtain rfl:=(drop_nil (by omega) h).trans p9
  refine⟨a,H,fun iy => ?_,fun f' h' => ?_⟩
  ·rw[abG]
   simp only[AI,ez,mF,ag,af,simprocAttr]
  ·cases h';exact⟨hF,FSt.same (Out.refl _ _) p a,kB⟩
 | x::r,i,H,a,f,hi,h,hS,hc,hF,hg,ho,kB=>by
  have p9:(S.bf.zip S.bK).length=S.bf.length:=by rw[List.length_zip];omega
  obtain⟨h1,h2,h3⟩:=eF h
  rw[p9] at h1
  obtain⟨hs,ht⟩:=aeM h2
  have es:=eE h1 (by omega)
  obtain⟨q,q1,q2⟩:=hS.n.gw (nE hs) .i64
  have kt:cellAt H sp 2=some sa.tx:=hc.cellAt rfl
  obtain⟨w,w1,w2⟩:=hS.t.gw (nE ht) .i64
  obtain⟨dx,xs,H2,p1,p2,p3,p4⟩:=parse_c0 (text:=x.2) hg
  have fE:=p2.row.one
  have o3:=aG H2 [dx] 72 0
  have c3:=aZ H2 [dx] 72 0
  have aA:st 1 (.ptr H2.next 0) (dv dx) (al H2 [.ae] 72 0)=some (al H2 [dx] 72 0):=iI (by simp[fE]) rfl rfl (by decide) rfl
  generalize jm:al H2 [dx] 72 0=H3 at *
  have fu:=p3.trans o3
  have k3:aq H3 H2.next 0 1=some [dx]:=c3.aq 1 0 (by simp)
  obtain⟨H4,s1,s2⟩:=agJ (hg.ar fu) (p2.ar o3)
  have gk:=fu.trans s2
  have Um:=hS.ar fu
  have Ws:=hS.ar gk
  have hc3:=hc.out fu (by simp)
  have JY:=hc.out gk (by simp)
  have D9:cellAt H3 sp 2=some sa.tx:=hc3.cellAt rfl
  have B4:cellAt H4 sp 2=some sa.tx:=JY.cellAt rfl
  obtain⟨w',u1,u2⟩:=Um.t.gw (nE ht) .i64
  have e1:w'=w:=by rw[u1] at w1;exact ac8 w1
  subst e1
  obtain⟨QS,v1,v2⟩:=Ws.t.gw (nE ht) .i64
  have e2:QS=w':=by rw[v1] at u1;exact ac8 u1
  subst e2
  obtain⟨a',H5,d1,d2,d3⟩:=afq (hF.ar gk) (hg.ar gk) kB x.1 x.2
  have xK:=JS x.1 H3
  have Q0:=oe hS.t
  have base:∀ (iy:K.Fn 2),C7 JN GO cK iy (.ptr sp 0) (.ptr p 0) sa.nx (.int .i64 (S.bf.length:Nat)) (.int .i64 (i:Nat)) H=AI JN GO cK iy (C7 JN GO cK iy) (.ptr sp 0) (.ptr p 0) sa.nx (.int .i64 (S.bf.length:Nat)) (.int .i64 (i:Nat)) H:=fun iy=>abG cK iy _ _ _ _ _ H
  cases m1:tP x.1 with
  | false=>
   rw[m1] at xK
   have hM:mF f (x::r)=none:=by unfold mF;rw[if_neg (by rw[m1];simp)]
   refine⟨a,H3,fun iy => ?_,fun f' h'=>by rw[hM] at h';cases h'⟩
   rw[base,hM]
   simp(disch:=first|exact zqz|fail)only[AI,aU h1,q1,q2,kt,w1,w2,p1,aA,jm,xK,aj,ak,ag,af,simprocAttr]
  | true=>
  rw[m1] at xK
  cases m2:(lM (aM x.2).1==x.2) with
  | false=>
   have hM:mF f (x::r)=none:=by unfold mF;rw[if_neg (fun z=>by rw[z.2.1] at m2;simp at m2)]
   refine⟨a,H4,fun iy => ?_,fun f' h'=>by rw[hM] at h';cases h'⟩
   rw[base,hM]
   simp(disch:=first|exact zqz|fail)only[AI,aU h1,q1,q2,kt,w1,w2,p1,aA,jm,xK,k3,s1,D9,B4,u1,u2,v1,v2,m2,ft Q0,ft (Mw _),aj,ak,ag,af,simprocAttr]
  | true=>
  have m2':lM (aM x.2).1=x.2:=by simpa using m2
  by_cases m3:(nM f x.1 x.2).2=0
  ·have d0:((nM f x.1 x.2).2 != 0)=false:=by simp[m3]
   have hM:mF f (x::r)=mF (nM f x.1 x.2).1 r:=by
    conv=>lhs;unfold mF
    rw[if_pos ⟨m1,m2',m3⟩]
   have gI:∀ j∈own p a',sp<j:=fun j hj=>(d3.w j hj).elim (ho j) fun z=>by have:=JY.1;omega
   have hle:∀ j∈own p a,sp<=j:=fun j hj=>Nat.le_of_lt (ho j hj)
   have aH:sp∉own p a:=fun z=>by have:=ho _ z;omega
   obtain⟨a2,H',i1,i2⟩:=acY hl hn r (i+1) H5 a' _ h1 h3 (Ws.out d3.o hle) (JY.out d3.o aH) d2 ((hg.ar gk).out d3.o (hF.ar gk).lo) gI (ats kB)
   refine⟨a2,H',fun iy => ?_,fun f' h' => ?_⟩
   ·rw[base,hM,<-i1 iy]
    simp(disch:=first|exact zqz|fail)only[AI,aU h1,q1,q2,kt,w1,w2,p1,aA,jm,xK,k3,s1,D9,B4,u1,u2,v1,v2,m2,d1,d0,ft Q0,ft (Mw _),es,aj,ak,ag,af,simprocAttr]
   ·rw[hM] at h'
    obtain⟨z1,z2,z3⟩:=i2 f' h'
    exact⟨z1,FSt.end gk (d3.trans z2),z3⟩
  ·have d0:((nM f x.1 x.2).2 != 0)=true:=by simp[m3]
   have hM:mF f (x::r)=none:=by unfold mF;rw[if_neg (fun z=>m3 z.2.2)]
   refine⟨a,H5,fun iy => ?_,fun f' h'=>by rw[hM] at h';cases h'⟩
   rw[base,hM]
   simp(disch:=first|exact zqz|fail)only[AI,aU h1,q1,q2,kt,w1,w2,p1,aA,jm,xK,k3,s1,D9,B4,u1,u2,v1,v2,m2,d1,d0,ft Q0,ft (Mw _),aj,ak,ag,af,simprocAttr]
theorem ady {H:Hp}{dx tx sx:AV}{xs:List AV}{R:Rn}(h:RV H dx xs tx sx R)(hs:Sm R) :
  ∃ av a8 au ay H',cK (.func (.func 58) [] []) [.agg (rv dx R.st tx sx)] H=some (.agg (rv av R.st au ay),H')/\RO H' av a8 au ay R/\Out [] H H'/\∀ j∈nP av a8 au ay,H.next<=j:=by
 have aN:bx 75 (.agg (rv dx R.st tx sx)) H=some (H.next,al H (rv dx R.st tx sx) 75 0):=gh (by simp)
 have o1:=aG H (rv dx R.st tx sx) 75 0
 have c1:=aZ H (rv dx R.st tx sx) 75 0
 have n1:(al H (rv dx R.st tx sx) 75 0).next=H.next+1:=rfl
 generalize al H (rv dx R.st tx sx) 75 0=H1 at *
 have o2:=aG H1 zR 75 0
 have c2:=aZ H1 zR 75 0
 have n2:(al H1 zR 75 0).next=H.next+2:=by rw[cu,n1]
 rw[n1] at c2
 generalize bV:al H1 zR 75 0=H2 at *
 have bR:=o1.trans o2
 have k4:aq H2 H.next 0 4=some (rv dx R.st tx sx):=(c1.out o2 (by simp)).aq 4 0 (by simp)
 obtain⟨av,a8,au,ay,H3,r1,r2,r3,r4⟩:=Bp (h.ar bR) hs
 obtain⟨H4,s1,s2,s3,s4⟩:=gO (n:=4) (vs:=rv av R.st au ay) (c2.out r3 (by simp)) rfl rfl (by simp[r2.v.d.row.one,r2.t.rl.one,r2.s.kC,jN])
 have k5:aq H4 (H.next+1) 0 4=some (rv av R.st au ay):=s2.aq 4 0 (by simp)
 refine⟨av,a8,au,ay,H4,atf ?_,r2.out s3 fun j hj=>by rw[No];have:=r4 j hj;omega,fD (bR.trans r3) s3 (kf (ahU _)),fun j hj=>by have:=r4 j hj;omega⟩
 unfold ZE
 simp(disch:=first|exact zqz|fail)only[aN,n1,bV,k4,r1,s1,k5,aj,ak,ag,af,simprocAttr]
theorem avj {rs:List RA}{l:List Rn}{i:Nat}{r:RA}{R:Rn}(hr:rs[i]? = some r)(hx:l[i]? = some R):(List.zipWith lE rs l)[i]? = some (lE r R):=by rw[aeG,hr,hx]
theorem agZ (f:Fm)(s:ai):∀ t∈rR f s,0<=t.cz/\t.cz<=8:=by
 unfold rR
 cases fw f.bK s with
 | none=>intro t ht;cases ht
 | some x=>
  simp only
  by_cases h:(aM x).2=0
  ·intro t ht
   have:=((LH h).2.2.2.2.2 t ht).2
   unfold tB at this
   simp only[ajm,Bool.not_eq_false',aaT,decide_eq_true_eq] at this
   omega
  ·rw[S0 h];intro t ht;cases ht
theorem ah6 {R:Rn}{ts:List Tk}(h:yo R ts=true):R.ts=ts:=by
 unfold yo zr at h
 simp only[aaT,decide_eq_true_eq] at h
 rw[<-h.2.2.2.1.2.2.2,TJ h.1]
noncomputable def nY:Fm->List (Rn × ai)->Option Fm
 | f,[]=>some f
 | f,x::r=>if (fw f.bK x.2).isSome=true/\yo x.1 (rR f x.2)=true then nY { f with ax:=f.ax++[x] } r else none
theorem ab2 {sp p:Nat}{sa:SA}{S:SS}(hl:S.rs.length=S.iB.length)(hn:S.rs.length<=64)(hb:∀ R∈S.rs,R.rs.length<=1000/\R.sg.length<=1000):∀ (r:List (Rn × ai)) (i:Nat) (H:Hp) (a:FA) (f:Fm),i<=S.rs.length->(S.rs.zip S.iB).drop i=r->SV sp H sa S->Cs H sp (jt sa S) 50 0->FL H p a f->Gl H->(∀ j∈own p a,sp<j)->f.ax.length<=i->
  ∃ a' H',(∀ jr:K.Fn 2,CN JN GO cK jr (.ptr sp 0) (.ptr p 0) sa.rx (.int .i64 (S.rs.length:Nat)) (.int .i64 (i:Nat)) H=match nY f r with | none=>some (.tuple [.dR,.int .i64 2],H') | some _=>jr (.ptr sp 0) (.ptr p 0) H')/\∀ f',nY f r=some f'->FL H' p a' f'/\FSt H H' p a a'
 | [],i,H,a,f,hi,h,hS,hc,hF,hg,ho,kB=>by
  have p9:(S.rs.zip S.iB).length=S.rs.length:=by rw[List.length_zip];omega
  obtain rfl:=(drop_nil (by omega) h).trans p9
  refine⟨a,H,fun jr => ?_,fun f' h' => ?_⟩
  ·rw[Yd]
   simp only[Cj,ez,nY,ag,af,simprocAttr]
  ·cases h';exact⟨hF,FSt.same (Out.refl _ _) p a⟩
 | x::r,i,H,a,f,hi,h,hS,hc,hF,hg,ho,kB=>by
  have p9:(S.rs.zip S.iB).length=S.rs.length:=by rw[List.length_zip];omega
  obtain⟨h1,h2,h3⟩:=eF h
  rw[p9] at h1
  obtain⟨hR,hO⟩:=aeM h2
  have es:=eE h1 (by omega)
  obtain⟨ra,LA⟩:∃ ra,sa.bC[i]? = some ra:=⟨_,aaC (by rw[hS.len];exact h1)⟩
  obtain⟨b,o,q1,q2,q3,q4,q5⟩:=hS.r.at (by decide) (avj LA hR)
  have hv:=hS.v i ra x.1 LA hR
  obtain⟨b1,b2⟩:=hb x.1 (aaO hR)
  have hz:st 4 (.ptr H.next 0) (.agg (lE ra x.1)) (al H zR 75 0)=some (al H (lE ra x.1) 75 0):=iI (by simp[lE,hv.d.row.one,hv.t.one,hv.s.one,jN]) rfl rfl (by decide) rfl
  have o1:=aG H (lE ra x.1) 75 0
  have c1:=aZ H (lE ra x.1) 75 0
  have n1:(al H (lE ra x.1) 75 0).next=H.next+1:=rfl
  generalize bW:al H (lE ra x.1) 75 0=H1 at *
  have ko:cellAt H1 sp 4=some sa.ox:=(hc.out o1 (by simp)).cellAt rfl
  obtain⟨w,w1,w2⟩:=(hS.ar o1).o.gw (nE hO) .i64
  obtain⟨dx,xs,H2,d1,d2,d3,d4⟩:=afC (hF.ar o1) (hg.ar o1) x.2
  have fE:=d2.row.one
  have aA:st 1 (.ptr H2.next 0) (dv dx) (al H2 [.ae] 72 0)=some (al H2 [dx] 72 0):=iI (by simp[fE]) rfl rfl (by decide) rfl
  have o3:=aG H2 [dx] 72 0
  have c3:=aZ H2 [dx] 72 0
  generalize jm:al H2 [dx] 72 0=H3 at *
  have fu:=(o1.trans d3).trans o3
  have kd:aq H3 H2.next 0 1=some [dx]:=c3.aq 1 0 (by simp)
  have kr:aq H3 H.next 0 4=some (lE ra x.1):=((c1.out d3 (by simp)).out o3 (by simp)).aq 4 0 (by simp[lE])
  have base:∀ (jr:K.Fn 2),CN JN GO cK jr (.ptr sp 0) (.ptr p 0) sa.rx (.int .i64 (S.rs.length:Nat)) (.int .i64 (i:Nat)) H=Cj JN GO cK jr (CN JN GO cK jr) (.ptr sp 0) (.ptr p 0) sa.rx (.int .i64 (S.rs.length:Nat)) (.int .i64 (i:Nat)) H:=fun jr=>Yd cK jr _ _ _ _ _ H
  cases m1:(fw f.bK x.2).isSome with
  | false=>
   rw[m1] at d1
   have hM:nY f (x::r)=none:=by unfold nY;rw[if_neg (by rw[m1];simp)]
   refine⟨a,H3,fun jr => ?_,fun f' h'=>by rw[hM] at h';cases h'⟩
   rw[base,hM]
   simp(disch:=first|exact zqz|fail)only[Cj,aU h1,q1,q4,hz,bW,ko,w1,w2,d1,aA,jm,aj,ak,ag,af,simprocAttr]
  | true=>
  rw[m1] at d1
  obtain⟨z1,z2⟩:=aoF f x.2
  obtain⟨H4,y1,y2⟩:=aiu (hv.ar fu) (d2.ar o3) (by omega) (fun t ht=>by have:=z2 t ht;omega) (agZ f x.2) b1 b2
  have DW:cK (.func (.func 57) [] []) [.agg (lE ra x.1),.agg [dx]] H3=some (.bool (yo x.1 (rR f x.2)),H4):=y1
  have gk:=fu.trans y2
  cases m2:yo x.1 (rR f x.2) with
  | false=>
   rw[m2] at DW
   have hM:nY f (x::r)=none:=by unfold nY;rw[if_neg (by rw[m2];simp)]
   refine⟨a,H4,fun jr => ?_,fun f' h'=>by rw[hM] at h';cases h'⟩
   rw[base,hM]
   simp(disch:=first|exact zqz|fail)only[Cj,aU h1,q1,q4,hz,bW,ko,w1,w2,d1,aA,jm,kd,kr,DW,aj,ak,ag,af,simprocAttr]
  | true=>
  rw[m2] at DW
  have nJ:=ah6 m2
  have pU:Sm x.1:=⟨by rw[nJ];omega,by rw[nJ];exact fun t ht=>by have:=z2 t ht;omega,b1,by omega⟩
  have M7:=hF.ar gk
  obtain⟨av,a8,au,ay,H5,r1,r2,r3,r4⟩:=ady (hv.ar gk) pU
  have EK:cK (.func (.func 58) [] []) [.agg (lE ra x.1)] H4=some (.agg (rv av x.1.st au ay),H5):=r1
  have N2:=gk.trans r3
  have Tq:=hF.ar N2
  have JY:=hc.out gk (by simp)
  have SN:=hc.out N2 (by simp)
  have kr4:aq H4 H.next 0 4=some (lE ra x.1):=(((c1.out d3 (by simp)).out o3 (by simp)).out y2 (by simp)).aq 4 0 (by simp[lE])
  have wO:cellAt H4 p 3=some a.rx:=M7.c.cellAt rfl
  have tM:cellAt H5 p 3=some a.rx:=Tq.c.cellAt rfl
  have ko4:cellAt H4 sp 4=some sa.ox:=JY.cellAt rfl
  have ko5:cellAt H5 sp 4=some sa.ox:=SN.cellAt rfl
  have BV:∀ {X:Hp},Out [] H1 X->ld w X=some (.str x.2):=fun {X} k=>by
   obtain⟨w',u1,u2⟩:=((hS.ar o1).ar k).o.gw (nE hO) .i64
   have e:w'=w:=by rw[u1] at w1;exact ac8 w1
   rw[<-e];exact u2
  have hw4:=BV ((d3.trans o3).trans y2)
  have hw5:=BV (((d3.trans o3).trans y2).trans r3)
  have hn5:H.next<=H4.next:=gk.1
  have ry:∀ j∈(RA.mk av a8 au ay).fp,j∉own p a:=fun j hj q=>by have:=r4 j hj;have:=hF.lt j q;omega
  obtain⟨ef,H6,H7,a1,a2,a3,a4,a5,a6,a7⟩:=Tq.P6 (r':=⟨av,a8,au,ay⟩) (x:=x) r2.v ry (by omega)
  have BQ:eV 77 5 [.ae,(.int .i64 0),.ae,.ae,(.str [])] false a.rx (.slice H5.next 0 1 1 true 5) (al H5 [av,.int .i64 x.1.st,au,ay,.str x.2] 77 0)=some (ef,H6):=a1 H5.next rfl
  have f1:fl [.ae,(.int .i64 0),.ae,.ae,(.str [])] [(0,4,.agg (rv av x.1.st au ay)),(4,1,.str x.2)]=some (bT ⟨av,a8,au,ay⟩ x):=by
   rw[zI (l:=rv av x.1.st au ay) (n:=4) rfl (by simp),zX rfl (by simp),rZ];rfl
  have f2:fl [.ae,(.int .i64 0),.ae,.ae,(.str [])] [(0,5,.agg (bT ⟨av,a8,au,ay⟩ x))]=some (bT ⟨av,a8,au,ay⟩ x):=by
   rw[zI (l:=bT ⟨av,a8,au,ay⟩ x) (n:=5) rfl (by simp),rZ];rfl
  have dJ:aC H5 (bT ⟨av,a8,au,ay⟩ x) 77 0=some (H5.next,al H5 (bT ⟨av,a8,au,ay⟩ x) 77 0):=gJ (by simp[bT])
  have vh:cellAt (al H5 [av,.int .i64 x.1.st,au,ay,.str x.2] 77 0) p 3=some a.rx:=by rw[(aG _ _ _ _).cellAt Tq.c.1 (by simp)];exact tM
  have hM:nY f (x::r)=nY { f with ax:=f.ax++[x] } r:=by
   conv=>lhs;unfold nY
   rw[if_pos ⟨m1,m2⟩]
  have JL:Out (own p a) H H7:=(N2.mono fun j hj=>by cases hj).trans a4
  have hn7:=JL.1
  have axG:=N2.1
  have lh:=hc.1
  have hle:∀ j∈own p a,sp<=j:=fun j hj=>Nat.le_of_lt (ho j hj)
  have vw:FSt H H7 p a { a with rx:=ef,bC:=a.bC++[⟨av,a8,au,ay⟩] }:=⟨JL,fun j hj=>(a5 j hj).imp id fun q=>by omega,fun j hj=>(a6 j hj).imp id fun q=>by have:=r4 j q;omega⟩
  obtain⟨a',H',i1,i2⟩:=ab2 hl hn hb r (i+1) H7 _ _ h1 h3 (hS.out JL hle) (hc.out JL fun z=>by have:=ho _ z;omega) a3 (hg.out JL hF.lo) (fun j hj=>(a5 j hj).elim (ho j) fun q=>by omega) (by show (f.ax++[x]).length<=_;rw[abj];simp;omega)
  refine⟨a',H',fun jr => ?_,fun f' h' => ?_⟩
  ·rw[base,hM,<-i1 jr]
   simp(disch:=first|exact zqz|fail)only[Cj,aU h1,q1,q4,hz,bW,ko,w1,w2,d1,aA,jm,kd,kr,DW,kr4,EK,wO,tM,ko4,ko5,hw4,hw5,f1,f2,dJ,vh,BQ,a2,ft (oe hF.r.1.rw),ft (oe hS.o),ft (Mw _),es,aj,ak,ag,af,simprocAttr]
  ·rw[hM] at h'
   obtain⟨z1,z2⟩:=i2 f' h'
   exact⟨z1,vw.trans z2⟩
def sd (f:Fm)(x:Ke):Bool:=decide (1<=x.2)&&(decide (x.2<=(f.ax.length:Int))&&((f.ax[(x.2-1).toNat]?.map (·.2)==some x.1.1)&&(!(x.1.2==[])&&(decide (x.1.2.length<=16)&&(la f.ks x.1).isNone))))
def rG:Fm->List Ke->Option Fm
 | f,[]=>some f
 | f,x::r=>bif sd f x then rG { f with ks:=f.ks++[x] } r else none
theorem YW {sp p:Nat}{sa:SA}{S:SS}(hn:S.ks.length<=128):∀ (r:List Ke) (i:Nat) (H:Hp) (a:FA) (f:Fm),i<=S.ks.length->S.ks.drop i=r->SV sp H sa S->FL H p a f->f.ax.length<=64->(∀ j∈own p a,sp<j)->sp<H.next->f.ks.length<=i->
  ∃ a' H',(∀ fF:K.Fn 1,zL JN GO cK fF (.ptr p 0) sa.kx (.int .i64 (S.ks.length:Nat)) (.int .i64 (i:Nat)) H=match rG f r with | none=>some (.tuple [.dR,.int .i64 2],H') | some _=>fF (.ptr p 0) H')/\∀ f',rG f r=some f'->FL H' p a' f'/\FSt H H' p a a'
 | [],i,H,a,f,hi,h,hS,hF,rE,ho,lh,hk=>by
  obtain rfl:=drop_nil hi h
  refine⟨a,H,fun fF => ?_,fun f' h' => ?_⟩
  ·rw[afa]
   simp only[uV,ez,rG,ag,af,simprocAttr]
  ·cases h';exact⟨hF,FSt.same (Out.refl _ _) p a⟩
 | x::r,i,H,a,f,hi,h,hS,hF,rE,ho,lh,hk=>by
  obtain⟨h1,h2,h3⟩:=eF h
  have es:=eE h1 (by omega)
  obtain⟨b,o,q1,q2,q3,q4,q5⟩:=hS.k.at (by decide) (i:=i) (c:=gj x) (by rw[aeI,h2];rfl)
  have hz:st 3 (.ptr H.next 0) (.agg (gj x)) (al H [(.str []),(.str []),(.int .i64 0)] 82 0)=some (al H (gj x) 82 0):=iI rfl rfl rfl (by decide) rfl
  have o1:=aG H (gj x) 82 0
  have c1:=aZ H (gj x) 82 0
  have n1:(al H (gj x) 82 0).next=H.next+1:=rfl
  generalize bW:al H (gj x) 82 0=H1 at *
  have e0:cellAt H1 H.next 0=some (.str x.1.1):=c1.cellAt rfl
  have e1:cellAt H1 H.next 1=some (.str x.1.2):=c1.cellAt rfl
  have e2:cellAt H1 H.next 2=some (.int .i64 x.2):=c1.cellAt rfl
  have ek:aq H1 H.next 0 2=some (cg x.1):=c1.aq 2 0 (by simp[gj])
  have Ba:=hF.ar o1
  have k3:cellAt H1 p 3=some a.rx:=Ba.c.cellAt rfl
  have k4:cellAt H1 p 4=some (.ptr a.kp 0):=Ba.c.cellAt rfl
  have fA:=hF.KI
  have base:∀ (fF:K.Fn 1),zL JN GO cK fF (.ptr p 0) sa.kx (.int .i64 (S.ks.length:Nat)) (.int .i64 (i:Nat)) H=uV JN GO cK fF (zL JN GO cK fF) (.ptr p 0) sa.kx (.int .i64 (S.ks.length:Nat)) (.int .i64 (i:Nat)) H:=fun fF=>afa cK fF _ _ _ _ H
  have bad:sd f x=false->(∃ H',∀ (fF:K.Fn 1),uV JN GO cK fF (zL JN GO cK fF) (.ptr p 0) sa.kx (.int .i64 (S.ks.length:Nat)) (.int .i64 (i:Nat)) H=some (.tuple [.dR,.int .i64 2],H'))->∃ a' H',(∀ fF:K.Fn 1,zL JN GO cK fF (.ptr p 0) sa.kx (.int .i64 (S.ks.length:Nat)) (.int .i64 (i:Nat)) H=match rG f (x::r) with | none=>some (.tuple [.dR,.int .i64 2],H') | some _=>fF (.ptr p 0) H')/\∀ f',rG f (x::r)=some f'->FL H' p a' f'/\FSt H H' p a a':=by
   rintro hb ⟨H',hH⟩
   have hM:rG f (x::r)=none:=by show (bif sd f x then _ else none)=none;rw[hb];rfl
   exact⟨a,H',fun fF=>by rw[base,hM,hH],fun f' h'=>by rw[hM] at h';cases h'⟩
  by_cases g1:1<=x.2
  rotate_left
  ·have d1:decide (x.2<1)=true:=decide_eq_true (by omega)
   refine bad (by unfold sd;rw[decide_eq_false g1];rfl) ⟨H1,fun fF => ?_⟩
   simp(disch:=first|exact zqz|fail)only[uV,aU h1,q1,q4,hz,bW,e2,d1,aj,ak,ag,af,simprocAttr]
  have d1:decide (x.2<1)=false:=decide_eq_false (by omega)
  by_cases g2:x.2<=(f.ax.length:Int)
  rotate_left
  ·have d2:decide (((f.ax.length:Nat):Int)<x.2)=true:=decide_eq_true (by omega)
   refine bad (by unfold sd;rw[decide_eq_false g2,acL,Bool.and_false]) ⟨H1,fun fF => ?_⟩
   simp(disch:=first|exact zqz|fail)only[uV,aU h1,q1,q4,hz,bW,e2,d1,k3,fA,d2,aj,ak,ag,af,simprocAttr]
  have d2:decide (((f.ax.length:Nat):Int)<x.2)=false:=decide_eq_false (by omega)
  obtain⟨m,hm⟩:∃ m:Nat,x.2=(m:Int)+1:=⟨(x.2-1).toNat,by omega⟩
  have hmi:(x.2-1).toNat=m:=by omega
  have hw:IntKind.wrap .i64 (x.2-1)=((m:Nat):Int):=by rw[hm,wrap_i64 (by omega) (by omega)];omega
  have uJ:m<f.ax.length:=by omega
  obtain⟨y,hy⟩:∃ y,f.ax[m]? = some y:=⟨_,aaC uJ⟩
  obtain⟨ra,LA⟩:∃ ra,a.bC[m]? = some ra:=⟨_,aaC (by rw[hF.len];exact uJ)⟩
  obtain⟨b',o',p1,p2,p3,p4,p5⟩:=Ba.r.rl.at (by decide) (L6 LA hy)
  have pn:cellAt H1 b' (o'+4)=some (.str y.2):=p5 4 _ rfl
  cases m3:(y.2==x.1.1) with
  | false=>
   refine bad (by unfold sd;rw[hmi,hy];simp[m3]) ⟨H1,fun fF => ?_⟩
   simp(disch:=first|exact zqz|fail)only[uV,aU h1,q1,q4,hz,bW,e0,e2,d1,k3,fA,d2,hw,p1,pn,m3,aj,ak,ag,af,simprocAttr]
  | true=>
  cases m4:(x.1.2==[]) with
  | true=>
   refine bad (by unfold sd;rw[m4];simp) ⟨H1,fun fF => ?_⟩
   simp(disch:=first|exact zqz|fail)only[uV,aU h1,q1,q4,hz,bW,e0,e1,e2,d1,k3,fA,d2,hw,p1,pn,m3,m4,aj,ak,ag,af,simprocAttr]
  | false=>
  by_cases g5:x.1.2.length<=16
  rotate_left
  ·have d5:decide ((16:Int)<((x.1.2.length:Nat):Int))=true:=decide_eq_true (by omega)
   refine bad (by unfold sd;rw[decide_eq_false g5];simp) ⟨H1,fun fF => ?_⟩
   simp(disch:=first|exact zqz|fail)only[uV,aU h1,q1,q4,hz,bW,e0,e1,e2,d1,k3,fA,d2,hw,p1,pn,m3,m4,d5,aj,ak,ag,af,simprocAttr]
  have d5:decide ((16:Int)<((x.1.2.length:Nat):Int))=false:=decide_eq_false (by omega)
  cases MK:la f.ks x.1 with
  | some LY=>
   obtain⟨H2,t1,t2⟩:=alz Ba.k MK x.2
   refine bad (by unfold sd;rw[MK];simp) ⟨H2,fun fF => ?_⟩
   simp(disch:=first|exact zqz|fail)only[uV,aU h1,q1,q4,hz,bW,e0,e1,e2,ek,d1,k3,k4,fA,d2,hw,p1,pn,m3,m4,d5,t1,aj,ak,ag,af,simprocAttr]
  | none=>
   obtain⟨ve,H2,t1,t2,t3⟩:=Ba.gL (by omega) MK x.2
   have yd:sd f x=true:=by
    unfold sd
    rw[hmi,hy,MK,m4,decide_eq_true g1,decide_eq_true g2,decide_eq_true g5]
    simp at m3
    simp[m3]
   have hM:rG f (x::r)=rG { f with ks:=f.ks++[x] } r:=by show (bif sd f x then _ else none)=_;rw[yd];rfl
   have vw:=FSt.end o1 t3
   have hle:∀ j∈own p a,sp<=j:=fun j hj=>Nat.le_of_lt (ho j hj)
   obtain⟨a',H',i1,i2⟩:=YW hn r (i+1) H2 { a with kl:=ve } { f with ks:=f.ks++[x] } h1 h3 (hS.out vw.o hle) t2 rE (fun j hj=>(vw.w j hj).elim (ho j) fun q=>by omega) (aew lh vw.o.1) (by show (f.ks++[x]).length<=_;rw[abj];simp;omega)
   refine⟨a',H',fun fF => ?_,fun f' h' => ?_⟩
   ·rw[base,hM,<-i1 fF]
    simp(disch:=first|exact zqz|fail)only[uV,aU h1,q1,q4,hz,bW,e0,e1,e2,ek,d1,k3,k4,fA,d2,hw,p1,pn,m3,m4,d5,t1,es,aj,ak,ag,af,simprocAttr]
   ·rw[hM] at h'
    obtain⟨z1,z2⟩:=i2 f' h'
    exact⟨z1,vw.trans z2⟩
def uM (S:SS):Bool:=decide (S.ck<0)||(decide (1099511627776<S.ck)||(!(decide (S.bf.length=S.bK.length))||(!(decide (S.rs.length=S.iB.length))||(decide (64<S.rs.length)||decide (128<S.ks.length)))))
noncomputable def tC (S:SS):Option Fm:=
 bif uM S then none else (mF { rj with ck:=S.ck } (S.bf.zip S.bK)).bind fun f=>(nY f (S.rs.zip S.iB)).bind fun f=>rG f S.ks
theorem aeV:∀ (l:List (ai × ai)) (f f':Fm),mF f l=some f'->f'.ax=f.ax/\f'.ks=f.ks
 | [],f,f',h=>by cases h;exact⟨rfl,rfl⟩
 | x::r,f,f',h=>by
  unfold mF at h
  split at h
  ·obtain⟨a,b⟩:=aeV r _ _ h
   have:(nM f x.1 x.2).1.ax=f.ax/\(nM f x.1 x.2).1.ks=f.ks:=by
    unfold nM;split
    ·exact⟨rfl,rfl⟩
    ·split
     ·exact⟨rfl,rfl⟩
     ·split<;>exact⟨rfl,rfl⟩
   exact⟨a.trans this.1,b.trans this.2⟩
  ·cases h
theorem ZL:∀ (l:List (Rn × ai)) (f f':Fm),nY f l=some f'->f'.ks=f.ks/\f'.ax=f.ax++l/\f'.bf=f.bf/\f'.bK=f.bK/\f'.ck=f.ck
 | [],f,f',h=>by cases h;exact⟨rfl,(af9 _).symm,rfl,rfl,rfl⟩
 | x::r,f,f',h=>by
  unfold nY at h
  split at h
  ·obtain⟨a,b,c,d,e⟩:=ZL r _ _ h
   exact⟨a,by rw[b];simp,c,d,e⟩
  ·cases h
theorem as9 {H:Hp}{sa:SA}{S:SS}(hS:SV H.next H sa S)(hg:Gl H)(kA:S.bf.length<=1000)(hb:∀ R∈S.rs,R.rs.length<=1000/\R.sg.length<=1000) :
  ∃ p a H',cK (.func (.func 22) [] []) [.agg (jt sa S)] H=(match tC S with | none=>some (.tuple [.dR,.int .i64 2],H') | some _=>some (.tuple [.ptr p 0,.int .i64 0],H'))/\∀ f,tC S=some f->FL H' p a f/\Out [] H H'/\(∀ j∈own p a,H.next<=j)/\∀ j∈DfK.dU a,H.next<=j:=by
 have aN:bx 50 (.agg (jt sa S)) H=some (H.next,al H (jt sa S) 50 0):=gh (by simp[jt])
 have o1:=aG H (jt sa S) 50 0
 have c1:=aZ H (jt sa S) 50 0
 have n1:(al H (jt sa S) 50 0).next=H.next+1:=rfl
 generalize bW:al H (jt sa S) 50 0=H1 at *
 obtain⟨p,a,H2,m1,m2,m3,m4,m5⟩:=Xz (hg.ar o1).nx
 have o2:=o1.trans m3
 have c2:=c1.out m3 (by simp)
 have k0:cellAt H2 H.next 0=some (.int .i64 S.ck):=c2.cellAt rfl
 have k1:cellAt H2 H.next 1=some sa.nx:=c2.cellAt rfl
 have k2:cellAt H2 H.next 2=some sa.tx:=c2.cellAt rfl
 have k3:cellAt H2 H.next 3=some sa.rx:=c2.cellAt rfl
 have k4:cellAt H2 H.next 4=some sa.ox:=c2.cellAt rfl
 have k5:cellAt H2 H.next 5=some sa.kx:=c2.cellAt rfl
 have l1:=hS.n.jn
 have l2:=hS.t.jn
 have l4:=hS.o.jn
 rw[gB] at l1 l2 l4
 have l3:=hS.r.len (by decide)
 rw[agM,hS.len,Nat.min_self] at l3
 have l5:=hS.k.len (by decide)
 rw[adY] at l5
 have bad:uM S=true->cK (.func (.func 22) [] []) [.agg (jt sa S)] H=some (.tuple [.dR,.int .i64 2],H2)->∃ p a H',cK (.func (.func 22) [] []) [.agg (jt sa S)] H=(match tC S with | none=>some (.tuple [.dR,.int .i64 2],H') | some _=>some (.tuple [.ptr p 0,.int .i64 0],H'))/\∀ f,tC S=some f->FL H' p a f/\Out [] H H'/\(∀ j∈own p a,H.next<=j)/\∀ j∈DfK.dU a,H.next<=j:=by
  intro hb hc
  have hM:tC S=none:=by unfold tC;rw[hb];rfl
  exact⟨p,a,H2,by rw[hM,hc],fun f h=>by rw[hM] at h;cases h⟩
 by_cases g1:S.ck<0
 ·have d1:decide (S.ck<0)=true:=decide_eq_true g1
  refine bad (by unfold uM;rw[d1];rfl) (xV ?_)
  unfold uX
  simp(disch:=first|exact zqz|fail)only[aN,bW,m1,k0,d1,aj,ak,ag,af,simprocAttr]
 have d1:decide (S.ck<0)=false:=decide_eq_false g1
 by_cases g2:1099511627776<S.ck
 ·have d2:decide (1099511627776<S.ck)=true:=decide_eq_true g2
  refine bad (by unfold uM;rw[d1,d2];rfl) (xV ?_)
  unfold uX
  simp(disch:=first|exact zqz|fail)only[aN,bW,m1,k0,d1,d2,aj,ak,ag,af,simprocAttr]
 have d2:decide (1099511627776<S.ck)=false:=decide_eq_false g2
 by_cases g3:S.bf.length=S.bK.length
 rotate_left
 ·have d3:(((S.bf.length:Nat):Int) != ((S.bK.length:Nat):Int))=true:=by simp;omega
  refine bad (by unfold uM;rw[decide_eq_false g3];simp) (xV ?_)
  unfold uX
  simp(disch:=first|exact zqz|fail)only[aN,bW,m1,k0,k1,k2,l1,l2,d1,d2,d3,aj,ak,ag,af,simprocAttr]
 have d3:(((S.bf.length:Nat):Int) != ((S.bK.length:Nat):Int))=false:=by simp;omega
 by_cases g4:S.rs.length=S.iB.length
 rotate_left
 ·have d4:(((S.rs.length:Nat):Int) != ((S.iB.length:Nat):Int))=true:=by simp;omega
  refine bad (by unfold uM;rw[decide_eq_false g4];simp) (xV ?_)
  unfold uX
  simp(disch:=first|exact zqz|fail)only[aN,bW,m1,k0,k1,k2,k3,k4,l1,l2,l3,l4,d1,d2,d3,d4,aj,ak,ag,af,simprocAttr]
 have d4:(((S.rs.length:Nat):Int) != ((S.iB.length:Nat):Int))=false:=by simp;omega
 by_cases g5:64<S.rs.length
 ·have d5:decide ((64:Int)<((S.rs.length:Nat):Int))=true:=decide_eq_true (by omega)
  refine bad (by unfold uM;rw[decide_eq_true g5];simp) (xV ?_)
  unfold uX
  simp(disch:=first|exact zqz|fail)only[aN,bW,m1,k0,k1,k2,k3,k4,l1,l2,l3,l4,d1,d2,d3,d4,d5,aj,ak,ag,af,simprocAttr]
 have d5:decide ((64:Int)<((S.rs.length:Nat):Int))=false:=decide_eq_false (by omega)
 by_cases g6:128<S.ks.length
 ·have d6:decide ((128:Int)<((S.ks.length:Nat):Int))=true:=decide_eq_true (by omega)
  refine bad (by unfold uM;rw[decide_eq_true g6];simp) (xV ?_)
  unfold uX
  simp(disch:=first|exact zqz|fail)only[aN,bW,m1,k0,k1,k2,k3,k4,k5,l1,l2,l3,l4,l5,d1,d2,d3,d4,d5,d6,aj,ak,ag,af,simprocAttr]
 have d6:decide ((128:Int)<((S.ks.length:Nat):Int))=false:=decide_eq_false (by omega)
 have Gy:uM S=false:=by
  unfold uM
  rw[d1,d2,decide_eq_true g3,decide_eq_true g4,decide_eq_false g5,decide_eq_false g6];rfl
 obtain⟨H3,s1,s2,s3⟩:=m2.clock S.ck
 have Gi:∀ j∈own p a,H.next<j:=fun j hj=>by have:=m4 j hj;omega
 have hle:∀ j∈own p a,H.next<=j:=fun j hj=>Nat.le_of_lt (Gi j hj)
 have aH:H.next∉own p a:=fun z=>by have:=Gi _ z;omega
 have O:∀ {X:Hp} {b:FA},FSt H2 X p a b->Out [] H X/\SV H.next X sa S/\Cs X H.next (jt sa S) 50 0/\Gl X/\∀ j∈own p b,H.next<j:=by
  intro X b k
  have ko:Out [] H X:=fD o2 k.o hle
  refine⟨ko,hS.ar ko,c2.out k.o aH,hg.ar ko,fun j hj=>(k.w j hj).elim (Gi j) fun q => ?_⟩
  have:=m3.1;omega
 obtain⟨O31,O32,O33,O34,O35⟩:=O s3
 have q1:cellAt H3 H.next 1=some sa.nx:=O33.cellAt rfl
 obtain⟨a4,H4,i1,i2⟩:=acY (sp:=H.next) g3 kA (S.bf.zip S.bK) 0 H3 a _ (ace _) abK O32 O33 s2 O34 O35 (ace _)
 rw[show (((0:Nat):Int))=0 from rfl] at i1
 have Vy:tC S=(mF { rj with ck:=S.ck } (S.bf.zip S.bK)).bind fun f=>(nY f (S.rs.zip S.iB)).bind fun f=>rG f S.ks:=by unfold tC;rw[Gy];rfl
 cases qM:mF { rj with ck:=S.ck } (S.bf.zip S.bK) with
 | none=>
  simp only[qM] at i1
  have hM:tC S=none:=by rw[Vy,qM];rfl
  refine⟨p,a,H4,?_,fun f h=>by rw[hM] at h;cases h⟩
  rw[hM]
  refine xV ?_
  unfold uX
  simp(disch:=first|exact zqz|fail)only[aN,bW,m1,k0,k1,k2,k3,k4,k5,l1,l2,l3,l4,l5,d1,d2,d3,d4,d5,d6,s1,q1,i1,aj,ak,ag,af,simprocAttr]
 | some f1=>
 simp only[qM] at i1
 obtain⟨t1,t2,t3⟩:=i2 f1 qM
 obtain⟨O41,O42,Zu,O44,O45⟩:=O (s3.trans t2)
 have q3:cellAt H4 H.next 3=some sa.rx:=Zu.cellAt rfl
 obtain⟨r1,r2⟩:=aeV _ _ _ qM
 have EK:f1.ax=[]:=r1
 have r2':f1.ks=[]:=r2
 obtain⟨a5,H5,j1,j2⟩:=ab2 (sp:=H.next) g4 (by omega) hb (S.rs.zip S.iB) 0 H4 a4 f1 (ace _) abK O42 Zu t1 O44 O45 (by rw[EK];exact aaU _)
 rw[show (((0:Nat):Int))=0 from rfl] at j1
 cases Bs:nY f1 (S.rs.zip S.iB) with
 | none=>
  simp only[Bs] at j1
  have hM:tC S=none:=by rw[Vy,qM,acF,Bs];rfl
  refine⟨p,a,H5,?_,fun f h=>by rw[hM] at h;cases h⟩
  rw[hM]
  refine xV ?_
  unfold uX
  simp(disch:=first|exact zqz|fail)only[aN,bW,m1,k0,k1,k2,k3,k4,k5,l1,l2,l3,l4,l5,d1,d2,d3,d4,d5,d6,s1,q1,i1,q3,j1,aj,ak,ag,af,simprocAttr]
 | some f2=>
 simp only[Bs] at j1
 obtain⟨u1,u2⟩:=j2 f2 Bs
 obtain⟨O51,O52,Z6,O54,O55⟩:=O ((s3.trans t2).trans u2)
 have q5:cellAt H5 H.next 5=some sa.kx:=Z6.cellAt rfl
 obtain⟨v1,v2,v3,v4,v5⟩:=ZL _ _ _ Bs
 obtain⟨a6,H6,w1,w2⟩:=YW (sp:=H.next) (p:=p) (by omega) S.ks 0 H5 a5 f2 (ace _) abK O52 u1 (by rw[v2,EK,ai6,List.length_zip];omega) O55 Z6.1 (by rw[v1,r2'];exact aaU _)
 rw[show (((0:Nat):Int))=0 from rfl] at w1
 have L4:tC S=rG f2 S.ks:=by rw[Vy,qM,acF,Bs,acF]
 cases CO:rG f2 S.ks with
 | none=>
  simp only[CO] at w1
  refine⟨p,a,H6,?_,fun f h=>by rw[L4,CO] at h;cases h⟩
  rw[L4,CO]
  refine xV ?_
  unfold uX
  simp(disch:=first|exact zqz|fail)only[aN,bW,m1,k0,k1,k2,k3,k4,k5,l1,l2,l3,l4,l5,d1,d2,d3,d4,d5,d6,s1,q1,i1,q3,j1,q5,w1,aj,ak,ag,af,simprocAttr]
 | some f3=>
 simp only[CO] at w1
 obtain⟨x1,x2⟩:=w2 f3 CO
 obtain⟨O61,O62,O63,O64,O65⟩:=O (((s3.trans t2).trans u2).trans x2)
 refine⟨p,a6,H6,?_,fun f h => ?_⟩
 ·rw[L4,CO]
  refine xV ?_
  unfold uX
  simp(disch:=first|exact zqz|fail)only[aN,bW,m1,k0,k1,k2,k3,k4,k5,l1,l2,l3,l4,l5,d1,d2,d3,d4,d5,d6,s1,q1,i1,q3,j1,q5,w1,aj,ak,ag,af,simprocAttr]
 ·rw[L4,CO] at h
  cases h
  exact⟨x1,O61,fun j hj=>Nat.le_of_lt (O65 j hj),fun j hj=>((((s3.trans t2).trans u2).trans x2).i j hj).elim (fun z=>by unfold DfK.dU at z;rw[m5] at z;cases z) fun z=>by have:=m3.1;omega⟩
def jM (q:Nat)(a:SA):List (List Nat):=[[q],ah a.tx,ah a.rx,ah a.ox,ah a.nx++(ah a.kx++a.bC.flatMap RA.fp)]
structure SB (N:Nat)(H:Hp)(q:Nat)(a:SA)(S:SS):Prop where
 c:Cs H q (jt a S) 50 0
 n:Rw H 1 a.nx (strs S.bf)
 t:Ow H 9 1 a.tx (strs S.bK)
 r:OL H 75 4 a.rx (List.zipWith lE a.bC S.rs)
 v:∀ (i:Nat) (r:RA) (R:Rn),a.bC[i]? = some r->S.rs[i]? = some R->RV H r.dx r.xs r.tx r.sx R
 len:a.bC.length=S.rs.length
 o:Ow H 9 1 a.ox (strs S.iB)
 k:RL H 3 a.kx (S.ks.map gj)
 dj:(jM q a).Pairwise Dj
 fr:∀ l∈jM q a,∀ j∈l,N<=j
 lt:∀ l∈jM q a,∀ j∈l,j<H.next
theorem oR {q:Nat}{a:SA}{j:Nat}(h:j∈ah a.nx\/j∈ah a.kx\/j∈a.bC.flatMap RA.fp):j∈ah a.nx++(ah a.kx++a.bC.flatMap RA.fp):=by
 rcases h with h | h | h
 ·exact abD _ h
 ·exact abo _ (abD _ h)
 ·exact abo _ (abo _ h)
theorem SB.part {N:Nat}{H H':Hp}{q:Nat}{a:SA}{S:SS}{T:List Nat}{i:Nat}(h:SB N H q a S)(k:Out T H H')(hT:(jM q a)[i]? = some T) :
  (i≠0->Cs H' q (jt a S) 50 0)/\(i≠1->Ow H' 9 1 a.tx (strs S.bK))/\(i≠2->OL H' 75 4 a.rx (List.zipWith lE a.bC S.rs))/\(i≠3->Ow H' 9 1 a.ox (strs S.iB))/\
  (i≠4->Rw H' 1 a.nx (strs S.bf)/\RL H' 3 a.kx (S.ks.map gj)/\∀ (i:Nat) (r:RA) (R:Rn),a.bC[i]? = some r->S.rs[i]? = some R->RV H' r.dx r.xs r.tx r.sx R):=by
 have sep:∀ {j:Nat} {l:List Nat},i≠j->(jM q a)[j]? = some l->∀ x∈l,x∉T:=fun mE hl=>(Ar h.dj mE hT hl).symm
 refine⟨fun hi=>h.c.out k (sep hi rfl q (.head _)),fun hi=>h.t.out k (sep hi rfl),fun hi=>h.r.out k (sep hi rfl),fun hi=>h.o.out k (sep hi rfl),fun hi=>⟨h.n.out k fun j hj=>sep hi rfl j (oR (q:=q) (.inl hj)),h.k.out k fun j hj=>sep hi rfl j (oR (q:=q) (.inr (.inl hj))),fun i r R hr hR=>(h.v i r R hr hR).out k fun j hj=>sep hi rfl j (oR (q:=q) (.inr (.inr (ahi.2 ⟨r,aaO hr,hj⟩))))⟩⟩
theorem SB.ar {N:Nat}{H H':Hp}{q:Nat}{a:SA}{S:SS}(h:SB N H q a S)(k:Out [] H H'):SB N H' q a S:=
 ⟨h.c.out k (by simp),h.n.ar k,h.t.out k fun j hj=>by simp,h.r.out k fun j hj=>by simp,fun i r R hr hR=>(h.v i r R hr hR).ar k,h.len,h.o.out k fun j hj=>by simp,h.k.ar k,h.dj,h.fr,fun l hl j hj=>aew (h.lt l hl j hj) k.1⟩
theorem SB.put {N:Nat}{H H':Hp}{q:Nat}{a a':SA}{S S':SS}{i o:Nat}{T T':List Nat}{v:AV}(h:SB N H q a S)(k:Out T H H')(hi:i≠0)(hT:(jM q a)[i]? = some T)(hs:jM q a'=(jM q a).set i T')(cU:∀ j∈T',j∈T\/H.next<=j)(ba:∀ j∈T',j<H'.next)(hN:N<=H.next)(ho:o<6)(hv:bq v=true)(aA:(jt a S).set o v=jt a' S') :
  ∃ H2,st 1 (.ptr q o) v H'=some H2/\Cs H2 q (jt a' S') 50 0/\Out [q] H' H2/\(jM q a').Pairwise Dj/\(∀ l∈jM q a',∀ j∈l,N<=j)/\(∀ l∈jM q a',∀ j∈l,j<H2.next)/\(∀ j∈T,N<=j)/\N<=q/\∀ {j:Nat} {l:List Nat},0≠j->(jM q a')[j]? = some l->∀ x∈l,x∉[q]:=by
 obtain⟨p0,_⟩:=h.part k hT
 obtain⟨H2,s1,s2,s3,s4⟩:=fP (p0 hi) (by decide) (o:=o) (by simpa[jt] using ho) (v:=v) hv
 have rM:(jM q a').Pairwise Dj:=by rw[hs];exact Lj h.dj hT h.lt cU
 have hTm:=aaO hT
 have h0:(jM q a')[0]? = some [q]:=rfl
 refine⟨H2,s1,by rw[<-aA];exact s2,s3,rM,fun l hl j hj => ?_,fun l hl j hj => ?_,h.fr T hTm,h.fr [q] (.head _) q (.head _),fun mE hl=>(Ar rM mE h0 hl).symm⟩
 ·rw[hs] at hl
  rcases agt hl with z | rfl
  ·exact h.fr l z j hj
  ·exact (cU j hj).elim (h.fr T hTm j) fun z=>by omega
 ·rw[hs] at hl
  have:=s3.1
  rcases agt hl with z | rfl
  ·have:=h.lt l z j hj;have:=k.1;omega
  ·have:=ba j hj;omega
theorem SB.am8 {N:Nat}{H:Hp}{q:Nat}{a:SA}{S:SS}(h:SB N H q a S)(hN:N<=H.next)(s:ai)(hn:S.bK.length<=1000) :
  ∃ au H1 H2 T,(∀ i,i=H.next->eV 9 1 [(.str [])] false a.tx (.slice i 0 1 1 true 1) (al H [.str s] 9 0)=some (au,H1))/\st 1 (.ptr q 2) au H1=some H2/\SB N H2 q { a with tx:=au } { S with bK:=S.bK++[s] }/\Out T H H2/\∀ j∈T,∃ l∈jM q a,j∈l:=by
 obtain⟨au,H1,p1,p2,p3,p4,p5⟩:=uB (fM:=9) (z:=[(.str [])]) (vs:=[.str s]) h.t rfl rfl (by decide) (by rw[gB];simp;omega)
 obtain⟨q0,q1,q2,q3,q4⟩:=h.part p3 (i:=1) rfl
 obtain⟨H2,s1,s2,s3,d1,d2,d3,d4,d5,d6⟩:=h.put (a':={ a with tx:=au }) (S':={ S with bK:=S.bK++[s] }) (o:=2) (T':=ah au) p3 (i:=1) (by decide) rfl rfl p4 p2.rw.lt hN (by decide) p5 rfl
 obtain⟨r1,r2,r3⟩:=q4 (by decide)
 have m:=fun {x} hx=>d6 (j:=4) (by decide) rfl x hx
 refine⟨au,H1,H2,ah a.tx++[q],p1,s1,⟨s2,r1.out s3 fun j hj=>m (oR (q:=q) (.inl hj)),?_,(q2 (by decide)).out s3 (d6 (j:=2) (by decide) rfl),fun i r R hr hR=>(r3 i r R hr hR).out s3 fun j hj=>m (oR (q:=q) (.inr (.inr (ahi.2 ⟨r,aaO hr,hj⟩)))),h.len,(q3 (by decide)).out s3 (d6 (j:=3) (by decide) rfl),r2.out s3 fun j hj=>m (oR (q:=q) (.inr (.inl hj))),d1,d2,d3⟩,
  (p3.mono fun j hj=>abD _ hj).trans (s3.mono fun j hj=>abo _ hj),fun j hj=>(abN.1 hj).elim (fun z=>⟨_,(.tail _ (.head _)),z⟩) fun z=>⟨_,.head _,z⟩⟩
 rw[show strs (S.bK++[s])=strs S.bK++[.str s] by rw[FZ];rfl]
 exact p2.out s3 (d6 (j:=1) (by decide) rfl)
theorem SB.alJ {N:Nat}{H:Hp}{q:Nat}{a:SA}{S:SS}(h:SB N H q a S)(hN:N<=H.next)(s:ai)(hn:S.iB.length<=1000) :
  ∃ rL H1 H2 T,(∀ i,i=H.next->eV 9 1 [(.str [])] false a.ox (.slice i 0 1 1 true 1) (al H [.str s] 9 0)=some (rL,H1))/\st 1 (.ptr q 4) rL H1=some H2/\SB N H2 q { a with ox:=rL } { S with iB:=S.iB++[s] }/\Out T H H2/\∀ j∈T,∃ l∈jM q a,j∈l:=by
 obtain⟨rL,H1,p1,p2,p3,p4,p5⟩:=uB (fM:=9) (z:=[(.str [])]) (vs:=[.str s]) h.o rfl rfl (by decide) (by rw[gB];simp;omega)
 obtain⟨q0,q1,q2,q3,q4⟩:=h.part p3 (i:=3) rfl
 obtain⟨H2,s1,s2,s3,d1,d2,d3,d4,d5,d6⟩:=h.put (a':={ a with ox:=rL }) (S':={ S with iB:=S.iB++[s] }) (o:=4) (T':=ah rL) p3 (i:=3) (by decide) rfl rfl p4 p2.rw.lt hN (by decide) p5 rfl
 obtain⟨r1,r2,r3⟩:=q4 (by decide)
 have m:=fun {x} hx=>d6 (j:=4) (by decide) rfl x hx
 refine⟨rL,H1,H2,ah a.ox++[q],p1,s1,⟨s2,r1.out s3 fun j hj=>m (oR (q:=q) (.inl hj)),(q1 (by decide)).out s3 (d6 (j:=1) (by decide) rfl),(q2 (by decide)).out s3 (d6 (j:=2) (by decide) rfl),fun i r R hr hR=>(r3 i r R hr hR).out s3 fun j hj=>m (oR (q:=q) (.inr (.inr (ahi.2 ⟨r,aaO hr,hj⟩)))),h.len,?_,r2.out s3 fun j hj=>m (oR (q:=q) (.inr (.inl hj))),d1,d2,d3⟩,
  (p3.mono fun j hj=>abD _ hj).trans (s3.mono fun j hj=>abo _ hj),fun j hj=>(abN.1 hj).elim (fun z=>⟨_,(.tail _ (.tail _ (.tail _ (.head _)))),z⟩) fun z=>⟨_,.head _,z⟩⟩
 rw[show strs (S.iB++[s])=strs S.iB++[.str s] by rw[FZ];rfl]
 exact p2.out s3 (d6 (j:=3) (by decide) rfl)
theorem flatMap_push (l:List RA)(r:RA):(l++[r]).flatMap RA.fp=l.flatMap RA.fp++r.fp:=by rw[akj];simp
theorem SB.atZ {N:Nat}{H:Hp}{q:Nat}{a:SA}{S:SS}(h:SB N H q a S)(hN:N<=H.next){r:RA}{R:Rn}(hR:RV H r.dx r.xs r.tx r.sx R)(hf:∀ j∈r.fp,N<=j/\∀ l∈jM q a,j∉l)(hn:S.rs.length<=1000) :
  ∃ ef H1 H2 T,(∀ i,i=H.next->eV 75 4 zR false a.rx (.slice i 0 1 1 true 4) (al H (lE r R) 75 0)=some (ef,H1))/\st 1 (.ptr q 3) ef H1=some H2/\SB N H2 q { a with rx:=ef,bC:=a.bC++[r] } { S with rs:=S.rs++[R] }/\Out T H H2/\∀ j∈T,∃ l∈jM q a,j∈l:=by
 obtain⟨ef,H1,p1,p2,p3,p4,p5⟩:=h.r.push (fM:=75) (z:=zR) (vs:=lE r R) (by simp[lE,hR.d.row.one,hR.t.one,hR.s.one,jN]) rfl (by decide) (by rw[agM];have:=h.len;omega)
 obtain⟨q0,q1,q2,q3,q4⟩:=h.part p3 (i:=2) rfl
 obtain⟨H2,s1,s2,s3,d1,d2,d3,d4,d5,d6⟩:=h.put (a':={ a with rx:=ef }) (S':=S) (o:=3) (T':=ah ef) p3 (i:=2) (by decide) rfl rfl p4 p2.rl.1.lt hN (by decide) p5 rfl
 obtain⟨r1,r2,r3⟩:=q4 (by decide)
 have m:=fun {x} hx=>d6 (j:=4) (by decide) rfl x hx
 have auI:=hR.lt
 have kA:=p3.1
 have gC:=s3.1
 have fq:∀ j∈r.fp,j∉ah a.rx/\j≠q:=fun j hj=>⟨(hf j hj).2 _ (.tail _ (.tail _ (.head _))),fun e=>(hf j hj).2 [q] (.head _) (by rw[e];exact .head _)⟩
 have ry:∀ j∈r.fp,j<H.next:=fun j hj=>auI j hj
 have kK:RV H2 r.dx r.xs r.tx r.sx R:=(hR.out p3 fun j hj=>(fq j hj).1).out s3 fun j hj=>by rw[No];exact (fq j hj).2
 have Gu:∀ j,j∈ah a.nx++(ah a.kx++(a.bC++[r]).flatMap RA.fp)->j∈ah a.nx++(ah a.kx++a.bC.flatMap RA.fp)\/j∈r.fp:=fun j hj=>by
  rw[flatMap_push] at hj
  rcases abN.1 hj with z | z
  ·exact .inl (abD _ z)
  ·rcases abN.1 z with z | z
   ·exact .inl (abo _ (abD _ z))
   ·rcases abN.1 z with z | z
    ·exact .inl (abo _ (abo _ z))
    ·exact .inr z
 have RM:jM q { a with rx:=ef,bC:=a.bC++[r] }=(jM q { a with rx:=ef }).set 4 (ah a.nx++(ah a.kx++(a.bC++[r]).flatMap RA.fp)):=rfl
 have Fs:∀ j∈r.fp,∀ l∈jM q { a with rx:=ef },j∉l:=fun j hj l hl hm=>by
  have e:jM q { a with rx:=ef }=(jM q a).set 2 (ah ef):=rfl
  rw[e] at hl
  rcases agt hl with z | rfl
  ·exact (hf j hj).2 l z hm
  ·rcases p4 j hm with z | z
   ·exact (fq j hj).1 z
   ·have:=ry j hj;omega
 have rM:(jM q { a with rx:=ef,bC:=a.bC++[r] }).Pairwise Dj:=by
  rw[RM,List.pairwise_iff_getElem]
  have hp:=List.pairwise_iff_getElem.1 d1
  have e4:(jM q { a with rx:=ef }).length=5:=rfl
  intro i j hi hj mE
  rw[adU] at hi hj
  rw[List.getElem_set,List.getElem_set]
  by_cases h1:4=i
  ·omega
  ·rw[if_neg h1]
   by_cases h2:4=j
   ·rw[if_pos h2]
    intro x hx hm
    rcases Gu x hm with z | z
    ·exact (hp i 4 hi (by rw[e4];decide) (by omega)) x hx z
    ·exact Fs x z _ (List.getElem_mem hi) hx
   ·rw[if_neg h2];exact hp i j hi hj mE
 refine⟨ef,H1,H2,ah a.rx++[q],p1,s1,⟨s2,r1.out s3 fun j hj=>m (oR (q:=q) (.inl hj)),(q1 (by decide)).out s3 (d6 (j:=1) (by decide) rfl),?_,fun i r' R' ea bE => ?_,by simp[h.len],(q3 (by decide)).out s3 (d6 (j:=3) (by decide) rfl),r2.out s3 fun j hj=>m (oR (q:=q) (.inr (.inl hj))),rM,fun l hl j hj => ?_,fun l hl j hj => ?_⟩,
  (p3.mono fun j hj=>abD _ hj).trans (s3.mono fun j hj=>abo _ hj),fun j hj=>(abN.1 hj).elim (fun z=>⟨_,(.tail _ (.tail _ (.head _))),z⟩) fun z=>⟨_,.head _,z⟩⟩
 ·rw[show List.zipWith lE (a.bC++[r]) (S.rs++[R])=List.zipWith lE a.bC S.rs++[lE r R] by rw[List.zipWith_append h.len];rfl]
  exact p2.out s3 (d6 (j:=2) (by decide) rfl)
 ·by_cases bD:i<a.bC.length
  ·rw[abX bD] at ea
   rw[abX (by rw[<-h.len];exact bD)] at bE
   exact (r3 i r' R' ea bE).out s3 fun j hj=>m (oR (q:=q) (.inr (.inr (ahi.2 ⟨r',aaO ea,hj⟩))))
  ·rw[ack (by omega)] at ea
   rw[ack (by rw[<-h.len];omega),<-h.len] at bE
   have h0:i-a.bC.length=0:=by
    have:=(aaw.1 ea).1
    simp at this;omega
   rw[h0] at ea bE
   cases ea;cases bE
   exact kK
 ·rw[RM] at hl
  rcases agt hl with z | rfl
  ·exact d2 l z j hj
  ·rcases Gu j hj with z | z
   ·exact d2 _ (.tail _ (.tail _ (.tail _ (.tail _ (.head _))))) j z
   ·exact (hf j z).1
 ·rw[RM] at hl
  rcases agt hl with z | rfl
  ·exact d3 l z j hj
  ·rcases Gu j hj with z | z
   ·exact d3 _ (.tail _ (.tail _ (.tail _ (.tail _ (.head _))))) j z
   ·have:=ry j z;omega
end Go.Proofs.YtodfajmihkagnaaGreatDoor.DfK
