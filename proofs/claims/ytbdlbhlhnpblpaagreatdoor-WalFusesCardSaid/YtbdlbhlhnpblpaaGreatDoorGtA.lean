/- Laws that the proof uses. -/
import Derived.Test.YtbdlbhlhnpblpaaGreatDoorOlSt
import Derived.Handed
import Derived.Test.YtbdlbhlhnpblpaaGreatDoorProg
set_option linter.unusedVariables false
set_option linter.unusedSimpArgs false
set_option maxRecDepth 10000
set_option maxHeartbeats 8000000
namespace Go.Proofs.YtbdlbhlhnpblpaaGreatDoor.du
open Go Am Am.K eU Sg gM iR fX cS
theorem XW {H:Hp}{a:Nat}{y:AV}{b:List Nat}(hy:Rw H 1 y (bs b))(hl:b.length<=100000) :
  ∃ x H',cK (.func (.func 29) [] []) [.agg [.int .u64 (a:Nat),y]] H=some (.agg [.int .u64 (a:Nat),x],H')/\Rw H' 1 x (bs b)/\Out [] H H'/\∀ j∈aa x,H.next<=j:=by
 obtain⟨H1,b1,b2,b3,b4⟩:=xC H 37 _ _ (oU hy ((a:Nat):Int)) (by simp)
 obtain⟨H2,n1,n2,n3,n4⟩:=iI H1 [.int .u64 0,.ae] 37 0 (by simp)
 have r2:=b2.out n3 fun q=>by cases q
 have l0:ld (.ptr H.next 0) H2=some (.int .u64 ((a:Nat):Int)):=r2.ld rfl
 have l1:ld (.ptr H.next 1) H2=some y:=r2.ld rfl
 have KR:=(hy.out b3 fun j _ q=>by cases q).out n3 fun j _ q=>by cases q
 obtain⟨x,H3,c1,c2,c3,c4⟩:=fX.Pn KR (by omega)
 have f1:=M1 c2.rw ((a:Nat):Int)
 have zT:=n2.out c3 fun q=>by cases q
 obtain⟨H4,t1,t2,t3,t4⟩:=qo (n:=2) zT (by omega) (oU c2.rw ((a:Nat):Int)) rfl rfl (by
  intro v hv
  rcases aap.1 hv with rfl | hv
  ·rfl
  ·rcases aap.1 hv with rfl | hv
   ·exact vK c2.rw
   ·cases hv)
 have t5:cn 2 (.ptr H1.next 0) H4=some (.agg [.int .u64 ((a:Nat):Int),x]):=t2.cn (n:=2) (o:=0) (by simp)
 have l03:ld (.ptr H.next 0) H3=some (.int .u64 ((a:Nat):Int)):=(r2.out c3 fun q=>by cases q).ld rfl
 refine⟨x,H4,aed ?_,c2.rw.out t3 fun j hj q => ?_,((b3.trans n3).trans c3).then t3 fun j hj => ?_,fun j hj=>abl (b3.trans n3).1 (c4 j hj)⟩
 ·unfold XJ
  simp only[b1,n1,l0,l1,c1,f1,t1,l03,eX (B4 .u64 ((a:Nat):Int)),t5,az,bd,aw,av,bG,aH,au,ak,aK,aA,aP,bK,aE,bO,bC,aR,bu,ay,bF,aT,aC,bq,aU,bI,bM,ba,aI,aW,aQ,ar,aV,a7,bS,aF,aO,bt,bJ,aN,aM,aD,bB,br,aY,bQ,bT,bk,bH,af,bp,ag,bP,ah,aB,aG,bw,bA,bR,aL,bN,bD,bo,aj,bh,bg,aq,ai,aS,a8,aZ,bE,aJ,nq,gk,wc,yL,yB,decide_true,decide_false,simprocAttr,aaJ,bne_self_eq_false,ge_iff_le,gt_iff_lt]
 ·rw[yX] at q
  have:=c4 j hj
  omega
 ·rw[yX] at hj
  have:=b3.1
  exact .inr (by omega)
section
variable {H:Hp}{lp p:Nat}{m:LM}{l:LP}
theorem ajK (h:Lg H lp p m l)(hs:Small m){j:Nat}{r:Nat × List Nat}(hj:m.ab[j]? = some r)(hr:r.2.length<=100000) :
  ∃ x H',cK (.func (.func 10) [] []) [.ptr lp 0,.int .i64 (m.first+(j:Nat))] H=some (.tuple [.agg [.int .u64 (r.1:Nat),x],.int .i64 0],H')/\Rw H' 1 x (bs r.2)/\Out [] H H'/\∀ i∈aa x,H.next<=i:=by
 have nW:=(aaL.1 hj).1
 have h1:=hs.first
 have h2:=hs.ab
 obtain⟨H1,n1,n2,n3,n4⟩:=iI H [.int .u64 0,.ae] 37 0 (by simp)
 have g1:=h.gR n3
 have l4:=g1.head.ld (o:=4) rfl
 have l3:=g1.head.ld (o:=3) rfl
 have d1:decide (m.first+(j:Nat)<m.first)=false:=decide_eq_false (by omega)
 have e1:=mr g1 hs
 have d2:decide (cJ m<=m.first+(j:Nat))=false:=decide_eq_false (by unfold cJ;omega)
 have w:IntKind.wrap .i64 (m.first+(j:Nat)-m.first)=(j:Nat):=by rw[wrap_i64 (by omega) (by omega)];omega
 obtain⟨i,o,y,a1,a2,a3,a4,a5,a6⟩:=g1.ab.cn hj
 obtain⟨x,H2,c1,c2,c3,c4⟩:=XW (a:=r.1) a5 hr
 have zT:=n2.out c3 fun q=>by cases q
 obtain⟨H3,t1,t2,t3,t4⟩:=qo (n:=2) zT (by omega) (oU c2 ((r.1:Nat):Int)) rfl rfl (by
  intro v hv
  rcases aap.1 hv with rfl | hv
  ·rfl
  ·rcases aap.1 hv with rfl | hv
   ·exact vK c2
   ·cases hv)
 have t5:cn 2 (.ptr H.next 0) H3=some (.agg [.int .u64 ((r.1:Nat):Int),x]):=t2.cn (n:=2) (o:=0) (by simp)
 have Gq:=a1 .i64
 refine⟨x,H3,akL ?_,c2.out t3 fun k hk q => ?_,(n3.trans c3).then t3 fun k hk => ?_,fun k hk=>abl n3.1 (c4 k hk)⟩
 ·unfold Mc
  simp only[n1,l4,l3,d1,e1,d2,w,Gq,a2,c1,t1,t5,az,bd,aw,av,bG,aH,au,ak,aK,aA,aP,bK,aE,bO,bC,aR,bu,ay,bF,aT,aC,bq,aU,bI,bM,ba,aI,aW,aQ,ar,aV,a7,bS,aF,aO,bt,bJ,aN,aM,aD,bB,br,aY,bQ,bT,bk,bH,af,bp,ag,bP,ah,aB,aG,bw,bA,bR,aL,bN,bD,bo,aj,bh,bg,aq,ai,aS,a8,aZ,bE,aJ,nq,gk,wc,yL,yB,decide_true,decide_false,simprocAttr,aaJ,bne_self_eq_false,ge_iff_le,gt_iff_lt]
 ·rw[yX] at q
  have:=c4 k hk
  omega
 ·rw[yX] at hk
  exact .inr (by omega)
theorem Wo {H0:Hp}(hs:Small m)(hr:∀ r∈m.ab,r.2.length<=100000){cN:Int}(h0:Lg H0 lp p m l)(hf:∀ j∈lf lp p l,j<H0.next):∀ (n i:Nat) (x:AV) (rs:List (Nat × List Nat)) (ys:List AV) (H:Hp),m.ab.length=i+n->Lg H lp p m l->Out [] H0 H->Rs H x rs ys->(∀ j∈aa x,H0.next<=j)->rs.length<=i->
  ∃ x' uJ H',(∀ k:K.Fn 1,GS JN GO cK k (.ptr lp 0) (.int .i64 (m.first+(i:Nat))) (.int .i64 cN) x H=k x' H')/\Lg H' lp p m l/\Out [] H0 H'/\Rs H' x' (rs++(m.ab.drop i).take (cN-rs.length).toNat) uJ/\(∀ j∈aa x',H0.next<=j)
 | 0,i,x,rs,ys,H,hn,h,ho,hx,hd,hl=>by
  have uu:m.ab.drop i=[]:=ae8 (by omega)
  refine⟨x,ys,H,fun k => ?_,h,ho,by rw[uu];simpa using hx,hd⟩
  have e1:=mr h hs
  have d:decide (m.first+(i:Nat)<cJ m)=false:=decide_eq_false (by unfold cJ;omega)
  rw[I3]
  simp only[yH,e1,d,az,bd,aw,av,bG,aH,au,ak,aK,aA,aP,bK,aE,bO,bC,aR,bu,ay,bF,aT,aC,bq,aU,bI,bM,ba,aI,aW,aQ,ar,aV,a7,bS,aF,aO,bt,bJ,aN,aM,aD,bB,br,aY,bQ,bT,bk,bH,af,bp,ag,bP,ah,aB,aG,bw,bA,bR,aL,bN,bD,bo,aj,bh,bg,aq,ai,aS,a8,aZ,bE,aJ,nq,gk,wc,yL,yB,decide_true,decide_false,simprocAttr,aaJ,bne_self_eq_false,ge_iff_le,gt_iff_lt]
 | n+1,i,x,rs,ys,H,hn,h,ho,hx,hd,hl=>by
  have e1:=mr h hs
  have d:decide (m.first+(i:Nat)<cJ m)=true:=decide_eq_true (by unfold cJ;omega)
  have cT:=hx.nX
  by_cases hm:((rs.length:Nat):Int)<cN
  ·have d2:decide (((rs.length:Nat):Int)<cN)=true:=decide_eq_true hm
   have h1:=hs.first
   have h2:=hs.ab
   obtain⟨r,hj⟩:∃ r,m.ab[i]? = some r:=⟨_,abb (by omega)⟩
   have iH:=hr r (abY hj)
   have l4:=h.head.ld (o:=4) rfl
   have l3:=h.head.ld (o:=3) rfl
   have w:IntKind.wrap .i64 (m.first+(i:Nat)-m.first)=(i:Nat):=by rw[wrap_i64 (by omega) (by omega)];omega
   have w2:IntKind.wrap .i64 (m.first+(i:Nat)+1)=m.first+((i+1:Nat):Int):=by rw[wrap_i64 (by omega) (by omega)];omega
   obtain⟨b,o,y,a1,a2,a3,a4,a5,a6⟩:=h.ab.cn hj
   obtain⟨x2,H1,c1,c2,c3,c4⟩:=XW (a:=r.1) a5 iH
   have kZ:=hx.out c3
   have cr:=oU c2 ((r.1:Nat):Int)
   have f1:fl [(.int .u64 0),.ae] [(0,2,.agg [.int .u64 (r.1:Nat),x2])]=some [.int .u64 (r.1:Nat),x2]:=by simp[fl,cr]
   have aj8:=hx.own.rw.lt
   obtain⟨H2,s',H3,m1,m2,m3,m4,m5⟩:=kZ.push (a:=r.1) c2 (fun j hj q=>by have:=c4 j hj;have:=aj8 j q;omega) (by omega)
   have zD:=ho.trans c3
   have jV:Out [] H0 H3:=zD.then m4 fun j hj => .inr (hd j hj)
   have h3:Lg H3 lp p m l:=(h.gR c3).out m4 (fun j hj q=>by have:=hf j hj;have:=hd j q;omega) fun y hy k hk q=>by
    have:=h0.ab.tk y hy k hk
    have:=hd k q
    omega
   have KL:∀ j∈aa s',H0.next<=j:=fun j hj=>(m5 j hj).elim (hd j) fun q=>abl zD.1 q
   obtain⟨x',uJ,H',k1,k2,k3,k4,k5⟩:=Wo hs hr h0 hf n (i+1) s' _ _ H3 (by omega) h3 jV m3 KL (by simp;omega)
   have Gq:=a1 .i64
   refine⟨x',uJ,H',fun k => ?_,k2,k3,?_,k5⟩
   ·rw[I3]
    simp only[yH,e1,d,cT,d2,l4,l3,w,Gq,a2,c1,f1,m1,m2,w2,az,bd,aw,av,bG,aH,au,ak,aK,aA,aP,bK,aE,bO,bC,aR,bu,ay,bF,aT,aC,bq,aU,bI,bM,ba,aI,aW,aQ,ar,aV,a7,bS,aF,aO,bt,bJ,aN,aM,aD,bB,br,aY,bQ,bT,bk,bH,af,bp,ag,bP,ah,aB,aG,bw,bA,bR,aL,bN,bD,bo,aj,bh,bg,aq,ai,aS,a8,aZ,bE,aJ,nq,gk,wc,yL,yB,decide_true,decide_false,simprocAttr,aaJ,bne_self_eq_false,ge_iff_le,gt_iff_lt]
    exact k1 k
   ·have e:(m.ab.drop i).take (cN-rs.length).toNat=r::(m.ab.drop (i+1)).take (cN-((rs++[r]).length:Nat)).toNat:=by
     have B8:=(aaL.1 hj).1
     rw[List.drop_eq_getElem_cons B8,(aaL.1 hj).2]
     have:(cN-((rs.length:Nat):Int)).toNat=(cN-(((rs++[r]).length:Nat):Int)).toNat+1:=by
      rw[aaO]
      simp only[abg,abQ]
      omega
     rw[this,afQ]
    rw[e]
    have:=k4
    rw[adf] at this
    exact this
  ·have d2:decide (((rs.length:Nat):Int)<cN)=false:=decide_eq_false hm
   have ht:(cN-((rs.length:Nat):Int)).toNat=0:=by omega
   refine⟨x,ys,H,fun k => ?_,h,ho,by rw[ht];simpa using hx,hd⟩
   rw[I3]
   simp only[yH,e1,d,cT,d2,az,bd,aw,av,bG,aH,au,ak,aK,aA,aP,bK,aE,bO,bC,aR,bu,ay,bF,aT,aC,bq,aU,bI,bM,ba,aI,aW,aQ,ar,aV,a7,bS,aF,aO,bt,bJ,aN,aM,aD,bB,br,aY,bQ,bT,bk,bH,af,bp,ag,bP,ah,aB,aG,bw,bA,bR,aL,bN,bD,bo,aj,bh,bg,aq,ai,aS,a8,aZ,bE,aJ,nq,gk,wc,yL,yB,decide_true,decide_false,simprocAttr,aaJ,bne_self_eq_false,ge_iff_le,gt_iff_lt]
end
theorem IL (H:Hp):Rs H .ae [] []:=⟨.nil,rfl,(fun j y r h=>by simp at h),(fun y h=>by cases h)⟩
section
variable {H:Hp}{lp p:Nat}{m:LM}{l:LP}
theorem ahb (h:Lg H lp p m l)(hs:Small m)(hr:∀ r∈m.ab,r.2.length<=100000)(off cN:Int) :
  ∃ x ys H',cK (.func (.func 9) [] []) [.ptr lp 0,.int .i64 off,.int .i64 cN] H=some (x,H')/\Lg H' lp p m l/\Out [] H H'/\Rs H' x ((m.ab.drop ((if off<m.first then m.first else off)-m.first).toNat).take cN.toNat) ys:=by
 have l4:=h.head.ld (o:=4) rfl
 have e1:=mr h hs
 have h1:=hs.first
 have h2:=hs.ab
 generalize hv:(if off<m.first then m.first else off)=v
 have fu:m.first<=v:=by subst hv;split<;>omega
 have ye:fx P .max #[2,2] [.int .i64 off,.int .i64 m.first] H=some (.int .i64 v,H):=by rw[Fb,hv]
 by_cases hb:v<cJ m
 ·obtain⟨x',uJ,H',k1,k2,k3,k4,k5⟩:=Wo hs hr (cN:=cN) h h.lt (m.ab.length-(v-m.first).toNat) (v-m.first).toNat .ae [] [] H (by unfold cJ at hb;omega) h (Out.refl _ _) (IL _) (fun j hj=>by cases hj) (ack _)
  rw[show m.first+(((v-m.first).toNat:Nat):Int)=v by omega] at k1
  refine⟨x',uJ,H',Vd ?_,k2,k3,by simpa using k4⟩
  unfold Ks
  simp only[yH,l4,ye,k1,az,bd,aw,av,bG,aH,au,ak,aK,aA,aP,bK,aE,bO,bC,aR,bu,ay,bF,aT,aC,bq,aU,bI,bM,ba,aI,aW,aQ,ar,aV,a7,bS,aF,aO,bt,bJ,aN,aM,aD,bB,br,aY,bQ,bT,bk,bH,af,bp,ag,bP,ah,aB,aG,bw,bA,bR,aL,bN,bD,bo,aj,bh,bg,aq,ai,aS,a8,aZ,bE,aJ,nq,gk,wc,yL,yB,decide_true,decide_false,simprocAttr,aaJ,bne_self_eq_false,ge_iff_le,gt_iff_lt]
 ·have uu:m.ab.drop (v-m.first).toNat=[]:=ae8 (by unfold cJ at hb;omega)
  have d:decide (v<cJ m)=false:=decide_eq_false hb
  refine⟨.ae,[],H,Vd ?_,h,Out.refl _ _,by rw[uu];simpa using (IL H)⟩
  unfold Ks
  simp only[yH,l4,ye,az,bd,aw,av,bG,aH,au,ak,aK,aA,aP,bK,aE,bO,bC,aR,bu,ay,bF,aT,aC,bq,aU,bI,bM,ba,aI,aW,aQ,ar,aV,a7,bS,aF,aO,bt,bJ,aN,aM,aD,bB,br,aY,bQ,bT,bk,bH,af,bp,ag,bP,ah,aB,aG,bw,bA,bR,aL,bN,bD,bo,aj,bh,bg,aq,ai,aS,a8,aZ,bE,aJ,nq,gk,wc,yL,yB,decide_true,decide_false,simprocAttr,aaJ,bne_self_eq_false,ge_iff_le,gt_iff_lt]
  rw[I3]
  simp only[yH,e1,d,az,bd,aw,av,bG,aH,au,ak,aK,aA,aP,bK,aE,bO,bC,aR,bu,ay,bF,aT,aC,bq,aU,bI,bM,ba,aI,aW,aQ,ar,aV,a7,bS,aF,aO,bt,bJ,aN,aM,aD,bB,br,aY,bQ,bT,bk,bH,af,bp,ag,bP,ah,aB,aG,bw,bA,bR,aL,bN,bD,bo,aj,bh,bg,aq,ai,aS,a8,aZ,bE,aJ,nq,gk,wc,yL,yB,decide_true,decide_false,simprocAttr,aaJ,bne_self_eq_false,ge_iff_le,gt_iff_lt]
end
theorem amH:wq []=[]:=by
 have h:∀ z,z∉wq []:=fun z hz=>by
  obtain⟨s,hs,_⟩:=(Rk [] z).1 hz
  cases hs
 cases hq:wq [] with
 | nil=>rfl
 | cons a r=>exact absurd (hq▸List.Mem.head _) (h a)
section
variable {lp p:Nat}{m:LM}{l:LP}{x y:AV}{xs ys:List AV}
theorem Yo (hs:Small m)(hf:m.first=0)(hr:∀ r∈m.ab,r.2.length<=100000/\∀ v∈r.2,v<256):∀ (n i:Nat) (H:Hp),m.ab.length=i+n->Lg H lp p m l->Rs H x m.ab xs->Rs H y m.ab ys->
  ∃ H',∀ k:K.Fn 0,DN JN GO cK k (.ptr lp 0) (.int .i64 0) x y (.int .i64 (i:Nat)) H=k H'
 | 0,i,H,hn,h,hx,hy=>by
  have cT:=hx.nX
  have d:decide (((i:Nat):Int)<((m.ab.length:Nat):Int))=false:=decide_eq_false (by omega)
  refine⟨H,fun k => ?_⟩
  rw[Zb]
  simp only[Il,cT,d,az,bd,aw,av,bG,aH,au,ak,aK,aA,aP,bK,aE,bO,bC,aR,bu,ay,bF,aT,aC,bq,aU,bI,bM,ba,aI,aW,aQ,ar,aV,a7,bS,aF,aO,bt,bJ,aN,aM,aD,bB,br,aY,bQ,bT,bk,bH,af,bp,ag,bP,ah,aB,aG,bw,bA,bR,aL,bN,bD,bo,aj,bh,bg,aq,ai,aS,a8,aZ,bE,aJ,nq,gk,wc,yL,yB,decide_true,decide_false,simprocAttr,aaJ,bne_self_eq_false,ge_iff_le,gt_iff_lt]
 | n+1,i,H,hn,h,hx,hy=>by
  have cT:=hx.nX
  have hl:=hs.ab
  have d:decide (((i:Nat):Int)<((m.ab.length:Nat):Int))=true:=decide_eq_true (by omega)
  obtain⟨r,hj⟩:∃ r,m.ab[i]? = some r:=⟨_,abb (by omega)⟩
  obtain⟨iH,gK⟩:=hr r (abY hj)
  obtain⟨xg,H1,g1,g2,g3,g4⟩:=ajK h hs hj iH
  rw[hf,Int.zero_add] at g1
  have w1:IntKind.wrap .i64 (0+((i:Nat):Int))=((i:Nat):Int):=by rw[wrap_i64 (by omega) (by omega)];omega
  obtain⟨H2,n1,n2,n3,n4⟩:=iI H1 [.int .u64 0,.ae] 37 0 (by simp)
  obtain⟨H3,t1,t2,t3,t4⟩:=qo (n:=2) n2 (by omega) (oU g2 ((r.1:Nat):Int)) rfl rfl (by
   intro v hv
   rcases aap.1 hv with rfl | hv
   ·rfl
   ·rcases aap.1 hv with rfl | hv
    ·exact vK g2
    ·cases hv)
  have o3:Out [] H1 H3:=n3.then t3 fun j hj=>by rw[yX] at hj;exact .inr (by omega)
  have oH:Out [] H H3:=g3.trans o3
  have l0:ld (.ptr H1.next 0) H3=some (.int .u64 ((r.1:Nat):Int)):=t2.ld rfl
  have l1:ld (.ptr H1.next 1) H3=some xg:=t2.ld rfl
  have hx3:=hx.out oH
  have Al:=hy.out oH
  obtain⟨b1,o1,y1,u1,u2,u3,u4,u5,u6⟩:=hx3.cn hj
  obtain⟨b2,o2,y2,v1,v2,v3,v4,v5,v6⟩:=Al.cn hj
  have P4:=u1 .i64
  have vj:=v1 .i64
  rw[acJ] at u3 v3
  have sg:=P8 (g2.out o3 fun j _ q=>by cases q) gK
  have sx:=P8 u5 gK
  have sy:=P8 v5 gK
  have e3:IntKind.wrap .i64 (((i:Nat):Int)+1)=((i+1:Nat):Int):=by rw[wrap_i64 (by omega) (by omega)];rfl
  obtain⟨H4,k1⟩:=Yo hs hf hr n (i+1) H3 (by omega) (h.gR oH) hx3 Al
  refine⟨H4,fun k => ?_⟩
  rw[Zb]
  simp only[Il,cT,d,w1,g1,n1,t1,l0,P4,u3,l1,sg,u4,sx,vj,v3,v4,sy,e3,acJ,k1,az,bd,aw,av,bG,aH,au,ak,aK,aA,aP,bK,aE,bO,bC,aR,bu,ay,bF,aT,aC,bq,aU,bI,bM,ba,aI,aW,aQ,ar,aV,a7,bS,aF,aO,bt,bJ,aN,aM,aD,bB,br,aY,bQ,bT,bk,bH,af,bp,ag,bP,ah,aB,aG,bw,bA,bR,aL,bN,bD,bo,aj,bh,bg,aq,ai,aS,a8,aZ,bE,aJ,nq,gk,wc,yL,yB,decide_true,decide_false,simprocAttr,aaJ,bne_self_eq_false,ge_iff_le,gt_iff_lt]
theorem VY {H:Hp}(h:Lg H lp p m l):cK (.func (.func 20) [] []) [.ptr lp 0] H=some (.int .i64 m.first,H):=by
 have l4:=h.head.ld (o:=4) rfl
 refine agm ?_
 unfold XU
 simp only[l4,az,bd,aw,av,bG,aH,au,ak,aK,aA,aP,bK,aE,bO,bC,aR,bu,ay,bF,aT,aC,bq,aU,bI,bM,ba,aI,aW,aQ,ar,aV,a7,bS,aF,aO,bt,bJ,aN,aM,aD,bB,br,aY,bQ,bT,bk,bH,af,bp,ag,bP,ah,aB,aG,bw,bA,bR,aL,bN,bD,bo,aj,bh,bg,aq,ai,aS,a8,aZ,bE,aJ,nq,gk,wc,yL,yB,decide_true,decide_false,simprocAttr,aaJ,bne_self_eq_false,ge_iff_le,gt_iff_lt]
theorem am3 {H:Hp}(h:Lg H lp p m l)(hs:Small m)(hf:m.first=0)(hr:∀ r∈m.ab,r.2.length<=100000/\∀ v∈r.2,v<256)(hx:Rs H x m.ab xs) :
  ∃ H',cK (.func (.func 21) [] []) [.ptr lp 0,.int .i64 0,x] H=some (.bool true,H'):=by
 have hl:=hs.ab
 have e1:=VY h
 rw[hf] at e1
 have e2:=mr h hs
 have hE:cJ m=((m.ab.length:Nat):Int):=by unfold cJ;rw[hf];omega
 rw[hE] at e2
 have cT:=hx.nX
 have w:IntKind.wrap .i64 (0+((m.ab.length:Nat):Int))=((m.ab.length:Nat):Int):=by rw[wrap_i64 (by omega) (by omega)];omega
 obtain⟨y,ys,H1,s1,s2,s3,s4⟩:=ahb h hs (fun r dg=>(hr r dg).1) 0 10000
 have hd:(m.ab.drop ((if (0:Int)<m.first then m.first else 0)-m.first).toNat).take (10000:Int).toNat=m.ab:=by
  rw[hf,if_neg (by decide)]
  exact acI (by rw[show ((0:Int)-0).toNat=0 from rfl,adE];have:(10000:Int).toNat=10000:=rfl;omega)
 rw[hd] at s4
 have fS:=s4.nX
 obtain⟨H2,k1⟩:=Yo hs hf hr m.ab.length 0 H1 (by omega) s2 (hx.out s3) s4
 rw[show (((0:Nat):Int))=0 from rfl] at k1
 refine⟨H2,adM ?_⟩
 unfold NI
 simp only[e1,e2,cT,w,s1,fS,k1,az,bd,aw,av,bG,aH,au,ak,aK,aA,aP,bK,aE,bO,bC,aR,bu,ay,bF,aT,aC,bq,aU,bI,bM,ba,aI,aW,aQ,ar,aV,a7,bS,aF,aO,bt,bJ,aN,aM,aD,bB,br,aY,bQ,bT,bk,bH,af,bp,ag,bP,ah,aB,aG,bw,bA,bR,aL,bN,bD,bo,aj,bh,bg,aq,ai,aS,a8,aZ,bE,aJ,nq,gk,wc,yL,yB,decide_true,decide_false,simprocAttr,aaJ,bne_self_eq_false,ge_iff_le,gt_iff_lt]
end
end Go.Proofs.YtbdlbhlhnpblpaaGreatDoor.du
namespace Go.Proofs.YtbdlbhlhnpblpaaGreatDoor.kf
open Go Am Am.K eU Sg gM rB iR fX cS du
section
theorem XP:dK.b7 19=some (dK.lo 19):=by kernel_rfl
theorem aco:dK.b7 35=some (dK.lo 35):=by kernel_rfl
theorem al4:dK.b7 37=some (dK.lo 37):=by kernel_rfl
theorem ahk:dK.b7 23=some (dK.lo 23):=by kernel_rfl
theorem abk {H:Hp}{p:Nat}{m:SM}{L:Lay}(h:St H p m L)(hT:fY H dL)(hn:11<=H.next)(dR:∀ j∈cB p L,11<=j){cN:Int}(h1:64<=cN)(h2:cN<=1048576)(ho:m.off=false)(xf:m.cq=0)
  {zs:List Int} (hz:wq (names m)=zs) (ie:(names m).length<=1000) (wD:∀ z∈zs,eP z=true) (hlen:zs.length<=15) (gK:∀ z∈zs,∀ v∈gq m (bU z),v<256) (kD:∀ z∈zs,(gq m (bU z)).length<=1008) (jZ:∀ a r,zs=a++r->AM r.reverse m) (dD:∀ z∈zs,0<=z/\z<=17592186040000)
  {x:Int × LM} (hx:jL zs (IE zs ⟨cN,m,[],[],0,0⟩)=x) (Nh:x.1=0) (ij:Small x.2) (ea:∀ q∈x.2.parts,eP q.1=true) (ck:(qV x.2.parts x.2.m).1=0) :
  ∃ lp l H',cK (.func (.func 15) [] []) [.ptr p 0,.int .i64 cN] H=some (.tuple [.ptr lp 0,.int .i64 0],H')/\Lg H' lp p { x.2 with m:=(qV x.2.parts x.2.m).2,sure:=cJ x.2 } l/\Out (cB p L) H H'/\∀ j∈lf lp p l,H.next<=j\/j∈cB p L:=by
 have d1:decide (cN<64)=false:=decide_eq_false (by omega)
 have d2:decide (1048576<cN)=false:=decide_eq_false (by omega)
 have e1:=low XP (cS.BQ h)
 rw[ho] at e1
 have hf:fl [.cD,(.int .i64 0),.ae,.ae,(.int .i64 0),(.int .i64 0)] [(0,1,AV.ptr p 0),(1,1,AV.int .i64 cN)]=some [.ptr p 0,.int .i64 cN,.ae,.ae,.int .i64 0,.int .i64 0]:=rfl
 obtain⟨H1,b1,b2,b3,b4⟩:=xC H 57 (.agg [.ptr p 0,.int .i64 cN,.ae,.ae,.int .i64 0,.int .i64 0]) _ rfl (by simp)
 have zv:=h.out b3 fun j _ q=>by cases q
 obtain⟨xn,H2,n1,n2,n3,n4,n5⟩:=Yi zv
 have Bv:=low aco n1
 have zT:Rw H2 1 xn (fX.strs (names m)):=n2
 have o2:Out [] H H2:=b3.trans n3
 obtain⟨y,H3,p1,p2,p3,p4⟩:=ajg zT (ma hT hn o2) (abl hn o2.1) ie (fun s hs=>by
  unfold names at hs
  rw[KM] at hs
  obtain⟨f,zS,rfl⟩:=abn.1 hs
  have:=aby (h.ok.qD f zS)
  omega)
 have Km:=low al4 p1
 rw[hz] at p3
 have o3:Out [] H H3:=o2.trans p2
 have KL:=(b2.out n3 fun q=>by cases q).out p2 fun q=>by cases q
 have iN:H.next∉cB p L:=fun q=>by have:=h.lt _ q;omega
 have g3:Lg H3 H.next p ⟨cN,m,[],[],0,0⟩ ⟨L,.ae,.ae,[]⟩:=⟨⟨_,KL⟩,h.out o3 (fun j _ q=>by cases q),OL.nil _ _ _,IL _,KS h.nd (fun q=>by cases q) (fun q=>by cases q) iN (fun j hj=>by cases hj) (fun j hj=>by cases hj) (fun j hj=>by cases hj),(fun y hy=>by cases hy)⟩
 have tw:∀ j∈lf H.next p (⟨L,.ae,.ae,[]⟩:LP),j=H.next\/j∈cB p L:=fun j hj=>by
  rcases F8 hj with q | q | q | q
  ·exact .inl q
  ·cases q
  ·cases q
  ·exact .inr q
 have WD:∀ j∈lf H.next p (⟨L,.ae,.ae,[]⟩:LP),11<=j:=fun j hj=>(tw j hj).elim (fun q=>by omega) (dR j)
 have Zm:=ma hT hn o3
 have WN:11<=H3.next:=abl hn o3.1
 have hyf:∀ j∈aa y,j∉lf H.next p (⟨L,.ae,.ae,[]⟩:LP):=fun j hj q=>by
  have h5:=p4 j hj
  have h6:=o2.1
  have h7:=n3.1
  rcases tw j q with e | e
  ·omega
  ·have:=h.lt j e;omega
 obtain⟨H5,l5,r1,r2,r3⟩:=amV (m:=⟨cN,m,[],[],0,0⟩) wD hlen gK kD ho xf jZ g3 Zm WN WD rfl rfl rfl dD p3.rw hyf
 rw[hx] at r1 r2
 rw[Nh] at r1
 obtain⟨hT5,KV,aca⟩:=AF Zm WN WD r3
 have hZ:=r2.parts.rl.len (by decide)
 rw[acs] at hZ
 have l52:=r2.head.ld (o:=2) rfl
 obtain⟨H6,l6,k1,k2,k3,k4⟩:=YK ea ij.parts x.2.parts [] H5 x.2 l5 rfl hT5 KV r2 rfl aca
 rw[abQ,show (((0:Nat):Int))=0 from rfl] at k1
 simp only[ck,if_true] at k1
 have sm:Small { x.2 with m:=(qV x.2.parts x.2.m).2 }:=⟨ij.first,ij.ab,ij.at',ij.parts,ij.part⟩
 have e5:=low CN (mr k2 sm)
 obtain⟨H7,t1,t2,t3⟩:=k2.Kt (cJ x.2)
 have e5':cK (.func (.func 16) [] []) [.ptr H.next 0] H6=some (.int .i64 (cJ x.2),H6):=e5
 have tc:=r3.trans (k3.trans t3)
 refine⟨H.next,l6,H7,U1 ?_,t2,(o3.mono fun j hj=>by cases hj).then tc.1 fun j hj=>(tw j hj).elim (fun q => .inr (by omega)) .inl,fun j hj => ?_⟩
 ·unfold Cf
  simp only[d1,d2,e1,hf,b1,Bv,Km,r1,l52,hZ,k1,e5',t1,az,bd,aw,av,bG,aH,au,ak,aK,aA,aP,bK,aE,bO,bC,aR,bu,ay,bF,aT,aC,bq,aU,bI,bM,ba,aI,aW,aQ,ar,aV,a7,bS,aF,aO,bt,bJ,aN,aM,aD,bB,br,aY,bQ,bT,bk,bH,af,bp,ag,bP,ah,aB,aG,bw,bA,bR,aL,bN,bD,bo,aj,bh,bg,aq,ai,aS,a8,aZ,bE,aJ,nq,gk,wc,yL,yB,decide_true,decide_false,simprocAttr,aaJ,bne_self_eq_false,ge_iff_le,gt_iff_lt]
 ·rcases tc.2 j hj with q | q
  ·rcases tw j q with e | e
   ·exact .inl (by omega)
   ·exact .inr e
  ·exact .inl (by have:=o3.1;omega)
def FU (r:Nat)(cN:Int):LM:=⟨cN,⟨r,false,0,[],[]⟩,[],[],0,0⟩
theorem ac4 {H:Hp}(hT:fY H dL)(hn:11<=H.next){cN:Int}(h1:64<=cN)(h2:cN<=1048576) :
  ∃ lp p l H',cK (.func (.func 7) [] []) [.int .i64 cN] H=some (.tuple [.ptr lp 0,.ptr p 0],H')/\Lg H' lp p (FU 65536 cN) l/\Out [] H H'/\(∀ j∈lf lp p l,H.next<=j):=by
 obtain⟨H1,p,L,n1,n2,n3,n4⟩:=(abR H 65536).2 65536 rfl (by omega) (by omega)
 have Bv:=low ahk n1
 obtain⟨lp,l,H2,o1,o2,o3,o4⟩:=abk n2 (ma hT hn n3) (abl hn n3.1) (fun j hj=>abl hn (n4 j hj)) h1 h2 rfl rfl (zs:=[]) (by
   have:names ⟨65536,false,0,[],[]⟩=[]:=rfl
   rw[this];exact amH) (ack _) (fun z hz=>by cases hz) (ack _) (fun z hz=>by cases hz) (fun z hz=>by cases hz) (fun a r e=>by
   have:r=[]:=by have:=congrArg List.length e;simp at this;exact ae7 (by omega)
   rw[this];trivial) (fun z hz=>by cases hz) (x:=(0,FU 65536 cN)) rfl rfl ⟨⟨Int.le_refl _,by show (0:Int)<=17592186040000;decide⟩,ack _,(fun r h=>by cases h),ack _,(fun q h=>by cases h)⟩ (fun q hq=>by cases hq) rfl
 refine⟨lp,p,l,H2,VJ ?_,o2,n3.then o3 fun j hj => .inr (n4 j hj),fun j hj=>(o4 j hj).elim (fun q=>abl n3.1 q) (n4 j)⟩
 unfold Ij
 simp only[Bv,o1,az,bd,aw,av,bG,aH,au,ak,aK,aA,aP,bK,aE,bO,bC,aR,bu,ay,bF,aT,aC,bq,aU,bI,bM,ba,aI,aW,aQ,ar,aV,a7,bS,aF,aO,bt,bJ,aN,aM,aD,bB,br,aY,bQ,bT,bk,bH,af,bp,ag,bP,ah,aB,aG,bw,bA,bR,aL,bN,bD,bo,aj,bh,bg,aq,ai,aS,a8,aZ,bE,aJ,nq,gk,wc,yL,yB,decide_true,decide_false,simprocAttr,aaJ,bne_self_eq_false,ge_iff_le,gt_iff_lt]
def sj (s:Sm):Nat × List (Nat × List Nat):=(s.first,s.rs)
theorem FL:∀ ss:List Sm,b8 ss=(ss.map sj).flatMap (·.2)
 | []=>rfl
 | s::r=>by rw[D1,FL r];rfl
theorem MR:∀ ss:List Sm,ss.map sP=(ss.map sj).map (fun q=>(((q.1:Nat):Int),(((fb q.2).length:Nat):Int)))
 | []=>rfl
 | s::r=>by rw[abc,MR r];rfl
theorem Rl {ss tt:List Sm}(h:ss.map sj=tt.map sj){s:Sm}(hs:s∈ss):∃ t∈tt,t.first=s.first/\t.rs=s.rs:=by
 have:sj s∈tt.map sj:=h▸abn.2 ⟨s,hs,rfl⟩
 obtain⟨t,ht,e⟩:=abn.1 this
 simp only[sj,abI] at e
 exact⟨t,ht,e.1,e.2⟩
theorem ae6 {m:LM}{ss:List Sm}(g:Gd ss)(w:Wu m ss):∃ dw,dw.map sj=ss.map sj/\At (pt m).2.m dw/\((pt m).2.m.off=false->Wu (pt m).2 dw)/\(∀ n,Sq n ss->Sq n dw)/\((pt m).1=0->(pt m).2.m.off=false/\∀ n,Sq n dw):=by
 obtain⟨dw,i1,i2,i3,i4,i5⟩:=OQ ss [] m.m g w.off w.fs
 have De:dw.map sj=ss.map sj:=i2
 have Z0:pt m=((jM (ss.map sP) m.m).1,{ m with m:=(jM (ss.map sP) m.m).2,sure:=if (jM (ss.map sP) m.m).1=0 then cJ m else m.sure }):=by
  unfold pt
  rw[if_neg (by rw[w.off];decide),w.parts]
 rw[Z0]
 refine⟨dw,De,i1,fun ho => ?_,fun n h=>i4 n h,fun h=>⟨(i5 h).1,fun n => ?_⟩⟩
 ·have gP:(jM (ss.map sP) m.m).2.fs=dw.map sF:=by
   rcases i1 with⟨_,q⟩ | ⟨q,_⟩
   ·exact q
   ·rw[show (jM (ss.map sP) m.m).2.off=false from ho] at q;cases q
  refine⟨?_,?_,w.first,w.cN,Mz ss dw 0 De.symm w.chain,fun s hs => ?_,ho,gP,fun s hs => ?_⟩
  ·show m.parts=_
   rw[w.parts,MR,MR dw,De]
  ·show m.ab=_
   rw[w.ab,FL,FL dw,De]
  ·obtain⟨t,ht,h1,h2⟩:=Rl De hs
   rw[<-h2];exact w.ne t ht
  ·obtain⟨t,ht,h1,h2⟩:=Rl De hs
   rw[<-h2];exact w.size t ht
 ·rw[(i5 h).2]
  intro s hs
  rw[adt] at hs
  obtain⟨t,ht,rfl⟩:=abn.1 hs
  exact (A3 t.rs _).1
theorem Pb:∀ ss:List Sm,(∀ s∈ss,s.rs≠[])->ss.length<=(b8 ss).length
 | [],_=>zf _
 | s::r,h=>by
  have h1:=Pb r fun t ht=>h t (.tail _ ht)
  have h2:0<s.rs.length:=List.length_pos_iff.2 (h s (.head _))
  rw[D1,aaO,abg]
  omega
def fe (e:Nat):Nat->List (List Nat)->List (Nat × List Nat)
 | _,[]=>[]
 | i,b::r=>(e*17592186044416+i,b)::fe e (i+1) r
theorem la (e:Nat):∀ (i:Nat) (l:List (List Nat)),(fe e i l).length=l.length
 | i,[]=>rfl
 | i,b::r=>by rw[fe,abg,la e (i+1) r,abg]
theorem Ut (e:Nat):∀ (l:List (List Nat)) (i:Nat) (b:List Nat),fe e i (l++[b])=fe e i l++[(e*17592186044416+(i+l.length),b)]
 | [],i,b=>rfl
 | c::l,i,b=>by
  rw[aew,fe,Ut e l (i+1) b,fe,aew,abg,show i+1+l.length=i+(l.length+1) by omega]
theorem JA (e:Nat):∀ (l:List (List Nat)) (i n:Nat),(fe e i l).take n=fe e i (l.take n)
 | [],i,n=>by simp[fe]
 | b::l,i,0=>rfl
 | b::l,i,n+1=>by rw[fe,afQ,JA e l,afQ,fe]
theorem TH (e:Nat):∀ (l:List (List Nat)) (i j:Nat) (r:Nat × List Nat),(fe e i l)[j]? = some r->∃ b,l[j]? = some b/\r=(e*17592186044416+(i+j),b)
 | [],i,j,r,h=>by simp[fe] at h
 | b::l,i,0,r,h=>by cases h;exact⟨b,rfl,rfl⟩
 | b::l,i,j+1,r,h=>by
  rw[fe,gk] at h
  obtain⟨c,h1,h2⟩:=TH e l (i+1) j r h
  exact⟨c,by rw[gk];exact h1,by rw[h2,show i+1+j=i+(j+1) by omega]⟩
theorem Jp {e i:Nat}{l:List (List Nat)}{r:Nat × List Nat}(h:r∈fe e i l):∃ k,r.1=e*17592186044416+k/\k<i+l.length/\r.2∈l:=by
 obtain⟨j,hj⟩:=agh.1 h
 obtain⟨b,h1,h2⟩:=TH e l i j r hj
 have bW:=(aaL.1 h1).1
 exact⟨i+j,by rw[h2],by omega,by rw[h2];exact abY h1⟩
theorem aaf {α:Type}{l:List α}{i:Nat}{b:α}(h:l[i]? = some b):l.take (i+1)=l.take i++[b]:=by
 rw[List.take_add_one,h];rfl
theorem Z8 {m:LM}{B:List (List Nat)}{n:Nat}(hf:m.first=0)(hR:m.ab=fe 1 0 (B.take n))(hn:n<=15)(hp:m.parts.length<=1000)(hq:∀ q∈m.parts,0<=q.2/\q.2<=1000):Small m:=by
 have hl:m.ab.length<=15:=by rw[hR,la,abN];omega
 refine⟨by rw[hf];omega,by omega,fun r hr => ?_,hp,fun q h=>by have:=hq q h;omega⟩
 rw[hR] at hr
 obtain⟨k,h1,h2,h3⟩:=Jp hr
 rw[abN] at h2
 omega
theorem RY {m:LM}{ss:List Sm}(w:Wu m ss){B:List (List Nat)}{n:Nat}(hR:b8 ss=fe 1 0 (B.take n))(hn:n<=15):Small m:=by
 have h1:=Pb ss w.ne
 rw[hR,la,abN] at h1
 refine Z8 w.first (w.ab.trans hR) hn (by rw[w.parts,acs];omega) fun q hq => ?_
 rw[w.parts] at hq
 obtain⟨s,hs,rfl⟩:=abn.1 hq
 have:=w.size s hs
 simp only[sP]
 omega
theorem ajc {m:LM}{B:List (List Nat)}{n:Nat}(hR:m.ab=fe 1 0 (B.take n))(hn:n<=15):jK m<=((1:Nat):Int):=by
 unfold jK
 rw[hR]
 cases hq:(fe 1 0 (B.take n)).getLast? with
 | none=>simp
 | some z=>
  obtain⟨k,h1,h2,h3⟩:=Jp (List.mem_of_getLast? hq)
  rw[abN] at h2
  simp only
  omega
theorem afm {B:List (List Nat)}{n:Nat}(h:∀ b∈B.take n,b.length<=200):W4 (fe 1 0 (B.take n)):=fun i r hi=>by
 obtain⟨b,h1,h2⟩:=TH 1 _ 0 i r hi
 have:=h b (abY h1)
 rw[h2]
 exact⟨by simp only;omega,by simp only;omega⟩
abbrev aax:Ty := .struct 4 [(0,1,.int .i64),(1,1,.int .i64),(2,1,.slice 1 (.int .u8)),(3,1,.slice 1 (.int .i64))]
def Ac (H:Hp)(x:AV)(l:List (Int × List Nat)):Prop:=∃ cs,Rw H 4 x cs/\cs.length=l.length*4/\∀ j a,l[j]? = some a->cs[j*4+0]? = some (.int .i64 a.1)/\∃ y,cs[j*4+2]? = some y/\Rw H 1 y (bs a.2)
theorem adq {H:Hp}{x:AV}{d:D}(h:Is H (.slice 4 aax) [x] d):∃ l,Ac H x l/\∀ a∈l,∀ v∈a.2,v<256:=by
 cases h with
 | @slice _ _ _ cs ds hr hl hd=>
  obtain⟨ms,h1,h2⟩:=QS (fun j (m:Int × List Nat)=>(cs[j*4+0]? = some (.int .i64 m.1)/\∃ y,cs[j*4+2]? = some y/\Rw H 1 y (bs m.2))/\∀ v∈m.2,v<256) ds.length (fun j hj=>by
   have hs:=hd j _ (abb hj)
   generalize hL:(cs.drop (j*4)).take 4=L at hs
   generalize ds[j]=dd at hs
   cases hs with
   | @struct _ _ _ es q1 q2 q3=>
    simp only[abg,abQ] at q2
    obtain⟨a,a1,a2⟩:=abv (q3 0 _ _ rfl (abb (by omega)))
    obtain⟨y,c,c1,c2,c3⟩:=akq (q3 2 _ _ rfl (abb (by omega)))
    subst hL
    exact⟨(a,c),⟨UE a1,y,UE c1,c2⟩,c3⟩)
  refine⟨ms,⟨cs,hr,by rw[hl,h1],fun j m hm=>(h2 j m hm).1⟩,fun m hm => ?_⟩
  obtain⟨j,hj⟩:=agh.1 hm
  exact (h2 j m hj).2
theorem Ac.out {H H':Hp}{x:AV}{l:List (Int × List Nat)}(h:Ac H x l)(k:Out [] H H'):Ac H' x l:=by
 obtain⟨cs,h1,h2,h3⟩:=h
 refine⟨cs,h1.out k (fun j _ q=>by cases q),h2,fun j m hm => ?_⟩
 obtain⟨a,y,c,d⟩:=h3 j m hm
 exact⟨a,y,c,d.out k fun j _ q=>by cases q⟩
theorem Ac.nX {H:Hp}{x:AV}{l:List (Int × List Nat)}(h:Ac H x l):cy x=some (.int .i64 (l.length:Nat)):=by
 obtain⟨cs,h1,h2,h3⟩:=h
 obtain⟨n,a,b⟩:=h1.len
 have:n=l.length:=by omega
 rw[a,this]
theorem Ac.at {H:Hp}{x:AV}{l:List (Int × List Nat)}(h:Ac H x l){j:Nat}{a:Int × List Nat}(hj:l[j]? = some a) :
  ∃ i o y,ia 4 x (.int .i64 (j:Nat))=some (.ptr i o)/\Rw H 1 y (bs a.2)/\∀ H',Out [] H H'->ld (.ptr i o) H'=some (.int .i64 a.1)/\ld (.ptr i (o+2)) H'=some y:=by
 obtain⟨cs,h1,h2,h3⟩:=h
 obtain⟨q1,y,q2,q3⟩:=h3 j a hj
 have bW:=(aaL.1 hj).1
 obtain⟨i,o,a1,a2⟩:=I5 h1 (by decide) (j:=j) (by omega) .i64
 refine⟨i,o,y,a1,q3,fun H' k => ?_⟩
 obtain⟨i',o',b1,b2⟩:=I5 (h1.out k fun j _ q=>by cases q) (by decide) (j:=j) (by omega) .i64
 rw[a1] at b1
 cases b1
 exact⟨b2 0 _ q1,b2 2 _ q2⟩
theorem adK {H:Hp}{x:AV}{d:D}(h:Is H (.slice 1 (.int .i64)) [x] d):∃ kl,Rw H 1 x (ints kl):=by
 cases h with
 | @slice _ _ _ cs ds hr hl hd=>
  obtain⟨kl,h1,h2⟩:=QS (fun j (z:Int)=>cs[j]? = some (.int .i64 z)) ds.length (fun j hj=>by
   have hs:=hd j _ (abb hj)
   generalize hL:(cs.drop (j*1)).take 1=L at hs
   obtain⟨z,e,_⟩:=abv hs
   refine⟨z,?_⟩
   rw[<-hL] at e
   have:=congrArg (fun z=>z[0]?) e
   simp only[nq,ac1,acL,adO,acJ] at this
   split at this
   ·exact this.symm
   ·cases this)
  refine⟨kl,?_⟩
  have:cs=ints kl:=by
   apply List.ext_getElem?
   intro j
   unfold ints
   rw[acD]
   cases hq:kl[j]? with
   | none=>
    have:=List.getElem?_eq_none_iff.1 hq
    exact List.getElem?_eq_none (by omega)
   | some z=>exact h2 j z hq
  rw[<-this]
  exact hr
theorem acU:dK.b7 6=some (dK.lo 6):=by kernel_rfl
theorem alO:dK.b7 18=some (dK.lo 18):=by kernel_rfl
theorem aiv:dK.b7 8=some (dK.lo 8):=by kernel_rfl
theorem ah6:dK.b7 12=some (dK.lo 12):=by kernel_rfl
theorem akR:dK.b7 11=some (dK.lo 11):=by kernel_rfl
theorem adT:dK.b7 13=some (dK.lo 13):=by kernel_rfl
theorem alA:dK.b7 14=some (dK.lo 14):=by kernel_rfl
theorem ag8:dK.b7 20=some (dK.lo 20):=by kernel_rfl
theorem amn:dK.b7 21=some (dK.lo 21):=by kernel_rfl
structure Fz (H0:Hp)(B:List (List Nat))(lp p:Nat)(m:LM)(l:LP)(H:Hp)(ss:List Sm)(w:AV)(ys:List AV)(n e su:Nat):Prop where
 out:Out [] H0 H
 lg:Lg H lp p m l
 low:∀ j∈lf lp p l,H0.next<=j
 at':At m.m ss
 up:m.m.off=false->Wu m ss
 chain:chain 0 ss
 len:ss.length<=15
 size:∀ s∈ss,(fb s.rs).length<=1000
 en:e<=n
 Cl:su<=e
 ab:b8 ss=fe 1 0 (B.take e)
 sq:Sq su ss
 le:∀ b∈B.take n,b.length<=200
 Jy:n<=B.length
 row:Rs H w (fe 1 0 (B.take n)) ys
 wd:∀ j∈aa w,H0.next<=j/\j∉lf lp p l
 HE:∀ y∈ys,∀ j∈aa y,j<H0.next
theorem PD {H0:Hp}{x a1 a2 sp:AV}{bV:List (Int × List Nat)}{lp p:Nat}(hx:Ac H0 x bV)(hb:∀ a∈bV,∀ v∈a.2,v<256)(hl:bV.length<=15)(hT:fY H0 dL)(hn:11<=H0.next) :
  ∀ (r:List (Int × List Nat)) (i su:Nat) (m:LM) (l:LP) (H:Hp) (ss:List Sm) (w:AV) (ys:List AV),bV.drop i=r->Fz H0 (bV.map (·.2)) lp p m l H ss w ys i i su->m.m.off=false->(∀ y∈l.ys,∀ j∈aa y,j∉aa w)->
  (∃ H',∀ k:K.Fn 6,tD JN GO cK k x a1 a2 (.ptr lp 0) sp w (.int .i64 (su:Nat)) (.int .i64 (i:Nat)) H=some (.bool true,H'))\/
  ∃ m' l' H' dw w' uJ n' e' yQ,(∀ k:K.Fn 6,tD JN GO cK k x a1 a2 (.ptr lp 0) sp w (.int .i64 (su:Nat)) (.int .i64 (i:Nat)) H=k a1 a2 (.ptr lp 0) sp w' (.int .i64 (yQ:Nat)) H')/\Fz H0 (bV.map (·.2)) lp p m' l' H' dw w' uJ n' e' yQ
 | [],i,su,m,l,H,ss,w,ys,hr,h,ho,my=>by
  have B8:bV.length<=i:=by simpa using hr
  have cT:=(hx.out h.out).nX
  have d:decide (((i:Nat):Int)<((bV.length:Nat):Int))=false:=decide_eq_false (by omega)
  refine .inr ⟨m,l,H,ss,w,ys,i,i,su,fun k => ?_,h⟩
  rw[wj]
  simp only[qd,cT,d,az,bd,aw,av,bG,aH,au,ak,aK,aA,aP,bK,aE,bO,bC,aR,bu,ay,bF,aT,aC,bq,aU,bI,bM,ba,aI,aW,aQ,ar,aV,a7,bS,aF,aO,bt,bJ,aN,aM,aD,bB,br,aY,bQ,bT,bk,bH,af,bp,ag,bP,ah,aB,aG,bw,bA,bR,aL,bN,bD,bo,aj,bh,bg,aq,ai,aS,a8,aZ,bE,aJ,nq,gk,wc,yL,yB,decide_true,decide_false,simprocAttr,aaJ,bne_self_eq_false,ge_iff_le,gt_iff_lt]
 | a::r,i,su,m,l,H,ss,w,ys,hr,h,ho,my=>by
  obtain⟨hi,hv,dg⟩:=K.xq hr
  have cT:=hx.nX
  have d:decide (((i:Nat):Int)<((bV.length:Nat):Int))=true:=decide_eq_true (by omega)
  obtain⟨ib,io,y,u1,u2,u3⟩:=hx.at hv
  have g0:=(u3 H h.out).2
  have DY:=u2.lt
  have ZG:=u2.out h.out fun j _ q=>by cases q
  have fS:=ZG.il
  rw[gu] at fS
  by_cases kD:200<a.2.length
  ·have d2:decide ((200:Int)<((a.2.length:Nat):Int))=true:=decide_eq_true (by omega)
   refine .inl ⟨H,fun k => ?_⟩
   rw[wj]
   simp only[qd,cT,d,u1,g0,fS,d2,az,bd,aw,av,bG,aH,au,ak,aK,aA,aP,bK,aE,bO,bC,aR,bu,ay,bF,aT,aC,bq,aU,bI,bM,ba,aI,aW,aQ,ar,aV,a7,bS,aF,aO,bt,bJ,aN,aM,aD,bB,br,aY,bQ,bT,bk,bH,af,bp,ag,bP,ah,aB,aG,bw,bA,bR,aL,bN,bD,bo,aj,bh,bg,aq,ai,aS,a8,aZ,bE,aJ,nq,gk,wc,yL,yB,decide_true,decide_false,simprocAttr,aaJ,bne_self_eq_false,ge_iff_le,gt_iff_lt]
  have d2:decide ((200:Int)<((a.2.length:Nat):Int))=false:=decide_eq_false (by omega)
  have hB:(bV.map (·.2))[i]? = some a.2:=by rw[acD,hv];rfl
  have GH:(bV.map (·.2)).length=bV.length:=acs ..
  have wu:=h.up ho
  have hs:=RY wu h.ab (by omega)
  have hE:cJ m=((i:Nat):Int):=by unfold cJ;rw[wu.first,wu.ab,h.ab,la,abN,GH];omega
  have hZ:∀ q∈m.parts,eP q.1=true:=fun q hq=>by
   rw[wu.parts] at hq
   obtain⟨s,qj,rfl⟩:=abn.1 hq
   have h1:=CV ss 0 h.chain s qj
   rw[h.ab,la,abN,GH] at h1
   exact xx (by simp only[sP];omega) (by simp only[sP];omega)
  have g:=Ia h.lg.st.ok wu.fs
  obtain⟨H1,l1,b1,b2,b3,b4⟩:=ahD h.lg hs (ma hT hn h.out) (abl hn h.out.1) (ep:=1) (E:=i) ZG (hb a (abY hv)) (by omega) (ajc (wu.ab.trans h.ab) (by omega)) (by decide) hE (by omega) hZ
  obtain⟨c1,c2⟩:=ahN g wu (by rw[h.ab,la,abN];omega) (1*17592186044416+i) (b:=a.2) (by omega)
  have hR:fe 1 0 ((bV.map (·.2)).take i)++[(1*17592186044416+i,a.2)]=fe 1 0 ((bV.map (·.2)).take (i+1)):=by
   rw[aaf hB,Ut,abN,ad3 (by omega),wc]
  obtain⟨A,hA⟩:∃ A,A=1*17592186044416+i:=⟨_,rfl⟩
  rw[<-hA] at b1 b2 c1 c2 hR
  generalize hax:lH m A a.2=ax at *
  rw[show (((1:Nat):Int))=1 from rfl] at b1
  have um:=low aiv b1
  have Vk:=h.row.own.rw.lt
  have zD:Out [] H0 H1:=h.out.then b3.1 fun j hj => .inr (h.low j hj)
  have ki:∀ j∈lf lp p l1,H0.next<=j:=fun j hj=>(b3.2 j hj).elim (h.low j) fun q=>abl h.out.1 q
  have g1:=(u3 H1 zD).2
  have GP:=fun H' k=>(u3 H' k).1
  have Az:=u2.out zD fun j _ q=>by cases q
  have xS:Rs H1 w (fe 1 0 ((bV.map (·.2)).take i)) ys:=h.row.pF b3.1 (fun j hj=>(h.wd j hj).2) fun z hz j hj q=>by have:=h.HE z hz j hj;have:=h.low j q;omega
  have ZT:∀ j∈aa w,j∉lf lp p l1:=fun j hj q=>(b3.2 j q).elim (h.wd j hj).2 fun q=>by have:=Vk j hj;omega
  have Wa:∀ z∈l1.ys,∀ j∈aa z,j∉aa w:=fun z hz j hj q=>(b4 z hz).elim (fun e=>my z e j hj q) fun e=>by have:=e j hj;have:=Vk j q;omega
  obtain⟨H2,w',H3,m1,m2,m3,m4,m5⟩:=xS.push (a:=A) Az (fun j hj q=>by have:=DY j hj;have:=(h.wd j q).1;omega) (by rw[la,abN];omega)
  rw[hR] at m3
  have pZ:=b2.lt
  have K8:Lg H3 lp p ax.2 l1:=b2.out m4 (fun j hj q=>ZT j q hj) Wa
  have jV:Out [] H0 H3:=zD.then m4 fun j hj => .inr (h.wd j hj).1
  have GM:∀ j∈aa w',H0.next<=j/\j∉lf lp p l1:=fun j hj=>(m5 j hj).elim (fun q=>⟨(h.wd j q).1,ZT j q⟩) fun q=>⟨abl zD.1 q,fun z=>by have:=pZ j z;omega⟩
  have aa8:∀ z∈l1.ys,∀ j∈aa z,j∉aa w':=fun z hz j hj q=>(m5 j q).elim (Wa z hz j hj) fun q'=>by have:=b2.ab.tk z hz j hj;omega
  have Dk:∀ z∈ys++[y],∀ j∈aa z,j<H0.next:=fun z hz j hj=>by
   rcases aac.1 hz with hz | hz
   ·exact h.HE z hz j hj
   ·rw[yX] at hz;subst hz;exact DY j hj
  have hle:∀ b∈(bV.map (·.2)).take (i+1),b.length<=200:=fun b gU=>by
   rw[aaf hB] at gU
   rcases aac.1 gU with gU | gU
   ·exact h.le b gU
   ·rw[yX] at gU;subst gU;omega
  have k1:cv .u64 (.int .i64 ((i:Nat):Int))=some (.int .u64 ((i:Nat):Int)):=by rw[ai,p6 (k := .u64) rfl (by show i<18446744073709551616;omega)]
  have k2:IntKind.wrap .u64 (17592186044416+((i:Nat):Int))=((A:Nat):Int):=by rw[show (17592186044416:Int)+((i:Nat):Int)=((A:Nat):Int) by omega];exact p6 rfl (by show A<18446744073709551616;omega)
  have f1:=M1 Az ((A:Nat):Int)
  have cr:=oU Az ((A:Nat):Int)
  have f2:fl [(.int .u64 0),.ae] [(0,2,.agg [.int .u64 ((A:Nat):Int),y])]=some [.int .u64 ((A:Nat):Int),y]:=by simp[fl,cr]
  have e3:IntKind.wrap .i64 (((i:Nat):Int)+1)=((i+1:Nat):Int):=by rw[wrap_i64 (by omega) (by omega)];rfl
  by_cases hz:ax.1=0
  ·obtain⟨Ea,w1,r1,q1⟩:=c2 hz
   have eF:(ax.1 != 0)=false:=by rw[hz];rfl
   rw[if_pos hz] at um
   rw[h.ab,hR] at r1
   have hj:(fe 1 0 ((bV.map (·.2)).take (i+1)))[i]? = some (A,a.2):=by
    rw[<-hR,abM (by rw[la,abN];omega),la,abN,ad3 (by omega),ahr];rfl
   obtain⟨b9,o9,y9,v1,v2,v3,v4,v5,v6⟩:=m3.cn hj
   have vj:=v1 .i64
   rw[acJ] at v3
   have cx:((((A:Nat):Int)) != ((A:Nat):Int))=false:=by simp
   have F3:Fz H0 (bV.map (·.2)) lp p ax.2 l1 H3 Ea w' (ys++[y]) (i+1) (i+1) su:=⟨jV,K8,ki,.inl ⟨w1.off,w1.fs⟩,fun _=>w1,w1.chain,by
    have:=Pb Ea w1.ne
    rw[r1,la,abN] at this
    omega,w1.size,zf _,by have:=h.Cl;omega,r1,q1 su (by rw[h.ab,la,abN];have:=h.Cl;omega) h.sq,hle,by omega,m3,GM,Dk⟩
   by_cases ck:a.1=1
   ·have Dj:(a.1==1)=true:=by rw[ck];rfl
    have tM:=RY w1 r1 (by omega)
    have aiy:∀ q∈ax.2.parts,eP q.1=true:=fun q hq=>by
     rw[w1.parts] at hq
     obtain⟨s,qj,rfl⟩:=abn.1 hq
     have h1:=CV Ea 0 w1.chain s qj
     rw[r1,la,abN,GH] at h1
     exact xx (by simp only[sP];omega) (by simp only[sP];omega)
    obtain⟨H4,l4,s1,s2,s3,s4⟩:=aht K8 tM (ma hT hn jV) (abl hn jV.1) (fun j hj=>abl hn (ki j hj)) aiy
    have SE:=low ah6 s1
    obtain⟨wX,t1,t2,t3,t4,t5⟩:=ae6 (Ia K8.st.ok w1.fs) w1
    have IT:Out [] H0 H4:=jV.then s3.1 fun j hj => .inr (ki j hj)
    have Yr:Rs H4 w' (fe 1 0 ((bV.map (·.2)).take (i+1))) (ys++[y]):=m3.pF s3.1 (fun j hj=>(GM j hj).2) fun z hz j hj q=>by have:=Dk z hz j hj;have:=ki j q;omega
    have aiE:=m3.own.rw.lt
    have r4:b8 wX=fe 1 0 ((bV.map (·.2)).take (i+1)):=by rw[FL,t1,<-FL,r1]
    have F4:∀ yQ,yQ<=i+1->Sq yQ wX->Fz H0 (bV.map (·.2)) lp p (pt ax.2).2 l4 H4 wX w' (ys++[y]) (i+1) (i+1) yQ:=fun yQ hsu hq=>⟨IT,s2,fun j hj=>(s3.2 j hj).elim (ki j) fun q=>abl jV.1 q,t2,t3,Mz Ea wX 0 t1.symm w1.chain,by
     have e1:=congrArg List.length t1
     rw[acs,acs] at e1
     rw[e1];exact F3.len,fun s qj=>by
     obtain⟨t,ht,h1,h2⟩:=Rl t1 qj
     rw[<-h2];exact w1.size t ht,zf _,hsu,r4,hq,hle,by omega,Yr,fun j hj=>⟨(GM j hj).1,fun q=>(s3.2 j q).elim (GM j hj).2 fun q=>by have:=aiE j hj;omega⟩,Dk⟩
    by_cases L0:(pt ax.2).1=0
    ·have HY:((pt ax.2).1 != 0)=false:=by rw[L0];rfl
     obtain⟨t6,t7⟩:=t5 L0
     have By:=Yr.nX
     rw[la,abN,GH,ad3 (by omega)] at By
     rcases PD hx hb hl hT hn r (i+1) (i+1) _ l4 H4 wX w' (ys++[y]) dg (F4 (i+1) (zf _) (t7 _)) t6 (by rw[s4];exact aa8) with⟨H5,k5⟩ | ⟨TN,l5,H5,Qk,w5,Sj,n5,e5,OH,k5,k6⟩
     ·refine .inl ⟨H5,fun k => ?_⟩
      rw[wj]
      simp only[qd,cT,d,u1,g0,fS,d2,um,k1,k2,g1,f1,f2,m1,m2,eF,vj,v3,cx,GP H3 jV,acJ,Dj,SE,HY,By,e3,az,bd,aw,av,bG,aH,au,ak,aK,aA,aP,bK,aE,bO,bC,aR,bu,ay,bF,aT,aC,bq,aU,bI,bM,ba,aI,aW,aQ,ar,aV,a7,bS,aF,aO,bt,bJ,aN,aM,aD,bB,br,aY,bQ,bT,bk,bH,af,bp,ag,bP,ah,aB,aG,bw,bA,bR,aL,bN,bD,bo,aj,bh,bg,aq,ai,aS,a8,aZ,bE,aJ,nq,gk,wc,yL,yB,decide_true,decide_false,simprocAttr,aaJ,bne_self_eq_false,ge_iff_le,gt_iff_lt]
      exact k5 k
     ·refine .inr ⟨TN,l5,H5,Qk,w5,Sj,n5,e5,OH,fun k => ?_,k6⟩
      rw[wj]
      simp only[qd,cT,d,u1,g0,fS,d2,um,k1,k2,g1,f1,f2,m1,m2,eF,vj,v3,cx,GP H3 jV,acJ,Dj,SE,HY,By,e3,az,bd,aw,av,bG,aH,au,ak,aK,aA,aP,bK,aE,bO,bC,aR,bu,ay,bF,aT,aC,bq,aU,bI,bM,ba,aI,aW,aQ,ar,aV,a7,bS,aF,aO,bt,bJ,aN,aM,aD,bB,br,aY,bQ,bT,bk,bH,af,bp,ag,bP,ah,aB,aG,bw,bA,bR,aL,bN,bD,bo,aj,bh,bg,aq,ai,aS,a8,aZ,bE,aJ,nq,gk,wc,yL,yB,decide_true,decide_false,simprocAttr,aaJ,bne_self_eq_false,ge_iff_le,gt_iff_lt]
      exact k5 k
    ·have HY:((pt ax.2).1 != 0)=true:=by simpa using L0
     refine .inr ⟨_,l4,H4,wX,w',_,i+1,i+1,su,fun k => ?_,F4 su F3.Cl (t4 su F3.sq)⟩
     rw[wj]
     simp only[qd,cT,d,u1,g0,fS,d2,um,k1,k2,g1,f1,f2,m1,m2,eF,vj,v3,cx,GP H3 jV,acJ,Dj,SE,HY,az,bd,aw,av,bG,aH,au,ak,aK,aA,aP,bK,aE,bO,bC,aR,bu,ay,bF,aT,aC,bq,aU,bI,bM,ba,aI,aW,aQ,ar,aV,a7,bS,aF,aO,bt,bJ,aN,aM,aD,bB,br,aY,bQ,bT,bk,bH,af,bp,ag,bP,ah,aB,aG,bw,bA,bR,aL,bN,bD,bo,aj,bh,bg,aq,ai,aS,a8,aZ,bE,aJ,nq,gk,wc,yL,yB,decide_true,decide_false,simprocAttr,aaJ,bne_self_eq_false,ge_iff_le,gt_iff_lt]
   ·have Dj:(a.1==1)=false:=by rw[beq_eq_false_iff_ne];exact ck
    rcases PD hx hb hl hT hn r (i+1) su _ l1 H3 Ea w' (ys++[y]) dg F3 w1.off aa8 with⟨H5,k5⟩ | ⟨TN,l5,H5,Qk,w5,Sj,n5,e5,OH,k5,k6⟩
    ·refine .inl ⟨H5,fun k => ?_⟩
     rw[wj]
     simp only[qd,cT,d,u1,g0,fS,d2,um,k1,k2,g1,f1,f2,m1,m2,eF,vj,v3,cx,GP H3 jV,acJ,Dj,e3,az,bd,aw,av,bG,aH,au,ak,aK,aA,aP,bK,aE,bO,bC,aR,bu,ay,bF,aT,aC,bq,aU,bI,bM,ba,aI,aW,aQ,ar,aV,a7,bS,aF,aO,bt,bJ,aN,aM,aD,bB,br,aY,bQ,bT,bk,bH,af,bp,ag,bP,ah,aB,aG,bw,bA,bR,aL,bN,bD,bo,aj,bh,bg,aq,ai,aS,a8,aZ,bE,aJ,nq,gk,wc,yL,yB,decide_true,decide_false,simprocAttr,aaJ,bne_self_eq_false,ge_iff_le,gt_iff_lt]
     exact k5 k
    ·refine .inr ⟨TN,l5,H5,Qk,w5,Sj,n5,e5,OH,fun k => ?_,k6⟩
     rw[wj]
     simp only[qd,cT,d,u1,g0,fS,d2,um,k1,k2,g1,f1,f2,m1,m2,eF,vj,v3,cx,GP H3 jV,acJ,Dj,e3,az,bd,aw,av,bG,aH,au,ak,aK,aA,aP,bK,aE,bO,bC,aR,bu,ay,bF,aT,aC,bq,aU,bI,bM,ba,aI,aW,aQ,ar,aV,a7,bS,aF,aO,bt,bJ,aN,aM,aD,bB,br,aY,bQ,bT,bk,bH,af,bp,ag,bP,ah,aB,aG,bw,bA,bR,aL,bN,bD,bo,aj,bh,bg,aq,ai,aS,a8,aZ,bE,aJ,nq,gk,wc,yL,yB,decide_true,decide_false,simprocAttr,aaJ,bne_self_eq_false,ge_iff_le,gt_iff_lt]
     exact k5 k
  ·obtain⟨q1,q2⟩:=c1 hz
   have eF:(ax.1 != 0)=true:=by simpa using hz
   rw[if_neg hz] at um
   refine .inr ⟨_,l1,H3,ss,w',_,i+1,i,su,fun k => ?_,⟨jV,K8,ki,q1,q2,h.chain,h.len,h.size,by omega,h.Cl,h.ab,h.sq,hle,by omega,m3,GM,Dk⟩⟩
   rw[wj]
   simp only[qd,cT,d,u1,g0,fS,d2,um,k1,k2,g1,f1,f2,m1,m2,eF,az,bd,aw,av,bG,aH,au,ak,aK,aA,aP,bK,aE,bO,bC,aR,bu,ay,bF,aT,aC,bq,aU,bI,bM,ba,aI,aW,aQ,ar,aV,a7,bS,aF,aO,bt,bJ,aN,aM,aD,bB,br,aY,bQ,bT,bk,bH,af,bp,ag,bP,ah,aB,aG,bw,bA,bR,aL,bN,bD,bo,aj,bh,bg,aq,ai,aS,a8,aZ,bE,aJ,nq,gk,wc,yL,yB,decide_true,decide_false,simprocAttr,aaJ,bne_self_eq_false,ge_iff_le,gt_iff_lt]
theorem YH:∀ (a b:List Int),a.Pairwise (fun x y=>x<y)->b.Pairwise (fun x y=>x<y)->(∀ z,z∈a↔z∈b)->a=b
 | [],[],_,_,_=>rfl
 | [],y::b,_,_,h=>by have:=(h y).2 (.head _);cases this
 | x::a,[],_,_,h=>by have:=(h x).1 (.head _);cases this
 | x::a,y::b,ha,hb,h=>by
  rw[afb] at ha hb
  have exy:x=y:=by
   rcases aap.1 ((h x).1 (.head _)) with e | e
   ·exact e
   ·rcases aap.1 ((h y).2 (.head _)) with e' | e'
    ·exact e'.symm
    ·have h1:=hb.1 x e
     have h2:=ha.1 y e'
     omega
  subst exy
  rw[YH a b ha.2 hb.2 fun z => ?_]
  constructor
  ·intro hz
   rcases aap.1 ((h z).1 (.tail _ hz)) with e | e
   ·have:=ha.1 z hz;omega
   ·exact e
  ·intro hz
   rcases aap.1 ((h z).2 (.tail _ hz)) with e | e
   ·have:=hb.1 z hz;omega
   ·exact e
theorem YY:∀ (ss:List Sm) (e:Nat),chain e ss->(ss.map fun s=>((s.first:Nat):Int)).Pairwise (fun x y=>x<y)/\∀ s∈ss,e<=s.first
 | [],e,h=>⟨.nil,fun s hs=>by cases hs⟩
 | s::r,e,h=>by
  obtain⟨h1,h2,h3⟩:=h
  obtain⟨i1,i2⟩:=YY r _ h3
  refine⟨?_,fun t ht => ?_⟩
  ·rw[abc,afb]
   refine⟨fun z hz => ?_,i1⟩
   obtain⟨t,ht,rfl⟩:=abn.1 hz
   have cx:r≠[]:=fun q=>by rw[q] at ht;cases ht
   have:=i2 t ht
   have:0<s.rs.length:=List.length_pos_iff.2 (h2 cx)
   omega
  ·rcases aap.1 ht with rfl | ht
   ·omega
   ·have:=i2 t ht;omega
section
variable {m:SM}{ss:List Sm}
theorem K2 (gP:m.fs.map (·.nm)=ss.map fun s=>bU (s.first:Nat))(n:List Nat):n∈names m ↔ ∃ s∈ss,bU (s.first:Nat)=n:=by
 unfold names
 rw[KM,gP,abn]
theorem WT {s:Sm}(h:s.first<=1000):ju (bU (s.first:Nat))=(s.first,true):=by
 have hi:eP ((s.first:Nat):Int)=true:=xx (by omega) (by omega)
 rw[Sr hi,aeV]
theorem agu (gP:m.fs.map (·.nm)=ss.map fun s=>bU (s.first:Nat))(hc:chain 0 ss)(ea:∀ s∈ss,s.first<=1000):wq (names m)=ss.map fun s=>((s.first:Nat):Int):=
 YH _ _ (adP _) (YY ss 0 hc).1 fun z=>⟨fun h=>by
  obtain⟨n,hn,h1,h2⟩:=(Rk _ _).1 h
  obtain⟨s,hs,e⟩:=(K2 gP n).1 hn
  rw[<-e,WT (ea s hs)] at h2
  exact abn.2 ⟨s,hs,h2.symm⟩,fun h=>by
  obtain⟨s,hs,e⟩:=abn.1 h
  have h1:=WT (ea s hs)
  have h2:=(K2 gP (bU (s.first:Nat))).2 ⟨s,hs,Eq.refl _⟩
  generalize bU (s.first:Nat)=n at h1 h2
  refine (Rk _ _).2 ⟨n,h2,?_⟩
  rw[h1]
  exact⟨Eq.refl _,e.symm⟩⟩
end
theorem aiQ {m:SM}(h:RB m)(n:List Nat):∀ v∈gq m n,v<256:=by
 intro v hv
 unfold gq at hv
 split at hv
 ·cases hq:cS.look m n with
  | none=>rw[hq] at hv;cases hv
  | some f=>
   rw[hq] at hv
   exact h.byte f (List.mem_of_find?_eq_some hq) v hv
 ·cases hv
theorem Zh {H0 H:Hp}{p:Nat}{m:SM}{L:Lay}{ss:List Sm}{B:List (List Nat)}{n e su:Nat}{w kv:AV}{ys:List AV}{kl:List Int}(hT:fY H0 dL)(hn:11<=H0.next)(ho:Out [] H0 H)(h:St H p m L)(rO:∀ j∈cB p L,H0.next<=j)(hA:At m ss)(hc:chain 0 ss)(hlen:ss.length<=15)
  (cC:∀ s∈ss,(fb s.rs).length<=1000) (nA:e<=n) (mo:su<=e) (hR:b8 ss=fe 1 0 (B.take e)) (hq:Sq su ss) (hle:∀ b∈B.take n,b.length<=200) (gK:∀ b∈B,∀ v∈b,v<256) (hnB:n<=B.length) (hB:B.length<=15) (hw:Rs H w (fe 1 0 (B.take n)) ys) (hwd:∀ j∈aa w,H0.next<=j/\j∉cB p L) (Dk:∀ y∈ys,∀ j∈aa y,j<H0.next) (hk:Rw H0 1 kv (ints kl)) :
  ∃ H4 H5 lp H6 v k H7,cK (.func (.func 13) [] []) [.ptr p 0,kv] H=some (.tuple [],H4)/\cK (.func (.func 14) [] []) [.ptr p 0] H4=some (.tuple [],H5)/\
   cK (.func (.func 15) [] []) [.ptr p 0,.int .i64 100] H5=some (.tuple [.ptr lp 0,.int .i64 0],H6)/\cK (.func (.func 20) [] []) [.ptr lp 0] H6=some (.int .i64 0,H6)/\
   cK (.func (.func 16) [] []) [.ptr lp 0] H6=some (.int .i64 ((k:Nat):Int),H6)/\su<=k/\k<=n/\cy w=some (.int .i64 ((n:Nat):Int))/\dC 2 w none (some (.int .i64 ((k:Nat):Int))) none=some v/\
   cK (.func (.func 21) [] []) [.ptr lp 0,.int .i64 0,v] H6=some (.bool true,H7):=by
 have OX:=hk.lt
 have hkH:=hk.out ho fun j _ q=>by cases q
 obtain⟨H4,L4,a1,a2,a3⟩:=Z6 h hkH fun j hj ⟨y,hy,q⟩=>by have:=OX j hj;have:=rO j (St.nf hy q);omega
 obtain⟨b1,b2,b3⟩:=ae2 (fun q=>Ia h.ok (hA.elim (fun z=>z.2) fun z=>by rw[q] at z;cases z.1)) hA kl
 obtain⟨H5,c1,c2,c3⟩:=GJ a2
 have IT:Out [] H0 H4:=ho.then a3.1 fun j hj => .inr (rO j hj)
 have XT:∀ j∈cB p L4,H0.next<=j:=fun j hj=>(a3.2 j hj).elim (rO j) fun q=>abl ho.1 q
 have V8:Out [] H0 H5:=IT.then c3.1 fun j hj => .inr (XT j hj)
 have HW:(b8 ss).length=e:=by rw[hR,la,abN];omega
 have Dp:∀ s∈ss,s.first<=1000:=fun s hs=>by have:=CV ss 0 hc s hs;omega
 obtain⟨M,hM⟩:∃ M:SM,M={ oQ m kl with off:=false }:=⟨_,rfl⟩
 rw[<-hM] at c2
 have Aq:M.fs=(oQ m kl).fs/\M.off=false/\M.cq=0:=by rw[hM];exact⟨rfl,rfl,b2⟩
 have Wr:Tr (ss.map sF) M.fs:=by rw[Aq.1];exact b3
 have jj:M.fs.map (·.nm)=ss.map fun s=>bU (s.first:Nat):=by rw[Wr.names,du.HV]
 have ok:=c2.ok
 have dh:(ss.map fun s=>bU (s.first:Nat)).Nodup:=jj▸ok.names
 have lo:Lo M ss:=⟨Aq.2.1,Aq.2.2,dh,fun s hs=>by
  have:bU (s.first:Nat)∈M.fs.map (·.nm):=by rw[jj];exact abn.2 ⟨s,hs,rfl⟩
  obtain⟨f,hf,q⟩:=abn.1 this
  have:=ok.qD f hf
  rwa[show f.nm=bU (s.first:Nat) from q] at this,Xf Wr dh⟩
 have hz:=agu jj hc Dp
 have afY:∀ b∈B.take e,b.length<=200:=fun b hb=>hle b (by
  have:B.take e=(B.take n).take e:=by rw[agr,ad3 nA]
  rw[this] at hb
  exact adb hb)
 have rd:=Y0 hc (hR▸afm afY) (by omega) hq (by omega) cC lo ss [] ⟨100,M,[],[],0,0⟩ rfl rfl rfl rfl (ack _) (fun q hq=>by cases hq)
 have je:IE (ss.map fun s=>((s.first:Nat):Int)) ⟨100,M,[],[],0,0⟩=⟨100,M,[],[],0,0⟩:=by
  cases eM:ss with
  | nil=>rfl
  | cons s r=>
   rw[eM] at hc
   have:s.first=0:=hc.1
   rw[abc,this];rfl
 generalize hX:jL (ss.map fun s=>((s.first:Nat):Int)) ⟨100,M,[],[],0,0⟩=X at rd
 obtain⟨k,mC,gj⟩:=rd.ab
 rw[hR,JA,agr] at gj
 have JG:∀ z∈ss.map (fun s=>((s.first:Nat):Int)),∃ s∈ss,z=((s.first:Nat):Int):=fun z hz=>by
  obtain⟨s,hs,rfl⟩:=abn.1 hz
  exact⟨s,hs,rfl⟩
 have Wm:∀ s∈ss,eP ((s.first:Nat):Int)=true:=fun s hs=>xx (by omega) (by have:=Dp s hs;omega)
 have sm:Small X.2:=Z8 rd.first gj (by omega) (by have:=rd.len;omega) fun q hq=>(rd.parts q hq).2.2
 obtain⟨lp,l,H6,d1,d2,d3,d4⟩:=abk c2 (ma hT hn V8) (abl hn V8.1) (fun j hj=>abl hn ((c3.2 j hj).elim (XT j) fun q=>abl IT.1 q)) (cN:=100) (by decide) (by decide) Aq.2.1 Aq.2.2 hz
  (by unfold names;rw[Kw,jj,acs];omega) (fun z hz=>by obtain⟨s,hs,rfl⟩:=JG z hz;exact Wm s hs) (by rw[acs];omega) (fun z _=>aiQ ok (bU z)) (fun z hz=>by
   obtain⟨s,hs,rfl⟩:=JG z hz
   obtain⟨g,i,g1,g2,g3⟩:=lo.look s hs
   unfold gq
   rw[if_pos (lo.cw hs),g1]
   show g.b.length<=1008
   have:=cC s hs
   rw[g3,abN];omega) (fun a r T9=>ZB _ _ Aq.2.1 Aq.2.2 (by
    have h1:((ss.map fun s=>((s.first:Nat):Int)).map bU).Nodup:=by simpa only[afg,Function.comp_def] using dh
    rw[T9,abz,acd] at h1
    rw[List.map_reverse]
    exact List.pairwise_reverse.2 (List.Pairwise.imp (fun h=>Ne.symm h) h1.2.1)) fun z hz=>by
    obtain⟨s,hs,rfl⟩:=JG z (by rw[T9];exact No _ (aho.1 hz))
    exact lo.cw hs) (fun z hz=>by obtain⟨s,hs,rfl⟩:=JG z hz;have:=Dp s hs;omega) (x:=X) (by rw[je,hX]) rd.err sm (fun q hq=>by
    obtain⟨_,⟨s,hs,e1⟩,_⟩:=rd.parts q hq
    rw[e1];exact Wm s hs) (V7 _ _ rd.off rd.cq fun q hq=>(rd.parts q hq).1)
 have hl5:∀ j∈cB p L4,j∈cB p L4:=fun j hj=>hj
 have e0:∀ mm:SM,∀ vv:Int,Small { X.2 with m:=mm,sure:=vv }:=fun mm vv=>⟨sm.first,sm.ab,sm.at',sm.parts,sm.part⟩
 generalize hY:({ X.2 with m:=(qV X.2.parts X.2.m).2,sure:=cJ X.2 }:LM)=Y at d2
 have Wd:Small Y:=by rw[<-hY];exact e0 _ _
 have Sw:Y.first=0:=by rw[<-hY];exact rd.first
 have Mj:Y.ab=fe 1 0 (B.take (min k e)):=by rw[<-hY];exact gj
 have jv:(B.take (min k e)).length=min k e:=by rw[abN];omega
 have e1:=low ag8 (VY d2)
 have e2:=low CN (mr d2 Wd)
 have hE:cJ Y=((min k e:Nat):Int):=by unfold cJ;rw[Sw,Mj,la,jv];omega
 rw[Sw] at e1
 rw[hE] at e2
 have o6:Out (cB p L) H H6:=a3.1.then (c3.1.then d3 c3.2) a3.2
 have X4:Rs H6 w (fe 1 0 (B.take n)) ys:=hw.pF o6 (fun j hj=>(hwd j hj).2) fun y hy j hj q=>by have:=Dk y hy j hj;have:=rO j q;omega
 have By:=X4.nX
 rw[la,abN,ad3 hnB] at By
 have ie:(fe 1 0 (B.take n)).length=n:=by rw[la,abN];omega
 obtain⟨v,s1,s2,s3⟩:=JR X4 (a:=0) (b:=min k e) (ack _) (by omega) (lo:=none) (hi:=some (.int .i64 ((min k e:Nat):Int))) (Bd.no _) (Bd.yes _ _ _)
 rw[adE,adD,JA,agr,show min (min k e) n=min k e by omega,<-Mj] at s2
 obtain⟨H7,t1⟩:=am3 d2 Wd Sw (fun r hr=>by
  rw[Mj] at hr
  obtain⟨j,h1,h2,h3⟩:=Jp hr
  have h4:r.2∈B.take n:=by
   have:B.take (min k e)=(B.take n).take (min k e):=by rw[agr,show min (min k e) n=min k e by omega]
   rw[this] at h3
   exact adb h3
  have:=hle r.2 h4
  exact⟨by omega,gK r.2 (adb h4)⟩) s2
 exact⟨H4,H5,lp,H6,v,min k e,H7,low adT a1,low alA c1,d1,e1,e2,by omega,by omega,By,s1,low amn t1⟩
end
theorem ahS {H:Hp}{x kv:AV}{bV:List (Int × List Nat)}{kl:List Int}{at' cut:Int}(hx:Ac H x bV)(hb:∀ a∈bV,∀ v∈a.2,v<256)(hk:Rw H 1 kv (ints kl))(mq:at'<=9223372036854775807)(hT:fY H dL)(hn:11<=H.next) :
  ∃ H',cK (.func (.func 5) [] []) [x,.int .i64 at',kv,.int .i64 cut] H=some (.bool true,H'):=by
 have hA:=low acU (am4 du.an hT hn)
 have cT:=hx.nX
 have kM:=hk.il
 rw[show (ints kl).length=kl.length by unfold ints;rw[acs]] at kM
 by_cases h1:15<bV.length
 ·have d1:decide ((15:Int)<((bV.length:Nat):Int))=true:=decide_eq_true (by omega)
  refine⟨H,uL ?_⟩
  unfold oO
  simp only[hA,cT,d1,az,bd,aw,av,bG,aH,au,ak,aK,aA,aP,bK,aE,bO,bC,aR,bu,ay,bF,aT,aC,bq,aU,bI,bM,ba,aI,aW,aQ,ar,aV,a7,bS,aF,aO,bt,bJ,aN,aM,aD,bB,br,aY,bQ,bT,bk,bH,af,bp,ag,bP,ah,aB,aG,bw,bA,bR,aL,bN,bD,bo,aj,bh,bg,aq,ai,aS,a8,aZ,bE,aJ,nq,gk,wc,yL,yB,decide_true,decide_false,simprocAttr,aaJ,bne_self_eq_false,ge_iff_le,gt_iff_lt]
 have d1:decide ((15:Int)<((bV.length:Nat):Int))=false:=decide_eq_false (by omega)
 by_cases h2:70<kl.length
 ·have d2:decide ((70:Int)<((kl.length:Nat):Int))=true:=decide_eq_true (by omega)
  refine⟨H,uL ?_⟩
  unfold oO
  simp only[hA,cT,kM,d1,d2,az,bd,aw,av,bG,aH,au,ak,aK,aA,aP,bK,aE,bO,bC,aR,bu,ay,bF,aT,aC,bq,aU,bI,bM,ba,aI,aW,aQ,ar,aV,a7,bS,aF,aO,bt,bJ,aN,aM,aD,bB,br,aY,bQ,bT,bk,bH,af,bp,ag,bP,ah,aB,aG,bw,bA,bR,aL,bN,bD,bo,aj,bh,bg,aq,ai,aS,a8,aZ,bE,aJ,nq,gk,wc,yL,yB,decide_true,decide_false,simprocAttr,aaJ,bne_self_eq_false,ge_iff_le,gt_iff_lt]
 have d2:decide ((70:Int)<((kl.length:Nat):Int))=false:=decide_eq_false (by omega)
 by_cases h3:at'<1
 ·have d3:decide (at'<1)=true:=decide_eq_true h3
  refine⟨H,uL ?_⟩
  unfold oO
  simp only[hA,cT,kM,d1,d2,d3,az,bd,aw,av,bG,aH,au,ak,aK,aA,aP,bK,aE,bO,bC,aR,bu,ay,bF,aT,aC,bq,aU,bI,bM,ba,aI,aW,aQ,ar,aV,a7,bS,aF,aO,bt,bJ,aN,aM,aD,bB,br,aY,bQ,bT,bk,bH,af,bp,ag,bP,ah,aB,aG,bw,bA,bR,aL,bN,bD,bo,aj,bh,bg,aq,ai,aS,a8,aZ,bE,aJ,nq,gk,wc,yL,yB,decide_true,decide_false,simprocAttr,aaJ,bne_self_eq_false,ge_iff_le,gt_iff_lt]
 have d3:decide (at'<1)=false:=decide_eq_false h3
 by_cases h4:100<at'
 ·have d4:decide ((100:Int)<at')=true:=decide_eq_true h4
  refine⟨H,uL ?_⟩
  unfold oO
  simp only[hA,cT,kM,d1,d2,d3,d4,az,bd,aw,av,bG,aH,au,ak,aK,aA,aP,bK,aE,bO,bC,aR,bu,ay,bF,aT,aC,bq,aU,bI,bM,ba,aI,aW,aQ,ar,aV,a7,bS,aF,aO,bt,bJ,aN,aM,aD,bB,br,aY,bQ,bT,bk,bH,af,bp,ag,bP,ah,aB,aG,bw,bA,bR,aL,bN,bD,bo,aj,bh,bg,aq,ai,aS,a8,aZ,bE,aJ,nq,gk,wc,yL,yB,decide_true,decide_false,simprocAttr,aaJ,bne_self_eq_false,ge_iff_le,gt_iff_lt]
 have d4:decide ((100:Int)<at')=false:=decide_eq_false h4
 obtain⟨lp,p,l,H1,b1,b2,b3,b4⟩:=ac4 hT hn (cN:=100) (by decide) (by decide)
 have OX:=hk.lt
 obtain⟨H2,L2,f1,f2,f3⟩:=alh b2.st (calls:=at') (x:=kv) (kl:=kl) mq (hk.out b3 fun j _ q=>by cases q) (fun j hj q=>by have:=OX j hj;have:=b4 j (kV q);omega) (by omega)
 have C9:=low alO f1
 obtain⟨g2,g3⟩:=b2.wi f2 f3
 have qf:Out [] H H2:=b3.then g3.1 fun j hj => .inr (b4 j hj)
 have pL:∀ j∈lf lp p { l with L:=L2 },H.next<=j:=fun j hj=>(g3.2 j hj).elim (b4 j) fun q=>abl b3.1 q
 have wZ:Ey (FU 65536 100).m at' kl=⟨65536,false,at'.toNat,kl,[]⟩:=by unfold Ey;rw[if_neg (by show ¬ (false=true);decide)];rfl
 rw[wZ] at g2
 have wu0:Wu { FU 65536 100 with m:=⟨65536,false,at'.toNat,kl,[]⟩ } []:=⟨rfl,rfl,rfl,rfl,trivial,(fun s hs=>by cases hs),rfl,rfl,(fun s hs=>by cases hs)⟩
 have F0:Fz H (bV.map (·.2)) lp p { FU 65536 100 with m:=⟨65536,false,at'.toNat,kl,[]⟩ } { l with L:=L2 } H2 [] .ae [] 0 0 0:=⟨qf,g2,pL,.inl ⟨rfl,rfl⟩,fun _=>wu0,trivial,ack _,(fun s hs=>by cases hs),zf _,zf _,rfl,(fun s hs=>by cases hs),(fun b gU=>by cases gU),ack _,IL _,(fun j hj=>by cases hj),(fun y hy=>by cases hy)⟩
 rcases PD (a1:=kv) (a2 := .int .i64 cut) (sp := .ptr p 0) hx hb (by omega) hT hn bV 0 0 _ _ H2 [] .ae [] rfl F0 rfl (fun y _ j _ q=>by cases q) with⟨H3,k1⟩ | ⟨m3,l3,H3,VC,w,ys,n,e,su,k1,F⟩
 ·rw[show (((0:Nat):Int))=0 from rfl] at k1
  refine⟨H3,uL ?_⟩
  unfold oO
  simp only[hA,cT,kM,d1,d2,d3,d4,b1,C9,k1,az,bd,aw,av,bG,aH,au,ak,aK,aA,aP,bK,aE,bO,bC,aR,bu,ay,bF,aT,aC,bq,aU,bI,bM,ba,aI,aW,aQ,ar,aV,a7,bS,aF,aO,bt,bJ,aN,aM,aD,bB,br,aY,bQ,bT,bk,bH,af,bp,ag,bP,ah,aB,aG,bw,bA,bR,aL,bN,bD,bo,aj,bh,bg,aq,ai,aS,a8,aZ,bE,aJ,nq,gk,wc,yL,yB,decide_true,decide_false,simprocAttr,aaJ,bne_self_eq_false,ge_iff_le,gt_iff_lt]
 rw[show (((0:Nat):Int))=0 from rfl] at k1
 have GH:(bV.map (·.2)).length=bV.length:=acs ..
 have gK:∀ b∈bV.map (·.2),∀ v∈b,v<256:=fun b gU=>by
  obtain⟨a,ha,rfl⟩:=abn.1 gU
  exact hb a ha
 have eo:=low XP (cS.BQ F.lg.st)
 have plain:∃ H4 H5 w9 H6 v k H7,cK (.func (.func 13) [] []) [.ptr p 0,kv] H3=some (.tuple [],H4)/\cK (.func (.func 14) [] []) [.ptr p 0] H4=some (.tuple [],H5)/\
   cK (.func (.func 15) [] []) [.ptr p 0,.int .i64 100] H5=some (.tuple [.ptr w9 0,.int .i64 0],H6)/\cK (.func (.func 20) [] []) [.ptr w9 0] H6=some (.int .i64 0,H6)/\
   cK (.func (.func 16) [] []) [.ptr w9 0] H6=some (.int .i64 ((k:Nat):Int),H6)/\su<=k/\k<=n/\cy w=some (.int .i64 ((n:Nat):Int))/\dC 2 w none (some (.int .i64 ((k:Nat):Int))) none=some v/\
   cK (.func (.func 21) [] []) [.ptr w9 0,.int .i64 0,v] H6=some (.bool true,H7):=
  Zh hT hn F.out F.lg.st (fun j hj=>F.low j (kV hj)) F.at' F.chain F.len F.size F.en F.Cl F.ab F.sq F.le gK F.Jy (by omega) F.row (fun j hj=>⟨(F.wd j hj).1,fun q=>(F.wd j hj).2 (kV q)⟩) F.HE hk
 cases tQ:m3.m.off with
 | true=>
  rw[tQ] at eo
  obtain⟨H4,H5,w9,H6,v,k,H7,q1,q2,q3,q4,q5,q6,q7,q8,q9,wS⟩:=plain
  have d5:decide (((k:Nat):Int)<((su:Nat):Int))=false:=decide_eq_false (by omega)
  have d6:decide (((n:Nat):Int)<((k:Nat):Int))=false:=decide_eq_false (by omega)
  refine⟨H7,uL ?_⟩
  unfold oO
  simp only[hA,cT,kM,d1,d2,d3,d4,b1,C9,k1,eo,q1,q2,q3,q4,q5,d5,d6,q8,q9,wS,az,bd,aw,av,bG,aH,au,ak,aK,aA,aP,bK,aE,bO,bC,aR,bu,ay,bF,aT,aC,bq,aU,bI,bM,ba,aI,aW,aQ,ar,aV,a7,bS,aF,aO,bt,bJ,aN,aM,aD,bB,br,aY,bQ,bT,bk,bH,af,bp,ag,bP,ah,aB,aG,bw,bA,bR,aL,bN,bD,bo,aj,bh,bg,aq,ai,aS,a8,aZ,bE,aJ,nq,gk,wc,yL,yB,decide_true,decide_false,simprocAttr,aaJ,bne_self_eq_false,ge_iff_le,gt_iff_lt]
 | false=>
  rw[tQ] at eo
  have wu:=F.up tQ
  have hs:=RY wu F.ab (by have:=F.en;have:=F.Jy;omega)
  have ee:=low CN (mr F.lg hs)
  have HW:(b8 VC).length=e:=by rw[F.ab,la,abN];have:=F.en;have:=F.Jy;omega
  have hE:cJ m3=((e:Nat):Int):=by unfold cJ;rw[wu.first,wu.ab,HW];omega
  rw[hE] at ee
  by_cases h5:0<=cut
  case neg=>
   have d7:decide (0<=cut)=false:=decide_eq_false h5
   obtain⟨H4,H5,w9,H6,v,k,H7,q1,q2,q3,q4,q5,q6,q7,q8,q9,wS⟩:=plain
   have d5:decide (((k:Nat):Int)<((su:Nat):Int))=false:=decide_eq_false (by omega)
   have d6:decide (((n:Nat):Int)<((k:Nat):Int))=false:=decide_eq_false (by omega)
   refine⟨H7,uL ?_⟩
   unfold oO
   simp only[hA,cT,kM,d1,d2,d3,d4,b1,C9,k1,eo,d7,q1,q2,q3,q4,q5,d5,d6,q8,q9,wS,az,bd,aw,av,bG,aH,au,ak,aK,aA,aP,bK,aE,bO,bC,aR,bu,ay,bF,aT,aC,bq,aU,bI,bM,ba,aI,aW,aQ,ar,aV,a7,bS,aF,aO,bt,bJ,aN,aM,aD,bB,br,aY,bQ,bT,bk,bH,af,bp,ag,bP,ah,aB,aG,bw,bA,bR,aL,bN,bD,bo,aj,bh,bg,aq,ai,aS,a8,aZ,bE,aJ,nq,gk,wc,yL,yB,decide_true,decide_false,simprocAttr,aaJ,bne_self_eq_false,ge_iff_le,gt_iff_lt]
  have d7:decide (0<=cut)=true:=decide_eq_true h5
  by_cases h6:cut<=((e:Nat):Int)
  case neg=>
   have d8:decide (cut<=((e:Nat):Int))=false:=decide_eq_false h6
   obtain⟨H4,H5,w9,H6,v,k,H7,q1,q2,q3,q4,q5,q6,q7,q8,q9,wS⟩:=plain
   have d5:decide (((k:Nat):Int)<((su:Nat):Int))=false:=decide_eq_false (by omega)
   have d6:decide (((n:Nat):Int)<((k:Nat):Int))=false:=decide_eq_false (by omega)
   refine⟨H7,uL ?_⟩
   unfold oO
   simp only[hA,cT,kM,d1,d2,d3,d4,b1,C9,k1,eo,d7,ee,d8,q1,q2,q3,q4,q5,d5,d6,q8,q9,wS,az,bd,aw,av,bG,aH,au,ak,aK,aA,aP,bK,aE,bO,bC,aR,bu,ay,bF,aT,aC,bq,aU,bI,bM,ba,aI,aW,aQ,ar,aV,a7,bS,aF,aO,bt,bJ,aN,aM,aD,bB,br,aY,bQ,bT,bk,bH,af,bp,ag,bP,ah,aB,aG,bw,bA,bR,aL,bN,bD,bo,aj,bh,bg,aq,ai,aS,a8,aZ,bE,aJ,nq,gk,wc,yL,yB,decide_true,decide_false,simprocAttr,aaJ,bne_self_eq_false,ge_iff_le,gt_iff_lt]
  have d8:decide (cut<=((e:Nat):Int))=true:=decide_eq_true h6
  obtain⟨c,rfl⟩:∃ c:Nat,cut=((c:Nat):Int):=⟨cut.toNat,by omega⟩
  obtain⟨H4,l4,m4,t1,t2,t3,t4,_⟩:=ae5 F.lg hs (ma hT hn F.out) (abl hn F.out.1) (fun j hj=>abl hn (F.low j hj)) wu.parts wu.ab wu.first wu.chain tQ (off:=c) (by rw[wu.ab,HW];omega) (fun r hr=>by
   rw[wu.ab,F.ab] at hr
   obtain⟨j,g1,g2,g3⟩:=Jp hr
   have:=F.le r.2 (by
    have:(bV.map (·.2)).take e=((bV.map (·.2)).take n).take e:=by rw[agr,ad3 F.en]
    rw[this] at g3
    exact adb g3)
   omega)
  have Kj:=low akR t1
  obtain⟨wX,i1,i2,i3,i4,⟨e4,i5,i6⟩,i7,i8⟩:=Zt (off:=c) VC.reverse m3.m (by rw[af9];exact Ia F.lg.st.ok wu.fs) (by rw[af9];exact wu.chain) (by rw[af9,HW];omega) tQ (by rw[af9];exact wu.fs)
  rw[af9] at i6 i7
  rw[List.length_reverse] at i4
  rw[<-t4] at i1
  have i6':b8 wX=fe 1 0 ((bV.map (·.2)).take (min e4 e)):=by rw[i6,F.ab,JA,agr]
  have hlen:=F.len
  have nA:=F.en
  have anf:=F.Cl
  obtain⟨H5,H6,w9,H7,v,k,H8,q1,q2,q3,q4,q5,q6,q7,q8,q9,wS⟩:=Zh (e:=min e4 e) (su:=min su c) hT hn (F.out.then t3.1 fun j hj => .inr (F.low j hj)) t2.st (fun j hj=>(t3.2 j (kV hj)).elim (F.low j) fun q=>abl F.out.1 q) i1 i2 (by omega)
   (fun s qj=>by obtain⟨t,ht,z⟩:=i8 s qj;have:=F.size t (aho.1 ht);omega) (by omega) (by omega) i6' (i7 su F.sq) F.le gK F.Jy (by omega)
   (F.row.pF t3.1 (fun j hj=>(F.wd j hj).2) fun y hy j hj q=>by have:=F.HE y hy j hj;have:=F.low j q;omega) (fun j hj=>⟨(F.wd j hj).1,fun q=>(t3.2 j (kV q)).elim (F.wd j hj).2 fun q=>by have:=F.row.own.rw.lt j hj;omega⟩) F.HE hk
  have d6:decide (((n:Nat):Int)<((k:Nat):Int))=false:=decide_eq_false (by omega)
  refine⟨H8,uL ?_⟩
  unfold oO
  by_cases h7:c<su
  ·have d9:decide (((c:Nat):Int)<((su:Nat):Int))=true:=decide_eq_true (by omega)
   have d5:decide (((k:Nat):Int)<((c:Nat):Int))=false:=decide_eq_false (by omega)
   simp only[hA,cT,kM,d1,d2,d3,d4,b1,C9,k1,eo,d7,ee,d8,Kj,d9,q1,q2,q3,q4,q5,d5,d6,q8,q9,wS,az,bd,aw,av,bG,aH,au,ak,aK,aA,aP,bK,aE,bO,bC,aR,bu,ay,bF,aT,aC,bq,aU,bI,bM,ba,aI,aW,aQ,ar,aV,a7,bS,aF,aO,bt,bJ,aN,aM,aD,bB,br,aY,bQ,bT,bk,bH,af,bp,ag,bP,ah,aB,aG,bw,bA,bR,aL,bN,bD,bo,aj,bh,bg,aq,ai,aS,a8,aZ,bE,aJ,nq,gk,wc,yL,yB,decide_true,decide_false,simprocAttr,aaJ,bne_self_eq_false,ge_iff_le,gt_iff_lt]
  ·have d9:decide (((c:Nat):Int)<((su:Nat):Int))=false:=decide_eq_false (by omega)
   have d5:decide (((k:Nat):Int)<((su:Nat):Int))=false:=decide_eq_false (by omega)
   simp only[hA,cT,kM,d1,d2,d3,d4,b1,C9,k1,eo,d7,ee,d8,Kj,d9,q1,q2,q3,q4,q5,d5,d6,q8,q9,wS,az,bd,aw,av,bG,aH,au,ak,aK,aA,aP,bK,aE,bO,bC,aR,bu,ay,bF,aT,aC,bq,aU,bI,bM,ba,aI,aW,aQ,ar,aV,a7,bS,aF,aO,bt,bJ,aN,aM,aD,bB,br,aY,bQ,bT,bk,bH,af,bp,ag,bP,ah,aB,aG,bw,bA,bR,aL,bN,bD,bo,aj,bh,bg,aq,ai,aS,a8,aZ,bE,aJ,nq,gk,wc,yL,yB,decide_true,decide_false,simprocAttr,aaJ,bne_self_eq_false,ge_iff_le,gt_iff_lt]
theorem agF {H:Hp}{bV:List AV}{ds:List D}(h:Dh H [.slice 4 aax,.int .i64,.slice 1 (.int .i64),.int .i64] bV ds)(hT:fY H dL)(hn:11<=H.next) :
  ∃ H',cK (.func (.func 5) [] []) bV H=some (.bool true,H'):=by
 cases h with
 | cons h0 h=>
 cases h with
 | cons h1 h=>
 cases h with
 | cons h2 h=>
 cases h with
 | cons h3 h=>
 cases h
 obtain⟨l,hx,hb⟩:=adq (abA h0)
 obtain⟨at',rfl,_,mq⟩:=ZA h1
 obtain⟨kl,hk⟩:=adK (abA h2)
 obtain⟨cut,rfl,_⟩:=ZA h3
 exact ahS hx hb hk (by simpa[IntKind.max,IntKind.bits,IntKind.signed] using mq) hT hn
end Go.Proofs.YtbdlbhlhnpblpaaGreatDoor.kf
namespace Go.Proofs.YtbdlbhlhnpblpaaGreatDoor.Hand
open Go
theorem aem {P:Program}{w:World}(h:w.ShapedOpen P){g:Nat}(hg:g+1=P.globals.size)(hr:(((begin P (fun _ _=>0) default).world.heap[g]?).bind Obj.row?).isSome=true):P.globals.size<=w.heap.size:=by
 obtain⟨⟨zero,t⟩,hr⟩:=acV.1 hr
 obtain⟨cs,hc,_⟩:=h.1 g zero t (by omega) hr
 have:=(abH.1 hc).1
 omega
variable {H:Type}{enc:TypeId × Value->H}
theorem handed {a:Assume}{C:Checked}{os:Os}{f:FuncId}{fn:Func}{s:ChangeSpec}{conds:List PathCond}{apart fresh handsOn again:Bool}{X:World->Array Value->Prop}{g:Nat}
  (hg:g+1=C.prog.globals.size) (hr:(((begin C.prog (fun _ _=>0) default).world.heap[g]?).bind Obj.row?).isSome=true)
  (hX:∀ (w w':World) (args:Array Value),w.heap=w'.heap->X w args->X w' args)
  (own:ownKnob C.prog.godebug=none) (started:os.Started) (acw:C.prog.inits.idxOf? f=none) (SN:C.prog.funcs[f]? = some fn)
  (witness:∃ (w:World) (tape:Tape) (i:Input),w.os=os/\(w.forCall tape i).Shaped C.prog/\i.vars=[]/\Input.okWide C.prog (w.forCall tape i) .any w.heap.size f i/\
   ((s.pre enc C.prog fn conds apart (w.forCall tape i).memory i.args/\X (w.forCall tape i).memory i.args)/\sizedMet enc C.prog fn (OpenSpec.ofChange s) apart (w.forCall tape i).memory i.args)/\a.holds C.prog (lone (Frame.enter C.prog f i.args .normal) [] (w.forCall tape i)))
  (ai3:∀ (W:World) (base:Nat) (args:Array Value) (ds gs:List (DataW H)) (before:List MemPlace),C.prog.globals.size<=W.heap.size->
   (∀ (j:Nat) t v,fn.params[j]? = some t->args[j]? = some v->Value.okWide C.prog W .any base t v)->
   DataW.Whole enc C.prog fn.params.toList s.vars apart W args.toList ds gs before->
   conds.all (PathCond.test C.prog ⟨fn.params.toList,ds,s.plain.varTypes C.prog,gs⟩)=true->
   (DataW.weightsEach C.prog (fn.params.toList++s.plain.varTypes C.prog) (ds++gs)).all (·<=reachBytes)=true->X W args->
   a.holds C.prog (lone (Frame.enter C.prog f args .normal) [] W)->
   Calls C.prog f args W fun e W'=>∃ v,e = .returned v/\s.post enc C.prog fn apart fresh handsOn again W args v W') :
  ReturnsInHanded a C os f .any (fun w args=>(s.pre enc C.prog fn conds apart w args/\X w args)/\sizedMet enc C.prog fn (OpenSpec.ofChange s) apart w args) (s.post enc C.prog fn apart fresh handsOn again):=
 returnsInHanded_of_calls own started acw witness fun w tape i _ tH _ jZ AK ah2=>by
  obtain⟨_,_,_,fn',ak2,_,_,_,_,nQ⟩:=jZ
  obtain rfl:fn'=fn:=ada (ak2.symm.trans SN)
  obtain⟨⟨⟨ds,gs,before,hw,hc⟩,hx⟩,hz⟩:=AK
  refine (ai3 (w.forCall tape i) w.heap.size i.args ds gs before (aem tH hg hr) nQ (DataW.Whole.of_heap (w':=w.forCall tape i) (by rfl) hw) hc (hz.weights hw) (hX _ _ _ (by rfl) hx) ah2).mono fun e W' hp => ?_
  obtain⟨v,rfl,hp⟩:=hp
  exact ChangeSpec.post_blind hp
end Go.Proofs.YtbdlbhlhnpblpaaGreatDoor.Hand
