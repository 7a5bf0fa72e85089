/- Laws that the proof uses. -/
import Derived.Test.YtehhgkgeldinkaaGreatDoorWcC
import Derived.Test.YtehhgkgeldinkaaGreatDoorWlK
import Derived.Test.YtehhgkgeldinkaaGreatDoorHp
set_option linter.unusedVariables false
set_option linter.unusedSimpArgs false
set_option maxRecDepth 100000
set_option maxHeartbeats 8000000
namespace Go.Proofs.YtehhgkgeldinkaaGreatDoor.dg
open Go Am Am.K jn Sg kM nO jU iX
section
section
section
section
section
section
theorem eT.tP {lp p:Nat}{H H':Hp}{l:LP}(h:Out [] H H'):eT lp p H l H' l:=⟨h.mono (fun j hj=>by cases hj),fun j hj => .inl hj⟩
noncomputable def vz (m:LM)(a:Nat)(b:List Nat):Int × SM:=iA m.m (dR (if m.parts=[]\/m.ei<=(dS m).2 then gW m else (dS m).1)) (fr a b)
noncomputable def wO (m:LM)(a:Nat)(b:List Nat):Int × LM:=((vz m a b).1,if (vz m a b).1=0 then rj m a b else { m with m:=(vz m a b).2 })
section
variable {H:Hp}{lp p:Nat}{m:LM}{l:LP}
theorem akX (h:Lg H lp p m l)(hs:Small m)(hT:ez H dN)(hn:11<=H.next){ep E:Nat}{y:AV}{b:List Nat}(hy:Rw H 1 y (bs b))(hb:∀ v∈b,v<256)(hlen:b.length<=1024)
  (mE:tK m<=ep) (kI:ep<=1048575) (hE:gW m=(E:Nat)) (hE2:E<=17592186044415) (gH:∀ q∈m.parts,iO q.1=true) :
  ∃ H' l',cK (.func (.func 207) [] []) [.ptr lp 0,.int .i64 ep,y] H=some (.tuple [.int .u64 (if (wO m (ep*17592186044416+E) b).1=0 then ((ep*17592186044416+E:Nat):Int) else 0),.int .i64 (wO m (ep*17592186044416+E) b).1],H')/\Lg H' lp p (wO m (ep*17592186044416+E) b).2 l'/\eT lp p H l H' l'/\∀ y∈l'.ys,y∈l.ys\/∀ i∈aa y,H.next<=i:=by
 have e1:=X0 h hs
 have d1:decide (((ep:Nat):Int)<tK m)=false:=decide_eq_false (by omega)
 have d2:decide ((1048575:Int)<((ep:Nat):Int))=false:=decide_eq_false (by omega)
 have e2:=yq h hs
 rw[hE] at e2
 have e3:=apL (H:=H) ep E kI hE2
 have ha:ep*17592186044416+E<18446744073709551616:=by omega
 have ahb:iO (gW m)=true:=by rw[hE];exact O4 (by omega) (by omega)
 generalize hA:ep*17592186044416+E=a at *
 have ar0:=hy.lt
 have ah:=h.lt
 obtain⟨x',H1,c1,c2,c3,c4⟩:=jU.PL hy (by omega)
 have f1:=VM c2.rw ((a:Nat):Int)
 obtain⟨H2,n1,n2,n3,n4⟩:=eJ H1 [.int .u64 0,.ae] 128 0 (by simp)
 obtain⟨H3,t1,t2,t3,t4⟩:=jf (n:=2) n2 (by omega) (By c2.rw ((a:Nat):Int)) rfl rfl (by
  intro v hv
  rcases yL.1 hv with rfl | hv
  ·rfl
  ·rcases yL.1 hv with rfl | hv
   ·exact Kv c2.rw
   ·cases hv)
 have t5:af 2 (.ptr H1.next 0) H3=some (.agg [.int .u64 ((a:Nat):Int),x']):=t2.af (n:=2) (o:=0) (by simp)
 have OC:=c2.rw.lt
 have ZP:Rw H3 1 x' (bs b):=(c2.rw.out n3 fun j _ q=>by cases q).out t3 fun j hj q=>by
  have:=OC j hj
  rw[wc] at q
  omega
 obtain⟨z,H4,p1,p2,p3,p4⟩:=aoo (x := .ae) (l:=[]) .nil ZP ha hb hlen (by simp)
 rw[afE] at p3
 have zl:=p3.rw.gV
 rw[gO,QN] at zl
 have o3:Out [] H H3:=(c3.trans n3).then t3 fun j hj=>by
  rw[wc] at hj
  have:=c3.1
  exact .inr (by omega)
 have o4:Out [] H H4:=o3.trans p2
 have h4:=h.eR o4
 have VP:=t2.out p2 fun q=>by cases q
 have Kj:=ZP.out p2 fun j _ q=>by cases q
 have rX:∀ j∈aa x',j∉lf lp p l:=fun j hj q=>by have:=c4 j hj;have:=ah j q;omega
 have hid:H1.next∉lf lp p l:=fun q=>by have:=ah _ q;have:=c3.1;omega
 have Wi:∀ j∈aa z,j∉lf lp p l:=fun j hj q=>by have:=p4 j hj;have:=ah j q;have:=o3.1;omega
 have vw:=h4.parts.rl.len (by decide)
 rw[adg] at vw
 have DN:=h4.head.ld (o:=2) rfl
 have KI:=h4.head.ld (o:=1) rfl
 have zJ:=h4.head.ld (o:=0) rfl
 have vK:=hs.parts
 have w1:IntKind.wrap .i64 (((m.parts.length:Nat):Int)-1)=((m.parts.length:Nat):Int)-1:=wrap_i64 (by omega) (by omega)
 have w2:IntKind.wrap .i64 (((m.parts.length:Nat):Int)-1+1)=((m.parts.length:Nat):Int):=by rw[wrap_i64 (by omega) (by omega)];omega
 have AZ:=ly hT hn o4
 have R1:11<=H4.next:=abS hn o4.1
 have frb:=ads (a:=a) hb
 have Qk:=QN a b
 by_cases ji:m.parts=[]\/m.ei<=(dS m).2
 ·have as2:∀ (K1:Bool->R),(∀ c:Bool,c=true->K1 c=K1 true)->True:=fun _ _=>trivial
  have E8:=yq h4 hs
  rw[hE] at E8
  obtain⟨H5,u1,u2,u3,u4⟩:=eJ H4 [.int .i64 0,.int .i64 0] 153 0 (by simp)
  obtain⟨H6,v1,v2,v3,v4⟩:=jf (n:=2) (v := .agg [.int .i64 (E:Nat),.int .i64 0]) (cs:=[.int .i64 (E:Nat),.int .i64 0]) u2 (by omega) rfl rfl rfl (RW ((E:Nat),0))
  have v5:af 2 (.ptr H4.next 0) H6=some (.agg [.int .i64 (E:Nat),.int .i64 0]):=v2.af (n:=2) (o:=0) (by simp)
  have o6:Out [] H4 H6:=u3.then v3 fun j hj=>by rw[wc] at hj;exact .inr (by omega)
  obtain⟨H7,q1,q2⟩:=Ji (ly AZ R1 o6) (abS R1 o6.1) 0 ahb
  rw[hE] at q1
  have o7:Out [] H4 H7:=o6.trans q2
  have h6:=h4.eR o6
  have h7:=h4.eR o7
  have Ee:=h6.head.ld (o:=0) rfl
  have BD:=h7.head.ld (o:=0) rfl
  obtain⟨H8,L',r1,r2,r3⟩:=Tx h7.st (dR (E:Nat)) (p3.rw.out o7 fun j _ q=>by cases q) frb fun j hj q=>Wi j hj (vv q)
  have hS:vz m a b=iA m.m (dR (E:Nat)) (fr a b):=by unfold vz;rw[if_pos ji,hE]
  obtain⟨m',oF⟩:∃ m',m'=(iA m.m (dR (E:Nat)) (fr a b)).2:=⟨_,rfl⟩
  have hX:wO m a b=((iA m.m (dR (E:Nat)) (fr a b)).1,if (iA m.m (dR (E:Nat)) (fr a b)).1=0 then rj m a b else { m with m:=m' }):=by unfold wO;rw[hS,oF]
  rw[hX]
  rw[<-oF] at r2
  obtain⟨h8,g8⟩:=h7.Ei r2 r3
  generalize gG:(iA m.m (dR (E:Nat)) (fr a b)).1=q at *
  have fq:fl [(.int .i64 0),(.int .i64 0)] [(0,1,AV.int .i64 (E:Nat))]=some [.int .i64 (E:Nat),.int .i64 0]:=rfl
  by_cases xu:q=0
  case neg=>
   refine⟨H8,_,KZ ?_,by rw[if_neg xu];exact h8,(eT.tP o4:eT lp p H l H4 l).trans ((eT.tP o7:eT lp p H4 l H7 l).trans g8),fun y hy => .inl hy⟩
   rw[if_neg xu]
   have Kr:(q != 0)=true:=by simpa using xu
   by_cases lS:m.parts=[]
   ·have d3:decide (((m.parts.length:Nat):Int)-1<0)=true:=decide_eq_true (by rw[lS];decide)
    unfold zw
    simp only[e1,d1,d2,e2,e3,c1,f1,n1,t1,t5,p1,DN,vw,w1,d3,E8,fq,u1,v1,Ee,v5,q1,BD,jo (show same (.ptr p 0) (.ptr p 0)=true by simp[same,mO]),r1,Kr,aN,bH,aL,aK,cj,aV,aJ,aG,aZ,aO,bh,cq,aS,cx,bV,bo,bR,aM,cg,br,aQ,bO,bu,cn,cu,bG,aW,bB,bk,aI,bA,bE,cB,aT,bf,bQ,cp,bd,bc,aR,bU,bP,bC,cz,cC,bK,cl,aA,bN,aD,cy,bW,aP,aU,bS,bT,cA,ba,cw,bY,bM,aF,bJ,bI,aH,ck,bq,bF,bD,bZ,aY,nq,gk,yS,aat,aag,decide_true,decide_false,simprocAttr,ab2,bne_self_eq_false,ge_iff_le,gt_iff_lt]
   ·have cL:1<=m.parts.length:=by
     cases hq:m.parts with
     | nil=>exact absurd hq lS
     | cons q r=>simp
    have d3:decide (((m.parts.length:Nat):Int)-1<0)=false:=decide_eq_false (by omega)
    have rY:m.parts[m.parts.length-1]? = some (dS m):=by
     unfold dS
     rw[aiE,aax (by omega)]
     rfl
    obtain⟨b9,o9,z1,z2,z3,z4,z5⟩:=h4.parts.rl.at (by decide) (show (m.parts.map pc)[m.parts.length-1]? = some (pc (dS m)) by rw[adh,rY];rfl)
    have z6:ld (.ptr b9 (o9+1)) H4=some (.int .i64 (dS m).2):=EN (z5 1 _ rfl)
    have z7:=z1 .i64
    rw[show (((m.parts.length-1:Nat):Int))=((m.parts.length:Nat):Int)-1 by omega] at z7
    have d4:decide (m.ei<=(dS m).2)=true:=decide_eq_true (ji.resolve_left lS)
    unfold zw
    simp only[e1,d1,d2,e2,e3,c1,f1,n1,t1,t5,p1,DN,KI,vw,w1,d3,z7,z6,d4,E8,fq,u1,v1,Ee,v5,q1,BD,jo (show same (.ptr p 0) (.ptr p 0)=true by simp[same,mO]),r1,Kr,aN,bH,aL,aK,cj,aV,aJ,aG,aZ,aO,bh,cq,aS,cx,bV,bo,bR,aM,cg,br,aQ,bO,bu,cn,cu,bG,aW,bB,bk,aI,bA,bE,cB,aT,bf,bQ,cp,bd,bc,aR,bU,bP,bC,cz,cC,bK,cl,aA,bN,aD,cy,bW,aP,aU,bS,bT,cA,ba,cw,bY,bM,aF,bJ,bI,aH,ck,bq,bF,bD,bZ,aY,nq,gk,yS,aat,aag,decide_true,decide_false,simprocAttr,ab2,bne_self_eq_false,ge_iff_le,gt_iff_lt]
  subst xu
  rw[if_pos rfl,if_pos rfl]
  have K0:=h8.head.ld (o:=2) rfl
  have Gk:∀ j∈dL p l.L,j<H.next:=fun j hj=>ah j (vv hj)
  have v8:af 2 (.ptr H4.next 0) H8=some (.agg [.int .i64 (E:Nat),.int .i64 0]):=((v2.out q2 fun q=>by cases q).out r3.1 fun q=>by have:=Gk _ q;have:=o4.1;omega).af (n:=2) (o:=0) (by simp)
  obtain⟨H9,sp,lE,i1,i2,i3,i4,i5,i6⟩:=OL.I7 (mD:=153) (z:=[.int .i64 0,.int .i64 0]) (vs:=pc ((E:Nat),0)) h8.parts (RW _) rfl (by decide) (by decide) (by rw[adg];show (m.parts.length+1)*2<=16777216;omega)
  have i3':OL lE 153 2 sp ((m.parts++[((E:Int),(0:Int))]).map pc):=by rw[acJ];exact i3
  obtain⟨nP,k1,iv,g11⟩:=h8.ajK i3' i5 i6
  have ZG:=(h8.eR i4).head.ld (o:=2) rfl
  have oA:eT lp p H4 l nP { l with L:=L',xp:=sp }:=(eT.tP o7:eT lp p H4 l H7 l).trans (g8.trans g11)
  have kR:∀ j,j<H4.next->j∉lf lp p l->j∉lf lp p { l with L:=L',xp:=sp }:=fun j h1 h2 q=>(oA.2 j q).elim h2 fun q=>by omega
  have Di:=Kj.lt
  have NH:H1.next<H4.next:=by have:=p2.1;have:=t3.1;omega
  obtain⟨bb,o,AA,pM,s',tm,CI,y1,y2,y3,y4,y5,y6,y7,y8,y9,Dq,IS,Js,JA,Sr,Sz⟩:=Z3 iv (VP.out oA.1 hid) (kR _ NH hid) (Kj.out oA.1 rX) (fun j hj=>kR j (Di j hj) (rX j hj)) hs.cM (k:=m.parts.length) (f:=(E:Nat)) (s:=0) (by simp) (by omega) (n:=16+b.length) (by omega)
  refine⟨CI,_,KZ ?_,?_,(eT.tP o4:eT lp p H l H4 l).trans (oA.trans Sz),fun y hy=>(aal.1 hy).imp id fun q=>by rw[wc] at q;subst q;exact c4⟩
  ·have fq:fl [(.int .i64 0),(.int .i64 0)] [(0,1,AV.int .i64 (E:Nat))]=some [.int .i64 (E:Nat),.int .i64 0]:=rfl
   have Wr:fl [(.int .i64 0),(.int .i64 0)] [(0,2,AV.agg [.int .i64 (E:Nat),.int .i64 0])]=some [.int .i64 (E:Nat),.int .i64 0]:=rfl
   have sx:same l.xp l.xp=true:=My h.parts.1.rw
   unfold pc at i1
   by_cases lS:m.parts=[]
   ·have d3:decide (((m.parts.length:Nat):Int)-1<0)=true:=decide_eq_true (by rw[lS];decide)
    unfold zw
    simp only[e1,d1,d2,e2,e3,c1,f1,n1,t1,t5,p1,DN,vw,w1,d3,E8,fq,u1,v1,Ee,v5,q1,BD,jo (show same (.ptr p 0) (.ptr p 0)=true by simp[same,mO]),r1,K0,v8,Wr,i1,i2,k1,ZG,jo sx,w2,y1,y2,y3,y4,y5,y6,y7,y8,y9,Dq,IS,Js,jo JA,zl,aN,bH,aL,aK,cj,aV,aJ,aG,aZ,aO,bh,cq,aS,cx,bV,bo,bR,aM,cg,br,aQ,bO,bu,cn,cu,bG,aW,bB,bk,aI,bA,bE,cB,aT,bf,bQ,cp,bd,bc,aR,bU,bP,bC,cz,cC,bK,cl,aA,bN,aD,cy,bW,aP,aU,bS,bT,cA,ba,cw,bY,bM,aF,bJ,bI,aH,ck,bq,bF,bD,bZ,aY,nq,gk,yS,aat,aag,decide_true,decide_false,simprocAttr,ab2,bne_self_eq_false,ge_iff_le,gt_iff_lt]
   ·have cL:1<=m.parts.length:=by
     cases hq:m.parts with
     | nil=>exact absurd hq lS
     | cons q r=>simp
    have d3:decide (((m.parts.length:Nat):Int)-1<0)=false:=decide_eq_false (by omega)
    have rY:m.parts[m.parts.length-1]? = some (dS m):=by
     unfold dS
     rw[aiE,aax (by omega)]
     rfl
    obtain⟨b9,o9,z1,z2,z3,z4,z5⟩:=h4.parts.rl.at (by decide) (show (m.parts.map pc)[m.parts.length-1]? = some (pc (dS m)) by rw[adh,rY];rfl)
    have z6:ld (.ptr b9 (o9+1)) H4=some (.int .i64 (dS m).2):=EN (z5 1 _ rfl)
    have z7:=z1 .i64
    rw[show (((m.parts.length-1:Nat):Int))=((m.parts.length:Nat):Int)-1 by omega] at z7
    have d4:decide (m.ei<=(dS m).2)=true:=decide_eq_true (ji.resolve_left lS)
    unfold zw
    simp only[e1,d1,d2,e2,e3,c1,f1,n1,t1,t5,p1,DN,KI,vw,w1,d3,z7,z6,d4,E8,fq,u1,v1,Ee,v5,q1,BD,jo (show same (.ptr p 0) (.ptr p 0)=true by simp[same,mO]),r1,K0,v8,Wr,i1,i2,k1,ZG,jo sx,w2,y1,y2,y3,y4,y5,y6,y7,y8,y9,Dq,IS,Js,jo JA,zl,aN,bH,aL,aK,cj,aV,aJ,aG,aZ,aO,bh,cq,aS,cx,bV,bo,bR,aM,cg,br,aQ,bO,bu,cn,cu,bG,aW,bB,bk,aI,bA,bE,cB,aT,bf,bQ,cp,bd,bc,aR,bU,bP,bC,cz,cC,bK,cl,aA,bN,aD,cy,bW,aP,aU,bS,bT,cA,ba,cw,bY,bM,aF,bJ,bI,aH,ck,bq,bF,bD,bZ,aY,nq,gk,yS,aat,aag,decide_true,decide_false,simprocAttr,ab2,bne_self_eq_false,ge_iff_le,gt_iff_lt]
  ·have:rj m a b={ m with m:=m',parts:=(m.parts++[((E:Int),(0:Int))]).set m.parts.length ((E:Int),0+((16+b.length:Nat):Int)),cM:=m.cM++[(a,b)] }:=by
    unfold rj
    rw[if_pos ji,oF,hE]
    simp
   rw[this]
   exact Sr
 ·have lS:m.parts≠[]:=fun q=>ji (.inl q)
  have cL:1<=m.parts.length:=by
   cases hq:m.parts with
   | nil=>exact absurd hq lS
   | cons q r=>simp
  have d3:decide (((m.parts.length:Nat):Int)-1<0)=false:=decide_eq_false (by omega)
  have rY:m.parts[m.parts.length-1]? = some (dS m):=by
   unfold dS
   rw[aiE,aax (by omega)]
   rfl
  obtain⟨b9,o9,z1,z2,z3,z4,z5⟩:=h4.parts.rl.at (by decide) (show (m.parts.map pc)[m.parts.length-1]? = some (pc (dS m)) by rw[adh,rY];rfl)
  have z6:ld (.ptr b9 (o9+1)) H4=some (.int .i64 (dS m).2):=EN (z5 1 _ rfl)
  have z7:=z1 .i64
  rw[show (((m.parts.length-1:Nat):Int))=((m.parts.length:Nat):Int)-1 by omega] at z7
  have z8:af 2 (.ptr b9 o9) H4=some (.agg [.int .i64 (dS m).1,.int .i64 (dS m).2]):=AQ z4
  have d4:decide (m.ei<=(dS m).2)=false:=decide_eq_false fun q=>ji (.inr q)
  have anH:iO (dS m).1=true:=gH _ (acx rY)
  obtain⟨H7,q1,q2⟩:=Ji AZ R1 (dS m).2 anH
  have o7:Out [] H4 H7:=q2
  have h7:=h4.eR o7
  have BD:=h7.head.ld (o:=0) rfl
  obtain⟨H8,L',r1,r2,r3⟩:=Tx h7.st (dR (dS m).1) (p3.rw.out o7 fun j _ q=>by cases q) frb fun j hj q=>Wi j hj (vv q)
  have hS:vz m a b=iA m.m (dR (dS m).1) (fr a b):=by unfold vz;rw[if_neg ji]
  obtain⟨m',oF⟩:∃ m',m'=(iA m.m (dR (dS m).1) (fr a b)).2:=⟨_,rfl⟩
  have hX:wO m a b=((iA m.m (dR (dS m).1) (fr a b)).1,if (iA m.m (dR (dS m).1) (fr a b)).1=0 then rj m a b else { m with m:=m' }):=by unfold wO;rw[hS,oF]
  rw[hX]
  rw[<-oF] at r2
  obtain⟨h8,g8⟩:=h7.Ei r2 r3
  generalize gG:(iA m.m (dR (dS m).1) (fr a b)).1=q at *
  by_cases xu:q=0
  case neg=>
   refine⟨H8,_,KZ ?_,by rw[if_neg xu];exact h8,(eT.tP o4:eT lp p H l H4 l).trans ((eT.tP o7:eT lp p H4 l H7 l).trans g8),fun y hy => .inl hy⟩
   rw[if_neg xu]
   have Kr:(q != 0)=true:=by simpa using xu
   unfold zw
   simp only[e1,d1,d2,e2,e3,c1,f1,n1,t1,t5,p1,DN,KI,zJ,vw,w1,d3,z7,z6,z8,d4,q1,BD,jo (show same (.ptr p 0) (.ptr p 0)=true by simp[same,mO]),r1,Kr,aN,bH,aL,aK,cj,aV,aJ,aG,aZ,aO,bh,cq,aS,cx,bV,bo,bR,aM,cg,br,aQ,bO,bu,cn,cu,bG,aW,bB,bk,aI,bA,bE,cB,aT,bf,bQ,cp,bd,bc,aR,bU,bP,bC,cz,cC,bK,cl,aA,bN,aD,cy,bW,aP,aU,bS,bT,cA,ba,cw,bY,bM,aF,bJ,bI,aH,ck,bq,bF,bD,bZ,aY,nq,gk,yS,aat,aag,decide_true,decide_false,simprocAttr,ab2,bne_self_eq_false,ge_iff_le,gt_iff_lt]
  subst xu
  rw[if_pos rfl,if_pos rfl]
  have oA:eT lp p H4 l H8 { l with L:=L' }:=(eT.tP o7:eT lp p H4 l H7 l).trans g8
  have kR:∀ j,j<H4.next->j∉lf lp p l->j∉lf lp p { l with L:=L' }:=fun j h1 h2 q=>(oA.2 j q).elim h2 fun q=>by omega
  have Di:=Kj.lt
  have NH:H1.next<H4.next:=by have:=p2.1;have:=t3.1;omega
  obtain⟨bb,o,AA,pM,s',tm,CI,y1,y2,y3,y4,y5,y6,y7,y8,y9,Dq,IS,Js,JA,Sr,Sz⟩:=Z3 h8 (VP.out oA.1 hid) (kR _ NH hid) (Kj.out oA.1 rX) (fun j hj=>kR j (Di j hj) (rX j hj)) hs.cM (k:=m.parts.length-1) rY (hs.part _ (acx rY)) (n:=16+b.length) (by omega)
  rw[show (((m.parts.length-1:Nat):Int))=((m.parts.length:Nat):Int)-1 by omega] at y1
  obtain⟨rfl,rfl⟩:b9=bb/\o9=o:=by have:=z7.symm.trans y1;simpa using this
  refine⟨CI,_,KZ ?_,?_,(eT.tP o4:eT lp p H l H4 l).trans (oA.trans Sz),fun y hy=>(aal.1 hy).imp id fun q=>by rw[wc] at q;subst q;exact c4⟩
  ·unfold zw
   simp only[e1,d1,d2,e2,e3,c1,f1,n1,t1,t5,p1,DN,KI,zJ,vw,w1,d3,z7,z6,z8,d4,q1,BD,jo (show same (.ptr p 0) (.ptr p 0)=true by simp[same,mO]),r1,w2,y1,y2,y3,y4,y5,y6,y7,y8,y9,Dq,IS,Js,jo JA,zl,aN,bH,aL,aK,cj,aV,aJ,aG,aZ,aO,bh,cq,aS,cx,bV,bo,bR,aM,cg,br,aQ,bO,bu,cn,cu,bG,aW,bB,bk,aI,bA,bE,cB,aT,bf,bQ,cp,bd,bc,aR,bU,bP,bC,cz,cC,bK,cl,aA,bN,aD,cy,bW,aP,aU,bS,bT,cA,ba,cw,bY,bM,aF,bJ,bI,aH,ck,bq,bF,bD,bZ,aY,nq,gk,yS,aat,aag,decide_true,decide_false,simprocAttr,ab2,bne_self_eq_false,ge_iff_le,gt_iff_lt]
  ·have:rj m a b={ m with m:=m',parts:=m.parts.set (m.parts.length-1) ((dS m).1,(dS m).2+((16+b.length:Nat):Int)),cM:=m.cM++[(a,b)] }:=by
    unfold rj
    rw[if_neg ji,oF]
   rw[this]
   exact Sr
end
end
noncomputable def rG:List (Int × Int)->SM->Int × SM
 | [],m=>(0,m)
 | q::r,m=>if (B4 m (dR q.1):Int)=q.2 then rG r m else if (rq m (dR q.1)).1=0 then rG r (rq m (dR q.1)).2 else rq m (dR q.1)
noncomputable def BW (m:LM):Int × LM:=if m.m.off=true then (11,m) else
 ((rG m.parts m.m).1,{ m with m:=(rG m.parts m.m).2,sure:=if (rG m.parts m.m).1=0 then gW m else m.sure })
section
variable {H:Hp}{lp p:Nat}{m:LM}{l:LP}
theorem anv (hT:ez H dN)(hn:11<=H.next){H':Hp}{l':LP}(kZ:∀ j∈lf lp p l,11<=j)(g:eT lp p H l H' l'):ez H' dN/\11<=H'.next/\∀ j∈lf lp p l',11<=j:=by
 refine⟨?_,abS hn g.1.1,fun j hj=>(g.2 j hj).elim (kZ j) fun q=>by omega⟩
 obtain⟨el,hh⟩:=hT
 refine⟨el,fun q l' hg => ?_⟩
 have hb:=Ah q l' hg
 rw[g.1.2 q (by omega) fun z=>by have:=kZ q z;omega]
 exact hh q l' hg
theorem Lg.ant (h:Lg H lp p m l)(v:Int):∃ H2,K.st 1 (.ptr lp 5) (.int .i64 v) H=some H2/\Lg H2 lp p { m with sure:=v } l/\eT lp p H l H2 l:=by
 obtain⟨⟨a1,a2,a3⟩,b,b3⟩:=h.apart
 obtain⟨H2,s1,s2,s3,s4⟩:=h.head.st (o:=5) (v := .int .i64 v) (by simp) rfl
 have n2:∀ j,j≠lp->j∉[lp]:=fun j hj q=>hj (wc.1 q)
 refine⟨H2,s1,⟨s2,h.st.out s3 (fun j hj=>n2 j fun q=>a3 (q▸hj)),h.parts.out s3 (fun j hj=>n2 j fun q=>a1 (q▸hj)),h.cM.lg s3 (fun j hj=>n2 j fun q=>a2 (q▸hj)) (fun y hy i hi=>n2 i fun q=>h.row y hy i hi (q▸s7)),h.nd,h.row⟩,s3.mono fun j hj=>by rw[wc.1 hj];exact s7,fun j hj => .inl hj⟩
theorem QK {ps:List (Int × Int)}(gH:∀ q∈ps,iO q.1=true)(hlen:ps.length<=1000):∀ (r a:List (Int × Int)) (H1:Hp) (m:LM) (l:LP),ps=a++r->ez H1 dN->11<=H1.next->Lg H1 lp p m l->m.parts=ps->(∀ j∈lf lp p l,11<=j)->
  ∃ H' l',(∀ k:K.Fn 1,FL JN GO cK k (.ptr lp 0) l.xp (.int .i64 (ps.length:Nat)) (.int .i64 (a.length:Nat)) H1=if (rG r m.m).1=0 then k (.ptr lp 0) H' else some (.int .i64 (rG r m.m).1,H'))/\
   Lg H' lp p { m with m:=(rG r m.m).2 } l'/\eT lp p H1 l H' l'/\l'.xp=l.xp/\l'.ys=l.ys
 | [],a,H1,m,l,hA,hT,hn,h,AI,kZ=>by
  rw[afD] at hA
  subst hA
  have d:decide (((ps.length:Nat):Int)<((ps.length:Nat):Int))=false:=decide_eq_false (by omega)
  refine⟨H1,l,fun k => ?_,h,eT.refl _ _ _ _,rfl,rfl⟩
  rw[J7,rG,if_pos rfl]
  simp only[EG,d,aN,bH,aL,aK,cj,aV,aJ,aG,aZ,aO,bh,cq,aS,cx,bV,bo,bR,aM,cg,br,aQ,bO,bu,cn,cu,bG,aW,bB,bk,aI,bA,bE,cB,aT,bf,bQ,cp,bd,bc,aR,bU,bP,bC,cz,cC,bK,cl,aA,bN,aD,cy,bW,aP,aU,bS,bT,cA,ba,cw,bY,bM,aF,bJ,bI,aH,ck,bq,bF,bD,bZ,aY,nq,gk,yS,aat,aag,decide_true,decide_false,simprocAttr,ab2,bne_self_eq_false,ge_iff_le,gt_iff_lt]
 | s::r,a,H1,m,l,hA,hT,hn,h,AI,kZ=>by
  have asf:a.length<ps.length:=by rw[hA];simp
  have d:decide (((a.length:Nat):Int)<((ps.length:Nat):Int))=true:=decide_eq_true (by omega)
  have hq:(m.parts.map pc)[a.length]? = some (pc s):=by rw[AI,hA];simp
  obtain⟨b,o,z1,z2,z3,z4,z5⟩:=h.parts.rl.at (by decide) hq
  have uH:=z1 .i64
  obtain⟨f,sz⟩:=s
  have z6:af 2 (.ptr b o) H1=some (.agg [.int .i64 f,.int .i64 sz]):=AQ z4
  have acn:iO f=true:=gH (f,sz) (by rw[hA];simp)
  obtain⟨H2,u1,u2,u3,u4⟩:=eJ H1 [.int .i64 0,.int .i64 0] 153 0 (by simp)
  obtain⟨H3,v1,v2,v3,v4⟩:=jf (n:=2) (v := .agg [.int .i64 f,.int .i64 sz]) (cs:=[.int .i64 f,.int .i64 sz]) u2 (by omega) rfl rfl rfl (RW (f,sz))
  have o3:Out [] H1 H3:=u3.then v3 fun j hj=>by rw[wc] at hj;exact .inr (by omega)
  have v5:af 2 (.ptr H1.next 0) H3=some (.agg [.int .i64 f,.int .i64 sz]):=v2.af (n:=2) (o:=0) (by simp)
  have v6:ld (.ptr H1.next 1) H3=some (.int .i64 sz):=v2.ld rfl
  obtain⟨H4,q1,q2⟩:=Ji (ly hT hn o3) (abS hn o3.1) sz acn
  have o4:=o3.trans q2
  have w2:=v2.out q2 fun q=>by cases q
  have w6:ld (.ptr H1.next 1) H4=some (.int .i64 sz):=w2.ld rfl
  have h3:=h.eR o3
  have h4:=h.eR o4
  have TU:=h3.head.ld (o:=0) rfl
  have zJ:=h4.head.ld (o:=0) rfl
  have vY:=afJ h4.st (dR f)
  have sp:same (.ptr p 0) (.ptr p 0)=true:=by simp[same,mO]
  have sl:=OX .i64 sz
  have Wm:ps=(a++[(f,sz)])++r:=by rw[hA];simp
  have e3:IntKind.wrap .i64 (((a.length:Nat):Int)+1)=(((a++[(f,sz)]).length:Nat):Int):=by
   rw[wrap_i64 (by omega) (by omega)];simp
  rw[rG]
  by_cases dp:(B4 m.m (dR f):Int)=sz
  ·have d2:((((B4 m.m (dR f):Nat):Int))==sz)=true:=by rw[beq_iff_eq];exact dp
   rw[if_pos dp]
   obtain⟨H',l',k1,k2,k3,k4⟩:=QK gH hlen r (a++[(f,sz)]) H4 m l Wm (ly hT hn o4) (abS hn o4.1) h4 AI kZ
   refine⟨H',l',fun k => ?_,k2,(eT.tP o4).trans k3,k4⟩
   have rz:=k1 k
   rw[J7]
   simp only[EG,d,uH,z6,u1,v1,v5,v6,q1,TU,zJ,vY,w6,d2,jo sp,jo sl,e3,aN,bH,aL,aK,cj,aV,aJ,aG,aZ,aO,bh,cq,aS,cx,bV,bo,bR,aM,cg,br,aQ,bO,bu,cn,cu,bG,aW,bB,bk,aI,bA,bE,cB,aT,bf,bQ,cp,bd,bc,aR,bU,bP,bC,cz,cC,bK,cl,aA,bN,aD,cy,bW,aP,aU,bS,bT,cA,ba,cw,bY,bM,aF,bJ,bI,aH,ck,bq,bF,bD,bZ,aY,nq,gk,yS,aat,aag,decide_true,decide_false,simprocAttr,ab2,bne_self_eq_false,ge_iff_le,gt_iff_lt]
   exact rz
  ·have d2:((((B4 m.m (dR f):Nat):Int))==sz)=false:=by rw[beq_eq_false_iff_ne];exact dp
   rw[if_neg dp]
   have Uf:af 2 (.ptr H1.next 0) H4=some (.agg [.int .i64 f,.int .i64 sz]):=w2.af (n:=2) (o:=0) (by simp)
   obtain⟨H5,q3,q4⟩:=Ji (ly hT hn o4) (abS hn o4.1) sz acn
   have o5:=o4.trans q4
   have h5:=h.eR o5
   have ZT:=h5.head.ld (o:=0) rfl
   obtain⟨H6,L',r1,r2,r3⟩:=aly h5.st (dR f)
   obtain⟨h6,g6⟩:=h5.Ei r2 r3
   have o6:eT lp p H1 l H6 { l with L:=L' }:=(eT.tP o5).trans g6
   generalize rq m.m (dR f)=sy at *
   by_cases hz:sy.1=0
   ·rw[if_pos hz]
    have Aj:(sy.1 != 0)=false:=by rw[hz];rfl
    obtain⟨hT6,hn6,aiR⟩:=anv hT hn kZ o6
    obtain⟨H',l',k1,k2,k3,k4⟩:=QK gH hlen r (a++[(f,sz)]) H6 _ _ Wm hT6 hn6 h6 AI aiR
    refine⟨H',l',fun k => ?_,k2,o6.trans k3,k4⟩
    have rz:=k1 k
    rw[J7]
    simp only[EG,d,uH,z6,u1,v1,v5,v6,q1,TU,zJ,vY,w6,d2,jo sp,jo sl,Uf,q3,ZT,r1,e3,Aj,aN,bH,aL,aK,cj,aV,aJ,aG,aZ,aO,bh,cq,aS,cx,bV,bo,bR,aM,cg,br,aQ,bO,bu,cn,cu,bG,aW,bB,bk,aI,bA,bE,cB,aT,bf,bQ,cp,bd,bc,aR,bU,bP,bC,cz,cC,bK,cl,aA,bN,aD,cy,bW,aP,aU,bS,bT,cA,ba,cw,bY,bM,aF,bJ,bI,aH,ck,bq,bF,bD,bZ,aY,nq,gk,yS,aat,aag,decide_true,decide_false,simprocAttr,ab2,bne_self_eq_false,ge_iff_le,gt_iff_lt]
    exact rz
   ·rw[if_neg hz]
    have Aj:(sy.1 != 0)=true:=by simpa using hz
    refine⟨H6,_,fun k => ?_,h6,o6,rfl,rfl⟩
    rw[J7,if_neg hz]
    simp only[EG,d,uH,z6,u1,v1,v5,v6,q1,TU,zJ,vY,w6,d2,jo sp,jo sl,Uf,q3,ZT,r1,e3,Aj,aN,bH,aL,aK,cj,aV,aJ,aG,aZ,aO,bh,cq,aS,cx,bV,bo,bR,aM,cg,br,aQ,bO,bu,cn,cu,bG,aW,bB,bk,aI,bA,bE,cB,aT,bf,bQ,cp,bd,bc,aR,bU,bP,bC,cz,cC,bK,cl,aA,bN,aD,cy,bW,aP,aU,bS,bT,cA,ba,cw,bY,bM,aF,bJ,bI,aH,ck,bq,bF,bD,bZ,aY,nq,gk,yS,aat,aag,decide_true,decide_false,simprocAttr,ab2,bne_self_eq_false,ge_iff_le,gt_iff_lt]
theorem akO (h:Lg H lp p m l)(hs:Small m)(hT:ez H dN)(hn:11<=H.next)(kZ:∀ j∈lf lp p l,11<=j)(gH:∀ q∈m.parts,iO q.1=true) :
  ∃ H' l',cK (.func (.func 209) [] []) [.ptr lp 0] H=some (.int .i64 (BW m).1,H')/\Lg H' lp p (BW m).2 l'/\eT lp p H l H' l'/\l'.ys=l.ys:=by
 have l0:=h.head.ld (o:=0) rfl
 have l2:=h.head.ld (o:=2) rfl
 have e1:=iX.CX h.st
 have vw:=h.parts.rl.len (by decide)
 rw[adg] at vw
 unfold BW
 cases ho:m.m.off with
 | true=>
  rw[ho] at e1
  rw[if_pos rfl]
  refine⟨H,l,TH ?_,h,eT.refl _ _ _ _,rfl⟩
  unfold FY
  simp only[l0,e1,aN,bH,aL,aK,cj,aV,aJ,aG,aZ,aO,bh,cq,aS,cx,bV,bo,bR,aM,cg,br,aQ,bO,bu,cn,cu,bG,aW,bB,bk,aI,bA,bE,cB,aT,bf,bQ,cp,bd,bc,aR,bU,bP,bC,cz,cC,bK,cl,aA,bN,aD,cy,bW,aP,aU,bS,bT,cA,ba,cw,bY,bM,aF,bJ,bI,aH,ck,bq,bF,bD,bZ,aY,nq,gk,yS,aat,aag,decide_true,decide_false,simprocAttr,ab2,bne_self_eq_false,ge_iff_le,gt_iff_lt]
 | false=>
  rw[ho] at e1
  rw[if_neg (by decide)]
  obtain⟨H1,l1,k1,k2,k3,k4⟩:=QK gH hs.parts m.parts [] H m l rfl hT hn h rfl kZ
  by_cases hz:(rG m.parts m.m).1=0
  ·have e2:=yq k2 ⟨hs.first,hs.cM,hs.at',hs.parts,hs.part⟩
   obtain⟨H2,t1,t2,t3⟩:=k2.ant (gW m)
   refine⟨H2,l1,TH ?_,by rw[if_pos hz];exact t2,k3.trans t3,k4.2⟩
   have ee:gW { m with m:=(rG m.parts m.m).2 }=gW m:=rfl
   rw[ee] at e2
   unfold FY
   rw[hz]
   have rz:=fun k=>k1 k
   simp only[hz,if_true,show ((([]:List (Int × Int)).length:Nat):Int)=0 from rfl] at rz
   simp only[l0,l2,e1,vw,rz,e2,t1,aN,bH,aL,aK,cj,aV,aJ,aG,aZ,aO,bh,cq,aS,cx,bV,bo,bR,aM,cg,br,aQ,bO,bu,cn,cu,bG,aW,bB,bk,aI,bA,bE,cB,aT,bf,bQ,cp,bd,bc,aR,bU,bP,bC,cz,cC,bK,cl,aA,bN,aD,cy,bW,aP,aU,bS,bT,cA,ba,cw,bY,bM,aF,bJ,bI,aH,ck,bq,bF,bD,bZ,aY,nq,gk,yS,aat,aag,decide_true,decide_false,simprocAttr,ab2,bne_self_eq_false,ge_iff_le,gt_iff_lt]
  ·refine⟨H1,l1,TH ?_,by rw[if_neg hz];exact k2,k3,k4.2⟩
   unfold FY
   have rz:=fun k=>k1 k
   simp only[hz,if_false,show ((([]:List (Int × Int)).length:Nat):Int)=0 from rfl] at rz
   simp only[l0,l2,e1,vw,rz,aN,bH,aL,aK,cj,aV,aJ,aG,aZ,aO,bh,cq,aS,cx,bV,bo,bR,aM,cg,br,aQ,bO,bu,cn,cu,bG,aW,bB,bk,aI,bA,bE,cB,aT,bf,bQ,cp,bd,bc,aR,bU,bP,bC,cz,cC,bK,cl,aA,bN,aD,cy,bW,aP,aU,bS,bT,cA,ba,cw,bY,bM,aF,bJ,bI,aH,ck,bq,bF,bD,bZ,aY,nq,gk,yS,aat,aag,decide_true,decide_false,simprocAttr,ab2,bne_self_eq_false,ge_iff_le,gt_iff_lt]
end
end
section
variable {H:Hp}{lp p:Nat}{m:LM}{l:LP}
end
section
variable {H:Hp}{lp p:Nat}{m:LM}{l:LP}
end
end
section
variable {lp p:Nat}
end
end
section
variable {H:Hp}{lp p:Nat}{m:LM}{l:LP}
end
end
theorem aj7 {H:Hp}{a:Nat}{y:AV}{b:List Nat}(hy:Rw H 1 y (bs b))(hl:b.length<=100000) :
  ∃ x H',cK (.func (.func 183) [] []) [.agg [.int .u64 (a:Nat),y]] H=some (.agg [.int .u64 (a:Nat),x],H')/\Rw H' 1 x (bs b)/\Out [] H H'/\∀ j∈aa x,H.next<=j:=by
 obtain⟨H1,b1,b2,b3,b4⟩:=jP H 128 _ _ (By hy ((a:Nat):Int)) (by simp)
 obtain⟨H2,n1,n2,n3,n4⟩:=eJ H1 [.int .u64 0,.ae] 128 0 (by simp)
 have r2:=b2.out n3 fun q=>by cases q
 have l0:ld (.ptr H.next 0) H2=some (.int .u64 ((a:Nat):Int)):=r2.ld rfl
 have l1:ld (.ptr H.next 1) H2=some y:=r2.ld rfl
 have hy2:=(hy.out b3 fun j _ q=>by cases q).out n3 fun j _ q=>by cases q
 obtain⟨x,H3,c1,c2,c3,c4⟩:=jU.PL hy2 (by omega)
 have f1:=VM c2.rw ((a:Nat):Int)
 have Qv:=n2.out c3 fun q=>by cases q
 obtain⟨H4,t1,t2,t3,t4⟩:=jf (n:=2) Qv (by omega) (By c2.rw ((a:Nat):Int)) rfl rfl (by
  intro v hv
  rcases yL.1 hv with rfl | hv
  ·rfl
  ·rcases yL.1 hv with rfl | hv
   ·exact Kv c2.rw
   ·cases hv)
 have t5:af 2 (.ptr H1.next 0) H4=some (.agg [.int .u64 ((a:Nat):Int),x]):=t2.af (n:=2) (o:=0) (by simp)
 have l03:ld (.ptr H.next 0) H3=some (.int .u64 ((a:Nat):Int)):=(r2.out c3 fun q=>by cases q).ld rfl
 refine⟨x,H4,afV ?_,c2.rw.out t3 fun j hj q => ?_,((b3.trans n3).trans c3).then t3 fun j hj => ?_,fun j hj=>abS (b3.trans n3).1 (c4 j hj)⟩
 ·unfold XU
  simp only[b1,n1,l0,l1,c1,f1,t1,l03,jo (OX .u64 ((a:Nat):Int)),t5,aN,bH,aL,aK,cj,aV,aJ,aG,aZ,aO,bh,cq,aS,cx,bV,bo,bR,aM,cg,br,aQ,bO,bu,cn,cu,bG,aW,bB,bk,aI,bA,bE,cB,aT,bf,bQ,cp,bd,bc,aR,bU,bP,bC,cz,cC,bK,cl,aA,bN,aD,cy,bW,aP,aU,bS,bT,cA,ba,cw,bY,bM,aF,bJ,bI,aH,ck,bq,bF,bD,bZ,aY,nq,gk,yS,aat,aag,decide_true,decide_false,simprocAttr,ab2,bne_self_eq_false,ge_iff_le,gt_iff_lt]
 ·rw[wc] at q
  have:=c4 j hj
  omega
 ·rw[wc] at hj
  have:=b3.1
  exact .inr (by omega)
section
variable {H:Hp}{lp p:Nat}{m:LM}{l:LP}
theorem WC {H0:Hp}(hs:Small m)(hr:∀ r∈m.cM,r.2.length<=100000){ei:Int}(h0:Lg H0 lp p m l)(hf:∀ j∈lf lp p l,j<H0.next):∀ (n i:Nat) (x:AV) (rs:List (Nat × List Nat)) (ys:List AV) (H:Hp),m.cM.length=i+n->Lg H lp p m l->Out [] H0 H->Rs H x rs ys->(∀ j∈aa x,H0.next<=j)->rs.length<=i->
  ∃ x' HS H',(∀ k:K.Fn 1,Hw JN GO cK k (.ptr lp 0) (.int .i64 (m.first+(i:Nat))) (.int .i64 ei) x H=k x' H')/\Lg H' lp p m l/\Out [] H0 H'/\Rs H' x' (rs++(m.cM.drop i).take (ei-rs.length).toNat) HS/\(∀ j∈aa x',H0.next<=j)
 | 0,i,x,rs,ys,H,hn,h,ho,hx,hd,hl=>by
  have sM:m.cM.drop i=[]:=afn (by omega)
  refine⟨x,ys,H,fun k => ?_,h,ho,by rw[sM];simpa using hx,hd⟩
  have e1:=yq h hs
  have d:decide (m.first+(i:Nat)<gW m)=false:=decide_eq_false (by unfold gW;omega)
  rw[Jy]
  simp only[AD,e1,d,aN,bH,aL,aK,cj,aV,aJ,aG,aZ,aO,bh,cq,aS,cx,bV,bo,bR,aM,cg,br,aQ,bO,bu,cn,cu,bG,aW,bB,bk,aI,bA,bE,cB,aT,bf,bQ,cp,bd,bc,aR,bU,bP,bC,cz,cC,bK,cl,aA,bN,aD,cy,bW,aP,aU,bS,bT,cA,ba,cw,bY,bM,aF,bJ,bI,aH,ck,bq,bF,bD,bZ,aY,nq,gk,yS,aat,aag,decide_true,decide_false,simprocAttr,ab2,bne_self_eq_false,ge_iff_le,gt_iff_lt]
 | n+1,i,x,rs,ys,H,hn,h,ho,hx,hd,hl=>by
  have e1:=yq h hs
  have d:decide (m.first+(i:Nat)<gW m)=true:=decide_eq_true (by unfold gW;omega)
  have dW:=hx.G6
  by_cases hm:((rs.length:Nat):Int)<ei
  ·have d2:decide (((rs.length:Nat):Int)<ei)=true:=decide_eq_true hm
   have h1:=hs.first
   have h2:=hs.cM
   obtain⟨r,hj⟩:∃ r,m.cM[i]? = some r:=⟨_,aax (by omega)⟩
   have pB:=hr r (acx hj)
   have l4:=h.head.ld (o:=4) rfl
   have l3:=h.head.ld (o:=3) rfl
   have w:IntKind.wrap .i64 (m.first+(i:Nat)-m.first)=(i:Nat):=by rw[wrap_i64 (by omega) (by omega)];omega
   have w2:IntKind.wrap .i64 (m.first+(i:Nat)+1)=m.first+((i+1:Nat):Int):=by rw[wrap_i64 (by omega) (by omega)];omega
   obtain⟨b,o,y,a1,a2,a3,a4,a5,a6⟩:=h.cM.af hj
   obtain⟨x2,H1,c1,c2,c3,c4⟩:=aj7 (a:=r.1) a5 pB
   have qd:=hx.out c3
   have cr:=By c2 ((r.1:Nat):Int)
   have f1:fl [(.int .u64 0),.ae] [(0,2,.agg [.int .u64 (r.1:Nat),x2])]=some [.int .u64 (r.1:Nat),x2]:=by simp[fl,cr]
   have an1:=hx.own.rw.lt
   obtain⟨H2,s',H3,m1,m2,m3,m4,m5⟩:=qd.push (a:=r.1) c2 (fun j hj q=>by have:=c4 j hj;have:=an1 j q;omega) (by omega)
   have F5:=ho.trans c3
   have CS:Out [] H0 H3:=F5.then m4 fun j hj => .inr (hd j hj)
   have h3:Lg H3 lp p m l:=(h.eR c3).out m4 (fun j hj q=>by have:=hf j hj;have:=hd j q;omega) fun y hy k hk q=>by
    have:=h0.cM.uh y hy k hk
    have:=hd k q
    omega
   have SL:∀ j∈aa s',H0.next<=j:=fun j hj=>(m5 j hj).elim (hd j) fun q=>abS F5.1 q
   obtain⟨x',HS,H',k1,k2,k3,k4,k5⟩:=WC hs hr h0 hf n (i+1) s' _ _ H3 (by omega) h3 CS m3 SL (by simp;omega)
   have B5:=a1 .i64
   refine⟨x',HS,H',fun k => ?_,k2,k3,?_,k5⟩
   ·rw[Jy]
    simp only[AD,e1,d,dW,d2,l4,l3,w,B5,a2,c1,f1,m1,m2,w2,aN,bH,aL,aK,cj,aV,aJ,aG,aZ,aO,bh,cq,aS,cx,bV,bo,bR,aM,cg,br,aQ,bO,bu,cn,cu,bG,aW,bB,bk,aI,bA,bE,cB,aT,bf,bQ,cp,bd,bc,aR,bU,bP,bC,cz,cC,bK,cl,aA,bN,aD,cy,bW,aP,aU,bS,bT,cA,ba,cw,bY,bM,aF,bJ,bI,aH,ck,bq,bF,bD,bZ,aY,nq,gk,yS,aat,aag,decide_true,decide_false,simprocAttr,ab2,bne_self_eq_false,ge_iff_le,gt_iff_lt]
    exact k1 k
   ·have e:(m.cM.drop i).take (ei-rs.length).toNat=r::(m.cM.drop (i+1)).take (ei-((rs++[r]).length:Nat)).toNat:=by
     have mC:=(abf.1 hj).1
     rw[agE mC,(abf.1 hj).2]
     have:(ei-((rs.length:Nat):Int)).toNat=(ei-(((rs++[r]).length:Nat):Int)).toNat+1:=by
      rw[abz]
      simp only[abn,abY]
      omega
     rw[this,List.take_succ_cons]
    rw[e]
    have:=k4
    rw[adY] at this
    exact this
  ·have d2:decide (((rs.length:Nat):Int)<ei)=false:=decide_eq_false hm
   have ht:(ei-((rs.length:Nat):Int)).toNat=0:=by omega
   refine⟨x,ys,H,fun k => ?_,h,ho,by rw[ht];simpa using hx,hd⟩
   rw[Jy]
   simp only[AD,e1,d,dW,d2,aN,bH,aL,aK,cj,aV,aJ,aG,aZ,aO,bh,cq,aS,cx,bV,bo,bR,aM,cg,br,aQ,bO,bu,cn,cu,bG,aW,bB,bk,aI,bA,bE,cB,aT,bf,bQ,cp,bd,bc,aR,bU,bP,bC,cz,cC,bK,cl,aA,bN,aD,cy,bW,aP,aU,bS,bT,cA,ba,cw,bY,bM,aF,bJ,bI,aH,ck,bq,bF,bD,bZ,aY,nq,gk,yS,aat,aag,decide_true,decide_false,simprocAttr,ab2,bne_self_eq_false,ge_iff_le,gt_iff_lt]
end
theorem Jh (H:Hp):Rs H .ae [] []:=⟨.nil,rfl,(fun j y r h=>by simp at h),(fun y h=>by cases h)⟩
section
variable {H:Hp}{lp p:Nat}{m:LM}{l:LP}
theorem akA (h:Lg H lp p m l)(hs:Small m)(hr:∀ r∈m.cM,r.2.length<=100000)(off ei:Int) :
  ∃ x ys H',cK (.func (.func 126) [] []) [.ptr lp 0,.int .i64 off,.int .i64 ei] H=some (x,H')/\Lg H' lp p m l/\Out [] H H'/\Rs H' x ((m.cM.drop ((if off<m.first then m.first else off)-m.first).toNat).take ei.toNat) ys:=by
 have l4:=h.head.ld (o:=4) rfl
 have e1:=yq h hs
 have h1:=hs.first
 have h2:=hs.cM
 generalize hv:(if off<m.first then m.first else off)=v
 have iI:m.first<=v:=by subst hv;split<;>omega
 have G3:eP P .max #[2,2] [.int .i64 off,.int .i64 m.first] H=some (.int .i64 v,H):=by rw[JL,hv]
 by_cases hb:v<gW m
 ·obtain⟨x',HS,H',k1,k2,k3,k4,k5⟩:=WC hs hr (ei:=ei) h h.lt (m.cM.length-(v-m.first).toNat) (v-m.first).toNat .ae [] [] H (by unfold gW at hb;omega) h (Out.refl _ _) (Jh _) (fun j hj=>by cases hj) (adf _)
  rw[show m.first+(((v-m.first).toNat:Nat):Int)=v by omega] at k1
  refine⟨x',HS,H',Vx ?_,k2,k3,by simpa using k4⟩
  unfold Lj
  simp only[AD,l4,G3,k1,aN,bH,aL,aK,cj,aV,aJ,aG,aZ,aO,bh,cq,aS,cx,bV,bo,bR,aM,cg,br,aQ,bO,bu,cn,cu,bG,aW,bB,bk,aI,bA,bE,cB,aT,bf,bQ,cp,bd,bc,aR,bU,bP,bC,cz,cC,bK,cl,aA,bN,aD,cy,bW,aP,aU,bS,bT,cA,ba,cw,bY,bM,aF,bJ,bI,aH,ck,bq,bF,bD,bZ,aY,nq,gk,yS,aat,aag,decide_true,decide_false,simprocAttr,ab2,bne_self_eq_false,ge_iff_le,gt_iff_lt]
 ·have sM:m.cM.drop (v-m.first).toNat=[]:=afn (by unfold gW at hb;omega)
  have d:decide (v<gW m)=false:=decide_eq_false hb
  refine⟨.ae,[],H,Vx ?_,h,Out.refl _ _,by rw[sM];simpa using (Jh H)⟩
  unfold Lj
  simp only[AD,l4,G3,aN,bH,aL,aK,cj,aV,aJ,aG,aZ,aO,bh,cq,aS,cx,bV,bo,bR,aM,cg,br,aQ,bO,bu,cn,cu,bG,aW,bB,bk,aI,bA,bE,cB,aT,bf,bQ,cp,bd,bc,aR,bU,bP,bC,cz,cC,bK,cl,aA,bN,aD,cy,bW,aP,aU,bS,bT,cA,ba,cw,bY,bM,aF,bJ,bI,aH,ck,bq,bF,bD,bZ,aY,nq,gk,yS,aat,aag,decide_true,decide_false,simprocAttr,ab2,bne_self_eq_false,ge_iff_le,gt_iff_lt]
  rw[Jy]
  simp only[AD,e1,d,aN,bH,aL,aK,cj,aV,aJ,aG,aZ,aO,bh,cq,aS,cx,bV,bo,bR,aM,cg,br,aQ,bO,bu,cn,cu,bG,aW,bB,bk,aI,bA,bE,cB,aT,bf,bQ,cp,bd,bc,aR,bU,bP,bC,cz,cC,bK,cl,aA,bN,aD,cy,bW,aP,aU,bS,bT,cA,ba,cw,bY,bM,aF,bJ,bI,aH,ck,bq,bF,bD,bZ,aY,nq,gk,yS,aat,aag,decide_true,decide_false,simprocAttr,ab2,bne_self_eq_false,ge_iff_le,gt_iff_lt]
end
theorem ark:Eu []=[]:=by
 have h:∀ z,z∉Eu []:=fun z hz=>by
  obtain⟨s,hs,_⟩:=(anB [] z).1 hz
  cases hs
 cases hq:Eu [] with
 | nil=>rfl
 | cons a r=>exact absurd (hq▸List.Mem.head _) (h a)
end
noncomputable section
noncomputable def W4 (J : JT)(G : GT)(cf : CF)(a0 : AV)(H : Hp) : R :=
 B1 (ag a0) fun v0 =>
 B1 (fa 0 v0) fun v1 =>
 B1 (ld v1 H) fun v2 =>
 B1 (ag a0) fun v3 =>
 B1 (fa 0 v3) fun v4 =>
 B1 (ld v4 H) fun v5 =>
 B2 (cf (.func (.func 127) [] []) [v5] H) fun v6 h7 =>
 B1 (ag a0) fun v8 =>
 B1 (fa 0 v8) fun v9 =>
 B1 (ld v9 h7) fun v10 =>
 B2 (cf (.func (.func 69) [] []) [v10] h7) fun v11 eG =>
 B1 (ag a0) fun cY =>
 B1 (fa 0 cY) fun du =>
 B1 (ld du eG) fun da =>
 B2 (cf (.func (.func 127) [] []) [da] eG) fun dD eE =>
 B1 (jI v11 dD) fun dw =>
 B2 (cf (.func (.func 126) [] []) [v2, v6, dw] eE) fun eu dX =>
 B1 (ld v1 h7) fun v21 =>
 SM v2 v21 <|
 B1 (ld v9 H) fun v22 =>
 SM v10 v22 <|
 B1 (ld du H) fun v23 =>
 SM da v23 <|
 B1 (ld v1 eG) fun v24 =>
 SM v2 v24 <|
 B1 (ld du h7) fun v25 =>
 SM da v25 <|
 B1 (ld v1 eE) fun v26 =>
 SM v2 v26 <|
 some (eu, dX)
theorem arT {a0:AV}{H:Hp}{r:AV × Hp}(h:W4 JN GO cK a0 H=some r):cK (.func (.func 205) [] []) [a0] H=some r:=aE (first:=[]) (cap:=[]) (No (by kernel_rfl) h)
noncomputable def L8 (J : JT)(G : GT)(cf : CF)(j4 : K.Fn 1)(j5 : K.Fn 4)(x6 x7 x8 x9 : AV)(cG : Hp) : R :=
 B1 (dV x9 x8) fun v11 =>
 CD v11 (
 J 4 (fun fw =>
 J 4 (fun fg =>
 B1 (ia 2 x7 x9) fun du =>
 B1 (af 2 du cG) fun da =>
 BN (cI cG [(.int .u64 0), .ae] 128 0) fun i16 eE =>
 B1 (st 2 (.ptr i16 0) da eE) fun fv =>
 J 6 (fun iS =>
 B1 (fa 1 (.ptr i16 0)) fun v20 =>
 B1 (ld v20 fv) fun v21 =>
 B2 (cf (.func (.func 49) [] []) [v21] fv) fun v22 eZ =>
 B1 (ex 0 v22) fun v24 =>
 B1 (ex 1 v22) fun v25 =>
 BN (cI eZ [(.int .i64 0), (.int .i64 0), (.int .i64 0), (.int .i64 0), (.int .i64 0), (.str []), (.str []), (.str [])] 130 0) fun i26 dJ =>
 B1 (st 8 (.ptr i26 0) v24 dJ) fun jd =>
 iS x6 (.ptr i26 0) v25 x7 x8 x9 jd) (fun dm dy eY eD gj kU pg =>
 B1 (cN eY (.int .i64 0)) fun v36 =>
 CD v36 (
 B1 (af 8 dy pg) fun v37 =>
 B1 (fl [(.int .i64 0), (.int .i64 0), (.int .i64 0), (.int .i64 0), (.int .i64 0), (.str []), (.str []), (.str [])] [(0, 8, v37)]) fun l38 =>
 BN (cI pg l38 130 0) fun i39 jv =>
 B2 (fZ 130 8 [(.int .i64 0), (.int .i64 0), (.int .i64 0), (.int .i64 0), (.int .i64 0), (.str []), (.str []), (.str [])] false dm (.slice i39 0 1 1 true 8) jv) fun v41 js =>
 fg v41 eD gj kU js) (
 fg dm eD gj kU pg))) (fun gh gF fY fV jk =>
 fw gh gF fY fV jk)) (fun kO jS jb lC mg =>
 B1 (dj lC (.int .i64 1)) fun v53 =>
 j5 kO jS jb v53 mg)) (
 j4 x6 cG)
noncomputable def HV (J:JT)(G:GT)(cf:CF)(j4:K.Fn 1):K.Fn 4:=gI P an J G cf 151 [1,1,0,1,0,0] [3,9,10,11] (fun q t H=>match Nat.beq q 0 with | true=>app 1 j4 (ai [3] t) H | false=>(fun _ _ _=>none) q t H)
theorem ai0 (J:JT)(G:GT)(cf:CF)(j4:K.Fn 1)(j5:K.Fn 4)(x6 x7 x8 x9:AV)(cG:Hp):nI P an J G cf 151 [1,1,0,1,0,0] [3,9,10,11] (fun q t H=>match Nat.beq q 0 with | true=>app 1 j4 (ai [3] t) H | false=>(fun _ _ _=>none) q t H) j5 [x6,x7,x8,x9] cG=L8 J G cf j4 j5 x6 x7 x8 x9 cG:=by kernel_rfl
theorem abC (cf:CF)(j4:K.Fn 1)(x6 x7 x8 x9:AV)(cG:Hp):HV JN GO cf j4 x6 x7 x8 x9 cG=L8 JN GO cf j4 (HV JN GO cf j4) x6 x7 x8 x9 cG:=No (b:=app 4 (HV JN GO cf j4) [x6,x7,x8,x9] cG) (by kernel_rfl) ((ik cf _ _ _ _ [x6,x7,x8,x9] rfl cG).trans (ai0 JN GO cf j4 _ x6 x7 x8 x9 cG))
noncomputable def TL (J : JT)(G : GT)(cf : CF)(a0 : AV)(H : Hp) : R :=
 J 1 (fun j0 =>
 B2 (cf (.func (.func 205) [] []) [a0] H) fun v1 h2 =>
 B1 (cJ v1) fun v3 =>
 J 1 (fun j4 =>
 HV J G cf j4 .ae v1 v3 (.int .i64 0) h2) (fun my AB =>
 j0 my AB)) (fun qQ kP =>
 B2 (cf (.func (.func 206) [] []) [qQ] kP) fun hJ tI =>
 some (hJ, tI))
theorem amc (J:JT)(G:GT)(cf:CF)(a0:AV)(H:Hp):gD P J G aw an cf 151 [a0] H=TL J G cf a0 H:=by kernel_rfl
theorem ah2 {a0:AV}{H:Hp}{r:AV × Hp}(h:TL JN GO cK a0 H=some r):cK (.func (.func 151) [] []) [a0] H=some r:=aE (first:=[]) (cap:=[]) ((amc JN GO _ a0 H).trans h)
noncomputable def Vt (J : JT)(G : GT)(cf : CF)(a0 a1 : AV)(H : Hp) : R :=
 BN (bx 130 a1 H) fun i0 h1 =>
 J 1 (fun j2 =>
 J 2 (fun j3 =>
 B1 (ag a0) fun v4 =>
 B1 (fa 0 v4) fun v5 =>
 B1 (ld v5 h1) fun v6 =>
 B1 (ag a0) fun v7 =>
 B1 (fa 2 v7) fun v8 =>
 B1 (ld v8 h1) fun v9 =>
 B1 (af 8 (.ptr i0 0) h1) fun v10 =>
 B2 (cf (.func (.func 208) [] []) [v10] h1) fun v11 eG =>
 B2 (cf (.func (.func 207) [] []) [v6, v9, v11] eG) fun cY eK =>
 B1 (ex 0 cY) fun da =>
 B1 (ex 1 cY) fun dD =>
 B1 (ld v5 eG) fun dc =>
 SM v6 dc <|
 B1 (ld v8 eG) fun dw =>
 SM v9 dw <|
 j3 a0 dD eK) (fun fF eM og =>
 B1 (eX eM (.int .i64 0)) fun v22 =>
 CD v22 (
 some (eM, og)) (
 j2 fF og))) (fun cD fR =>
 B1 (ag cD) fun v25 =>
 B1 (fa 0 v25) fun v26 =>
 B1 (ld v26 fR) fun v27 =>
 B2 (cf (.func (.func 209) [] []) [v27] fR) fun v28 jK =>
 some (v28, jK))
theorem alw {a0 a1:AV}{H:Hp}{r:AV × Hp}(h:Vt JN GO cK a0 a1 H=some r):cK (.func (.func 152) [] []) [a0,a1] H=some r:=aE (first:=[]) (cap:=[]) (No (by kernel_rfl) h)
noncomputable def QG (J : JT)(G : GT)(cf : CF)(a0 a1 : AV)(H : Hp) : R :=
 J 2 (fun j0 =>
 J 3 (fun j1 =>
 B1 (ag a0) fun v2 =>
 B1 (fa 0 v2) fun v3 =>
 B1 (ld v3 H) fun v4 =>
 B1 (ag v4) fun v5 =>
 B1 (fa 0 v5) fun v6 =>
 B1 (ld v6 H) fun v7 =>
 B2 (cf (.func (.func 63) [] []) [v7] H) fun v8 h9 =>
 j1 a0 a1 v8 h9) (fun eI fK eV fX =>
 CD eV (
 some ((.int .i64 11), fX)) (
 j0 eI fK fX))) (fun eH df gJ =>
 B2 (cf (.func (.func 84) [] []) [df] gJ) fun dc fv =>
 BN (cI fv [(.int .i64 0), (.int .i64 0), (.bool false), (.int .i64 0)] 97 0) fun i19 dX =>
 B1 (st 4 (.ptr i19 0) dc dX) fun og =>
 J 5 (fun Cm =>
 B1 (af 4 (.ptr i19 0) og) fun v23 =>
 B1 (ag eH) fun v24 =>
 B1 (fa 1 v24) fun v25 =>
 B1 (ld v25 og) fun v26 =>
 B2 (cf (.func (.func 148) [] []) [v23, v26] og) fun v27 jd =>
 B1 (ex 0 v27) fun v29 =>
 B1 (ex 1 v27) fun v30 =>
 BN (cI jd [(.int .i64 0), (.int .i64 0), (.bool false), (.int .i64 0)] 97 0) fun i31 ma =>
 B1 (st 4 (.ptr i31 0) v29 ma) fun fD =>
 Cm eH df (.ptr i19 0) (.ptr i31 0) v30 fD) (fun kU rn jB kj jH mo =>
 J 2 (fun Ap =>
 B1 (ie .not jH) fun v41 =>
 CD v41 (
 some ((.int .i64 12), mo)) (
 J 5 (fun j42 =>
 B1 (fa 0 kj) fun kq =>
 B1 (ld kq mo) fun v44 =>
 B1 (ag kU) fun kD =>
 B1 (fa 2 kD) fun v46 =>
 B1 (ld v46 mo) fun iR =>
 B1 (sL v44 iR) fun iz =>
 j42 kU rn jB kj iz mo) (fun jS jb lC mu lz kB =>
 CD lz (
 some ((.int .i64 1), kB)) (
 J 3 (fun j55 =>
 B1 (af 4 lC kB) fun iZ =>
 B1 (af 4 mu kB) fun v57 =>
 B2 (cf (.func (.func 149) [] []) [jb, iZ, v57] kB) fun hJ tI =>
 B1 (ie .not hJ) fun ku =>
 j55 jS mu ku tI) (fun mQ mj lH pP =>
 CD lH (
 some ((.int .i64 12), pP)) (
 Ap mQ mj pP)))))) (fun gf gq yK =>
 J 2 (fun j68 =>
 B1 (fa 2 gq) fun pG =>
 B1 (ld pG yK) fun v70 =>
 B1 (ag gf) fun ml =>
 B1 (fa 4 ml) fun v72 =>
 B1 (st 1 v72 v70 yK) fun uz =>
 B1 (ag gf) fun rT =>
 B1 (fa 11 rT) fun v75 =>
 B1 (st 1 v75 .ae uz) fun nt =>
 B1 (ag gf) fun rJ =>
 B1 (fa 3 rJ) fun oQ =>
 B1 (st 1 oQ (.bool false) nt) fun kY =>
 j68 gf gq kY) (fun xN sB jT =>
 J 1 (fun j83 =>
 J 2 (fun j84 =>
 B1 (fa 0 sB) fun v85 =>
 B1 (ld v85 jT) fun uS =>
 B2 (cf (.func (.func 150) [] []) [xN, uS] jT) fun v87 qP =>
 j84 xN v87 qP) (fun jA jj ki =>
 B1 (eX jj (.int .i64 0)) fun vD =>
 CD vD (
 some (jj, ki)) (
 j83 jA ki))) (fun rS tS =>
 J 1 (fun P4 =>
 B2 (cf (.func (.func 151) [] []) [rS] tS) fun uN oB =>
 B1 (ag rS) fun qH =>
 B1 (fa 5 qH) fun yy =>
 B1 (st 1 yy uN oB) fun S9 =>
 P4 rS S9) (fun B9 tL =>
 J 1 (fun ry =>
 J 2 (fun Qc =>
 B1 (ag B9) fun v105 =>
 B1 (fa 2 v105) fun wb =>
 B1 (ld wb tL) fun v107 =>
 B1 (fl [(.int .i64 0), (.int .i64 0), (.int .i64 0), (.int .i64 0), (.int .i64 0), (.str []), (.str []), (.str [])] [(0, 1, (.int .i64 9)), (4, 1, v107)]) fun Ny =>
 B2 (cf (.func (.func 152) [] []) [B9, (.agg Ny)] tL) fun v109 tD =>
 Qc B9 v109 tD) (fun zZ DD Mi =>
 B1 (eX DD (.int .i64 0)) fun Cw =>
 CD Cw (
 some (DD, Mi)) (
 ry zZ Mi))) (fun wN p6 =>
 J 3 (fun ano =>
 B1 (ag wN) fun A2 =>
 B1 (fa 1 A2) fun zS =>
 B1 (ld zS p6) fun vM =>
 B1 (ag wN) fun wu =>
 B1 (fa 2 wu) fun I0 =>
 B1 (ld I0 p6) fun rU =>
 B1 (ag wN) fun v124 =>
 B1 (fa 0 v124) fun Co =>
 B1 (ld Co p6) fun MI =>
 B2 (cf (.func (.func 69) [] []) [MI] p6) fun v127 ML =>
 B2 (cf (.func (.func 153) [] []) [vM, rU, v127] ML) fun DO amP =>
 B1 (ex 0 DO) fun v131 =>
 B1 (ex 1 DO) fun Bj =>
 BN (cI amP [(.int .i64 0), (.int .i64 0), (.int .i64 0), (.int .i64 0)] 114 0) fun i133 P8 =>
 B1 (st 4 (.ptr i133 0) v131 P8) fun FF =>
 B1 (ld zS ML) fun agz =>
 SM vM agz <|
 B1 (ld I0 ML) fun aik =>
 SM rU aik <|
 ano wN (.ptr i133 0) Bj FF) (fun tO It I6 A1 =>
 J 1 (fun SZ =>
 B1 (af 4 It A1) fun v143 =>
 B1 (cN I6 (.int .i64 0)) fun Iq =>
 B1 (ag tO) fun v145 =>
 B1 (fa 6 v145) fun v146 =>
 B1 (st 4 v146 v143 A1) fun E7 =>
 B1 (ag tO) fun v148 =>
 B1 (fa 3 v148) fun aoc =>
 B1 (st 1 aoc Iq E7) fun Nf =>
 SZ I6 Nf) (fun Mt CQ =>
 some (Mt, CQ))))))))))
theorem aiI (J:JT)(G:GT)(cf:CF)(a0 a1:AV)(H:Hp):gD P J G aw an cf 94 [a0,a1] H=QG J G cf a0 a1 H:=by kernel_rfl
theorem amX {a0 a1:AV}{H:Hp}{r:AV × Hp}(h:QG JN GO cK a0 a1 H=some r):cK (.func (.func 94) [] []) [a0,a1] H=some r:=aE (first:=[]) (cap:=[]) ((aiI JN GO _ a0 a1 H).trans h)
noncomputable def Un (J : JT)(G : GT)(cf : CF)(a0 : AV)(H : Hp) : R :=
 J 0 (fun j0 =>
 J 2 (fun j1 =>
 B1 (ag a0) fun v2 =>
 B1 (fa 0 v2) fun v3 =>
 B1 (ld v3 H) fun v4 =>
 B1 (ag v4) fun v5 =>
 B1 (fa 0 v5) fun v6 =>
 B1 (ld v6 H) fun v7 =>
 B2 (cf (.func (.func 63) [] []) [v7] H) fun v8 h9 =>
 j1 a0 v8 h9) (fun eI fK eG =>
 CD fK (
 some ((.int .i64 11), eG)) (
 J 1 (fun fg =>
 B1 (ag eI) fun du =>
 B1 (fa 3 du) fun da =>
 B1 (ld da eG) fun dD =>
 B1 (ie .not dD) fun dc =>
 fg dc eG) (fun fL dK =>
 CD fL (
 some ((.int .i64 12), dK)) (
 j0  dK))))) (fun  dX =>
 some ((.int .i64 0), dX))
theorem acG {a0:AV}{H:Hp}{r:AV × Hp}(h:Un JN GO cK a0 H=some r):cK (.func (.func 154) [] []) [a0] H=some r:=aE (first:=[]) (cap:=[]) (No (by kernel_rfl) h)
noncomputable def RQ (J : JT)(G : GT)(cf : CF)(hO : K.Fn 1)(iS : K.Fn 3)(eM dk cF : AV)(eZ : Hp) : R :=
 J 3 (fun Ao =>
 J 4 (fun mw =>
 B1 (ag eM) fun v26 =>
 B1 (fa 11 v26) fun v27 =>
 B1 (ld v27 eZ) fun v28 =>
 B1 (cJ v28) fun v29 =>
 B1 (iy v29 (.int .i64 0)) fun v30 =>
 G v30 true (fun xx =>
 xx eM eZ) (fun v32 fD =>
 G v30 true (fun E1 =>
 B1 (ag v32) fun v35 =>
 E1 v35 fD) (fun v36 kg =>
 G v30 true (fun OH =>
 B1 (fa 11 v36) fun fS =>
 OH fS kg) (fun v40 sI =>
 G v30 true (fun Qa =>
 B1 (ld v40 sI) fun kq =>
 Qa kq sI) (fun v44 ju =>
 G v30 true (fun k46 =>
 B1 (ia 8 v44 (.int .i64 0)) fun iR =>
 k46 iR ju) (fun iz lD =>
 G v30 true (fun k50 =>
 B1 (fa 7 iz) fun v51 =>
 k50 v51 lD) (fun jg yb =>
 G v30 true (fun k54 =>
 B1 (ld jg yb) fun iY =>
 k54 iY yb) (fun iZ kP =>
 G v30 true (fun k58 =>
 k58 cF kP) (fun v59 oS =>
 G v30 true (fun Nq =>
 B1 (dV iZ v59) fun jr =>
 Nq jr oS) (fun v63 pP =>
 B1 (pk v30 v63 (.bool false)) fun nU =>
 mw eM dk cF nU pP) oS) kP) yb) lD) ju) sI) kg) fD) eZ) (fun gq fN eA ew gR =>
 CD ew (
 Ao gq fN eA gR) (
 hO fN gR))) (fun gY mq jO py =>
 J 3 (fun ot =>
 B1 (ag gY) fun v76 =>
 B1 (fa 11 v76) fun rJ =>
 B1 (ld rJ py) fun oQ =>
 B1 (ia 8 oQ (.int .i64 0)) fun oY =>
 B1 (fa 0 oY) fun v80 =>
 B1 (af 7 v80 py) fun pf =>
 B1 (fl [(.int .i64 0), (.int .i64 0), (.int .i64 0), (.int .i64 0), (.int .i64 0), (.int .i64 0), (.str [])] [(0, 7, pf)]) fun K0 =>
 BN (cI py K0 139 0) fun i83 AY =>
 B2 (fZ 139 7 [(.int .i64 0), (.int .i64 0), (.int .i64 0), (.int .i64 0), (.int .i64 0), (.int .i64 0), (.str [])] false mq (.slice i83 0 1 1 true 7) AY) fun v85 zo =>
 ot gY v85 jO zo) (fun ij kA jA uG =>
 B1 (ag ij) fun v91 =>
 B1 (fa 11 v91) fun vD =>
 B1 (ld vD uG) fun v93 =>
 B1 (fT 8 v93 (some (.int .i64 1)) none none) fun wT =>
 B1 (ag ij) fun Bn =>
 B1 (fa 11 Bn) fun uN =>
 B1 (st 1 uN wT uG) fun oB =>
 iS ij kA jA oB))
noncomputable def Lc (J:JT)(G:GT)(cf:CF)(hO:K.Fn 1):K.Fn 3:=gI P an J G cf 54 [1,1,1,1,0,0,0] [0,3,4] (fun q t H=>match Nat.beq q 0 with | true=>app 1 hO (ai [3] t) H | false=>(fun _ _ _=>none) q t H)
theorem am9 (J:JT)(G:GT)(cf:CF)(hO:K.Fn 1)(iS:K.Fn 3)(eM dk cF:AV)(eZ:Hp):nI P an J G cf 54 [1,1,1,1,0,0,0] [0,3,4] (fun q t H=>match Nat.beq q 0 with | true=>app 1 hO (ai [3] t) H | false=>(fun _ _ _=>none) q t H) iS [eM,dk,cF] eZ=RQ J G cf hO iS eM dk cF eZ:=by kernel_rfl
theorem adw (cf:CF)(hO:K.Fn 1)(eM dk cF:AV)(eZ:Hp):Lc JN GO cf hO eM dk cF eZ=RQ JN GO cf hO (Lc JN GO cf hO) eM dk cF eZ:=No (b:=app 3 (Lc JN GO cf hO) [eM,dk,cF] eZ) (by kernel_rfl) ((ik cf _ _ _ _ [eM,dk,cF] rfl eZ).trans (am9 JN GO cf hO _ eM dk cF eZ))
noncomputable def Na (J : JT)(G : GT)(cf : CF)(a0 : AV)(H : Hp) : R :=
 J 1 (fun j0 =>
 J 2 (fun j1 =>
 B1 (ag a0) fun v2 =>
 B1 (fa 0 v2) fun v3 =>
 B1 (ld v3 H) fun v4 =>
 B1 (ag v4) fun v5 =>
 B1 (fa 0 v5) fun v6 =>
 B1 (ld v6 H) fun v7 =>
 B2 (cf (.func (.func 63) [] []) [v7] H) fun v8 h9 =>
 j1 a0 v8 h9) (fun eI fK eG =>
 CD fK (
 some (.ae, eG)) (
 j0 eI eG))) (fun iu eK =>
 B2 (cf (.func (.func 97) [] []) [iu] eK) fun da gJ =>
 J 1 (fun vc =>
 J 1 (fun hO =>
 Lc J G cf hO iu .ae da gJ) (fun x98 yn =>
 vc x98 yn)) (fun arq Gu =>
 some (arq, Gu)))
theorem aeK (J:JT)(G:GT)(cf:CF)(a0:AV)(H:Hp):gD P J G aw an cf 54 [a0] H=Na J G cf a0 H:=by kernel_rfl
theorem anz {a0:AV}{H:Hp}{r:AV × Hp}(h:Na JN GO cK a0 H=some r):cK (.func (.func 54) [] []) [a0] H=some r:=aE (first:=[]) (cap:=[]) ((aeK JN GO _ a0 H).trans h)
noncomputable def M6 (J : JT)(G : GT)(cf : CF)(a0 : AV)(H : Hp) : R :=
 B2 (cf (.func (.func 154) [] []) [a0] H) fun v0 h1 =>
 B1 (eX v0 (.int .i64 0)) fun v2 =>
 CD v2 (
 some ((.int .i64 0), h1)) (
 B1 (ag a0) fun v3 =>
 B1 (fa 6 v3) fun v4 =>
 B1 (af 4 v4 h1) fun v5 =>
 B1 (ag a0) fun v6 =>
 B1 (fa 0 v6) fun v7 =>
 B1 (ld v7 h1) fun v8 =>
 B2 (cf (.func (.func 128) [] []) [v8] h1) fun v9 cG =>
 B1 (ag a0) fun v11 =>
 B1 (fa 4 v11) fun v12 =>
 B1 (ld v12 cG) fun cY =>
 B2 (cf (.func (.func 158) [] []) [v5, v9, cY] cG) fun du fU =>
 B1 (af 4 v4 cG) fun dD =>
 SM v5 dD <|
 B1 (ld v12 h1) fun dc =>
 SM cY dc <|
 some (du, fU))
theorem abm {a0:AV}{H:Hp}{r:AV × Hp}(h:M6 JN GO cK a0 H=some r):cK (.func (.func 97) [] []) [a0] H=some r:=aE (first:=[]) (cap:=[]) (No (by kernel_rfl) h)
noncomputable def Hj (J : JT)(G : GT)(cf : CF)(fw : K.Fn 1)(fg : K.Fn 3)(eH df dt : AV)(eE : Hp) : R :=
 B1 (dV dt (.int .i64 2)) fun dw =>
 CD dw (
 J 3 (fun iS =>
 J 6 (fun iC =>
 B2 (cf (.func (.func 24) [] []) [eH] eE) fun v21 gM =>
 B1 (ex 0 v21) fun v23 =>
 B1 (ex 1 v21) fun v24 =>
 iC eH df dt v23 v24 dt gM) (fun gw eO di dv dm dy fy =>
 J 5 (fun wg =>
 B1 (eX dm (.int .i64 0)) fun v33 =>
 CD v33 (
 some (.tuple [.aC, dm], fy)) (
 wg gw eO di dv dy fy)) (fun kU rn jB kj jH mo =>
 J 5 (fun Ap =>
 B1 (ag rn) fun v41 =>
 B1 (fa 0 v41) fun ig =>
 B1 (pK 2 1 ig jB) fun kq =>
 B1 (st 1 kq kj mo) fun qK =>
 Ap kU rn jB kj jH qK) (fun fY fV jZ kO jS nw =>
 J 4 (fun Q8 =>
 B2 (cf (.func (.func 25) [] []) [jZ, kO] nw) fun jg yb =>
 B1 (ex 0 jg) fun jV =>
 B1 (ex 1 jg) fun iY =>
 B1 (ag fV) fun iZ =>
 B1 (fa 2 iZ) fun v57 =>
 B1 (pK 2 1 v57 jZ) fun hJ =>
 B1 (st 1 hJ jV yb) fun tI =>
 Q8 fY fV iY jS tI) (fun qS mQ mj lH pP =>
 B1 (eX mj (.int .i64 0)) fun nU =>
 CD nU (
 some (.tuple [.aC, mj], pP)) (
 iS qS mQ lH pP)))))) (fun gq fN eA C8 =>
 B1 (dj eA (.int .i64 1)) fun v70 =>
 fg gq fN v70 C8)) (
 fw df eE)
noncomputable def Kz (J:JT)(G:GT)(cf:CF)(fw:K.Fn 1):K.Fn 3:=gI P an J G cf 13 [1,1,0,1,0,0] [0,4,12] (fun q t H=>match Nat.beq q 0 with | true=>app 1 fw (ai [4] t) H | false=>(fun _ _ _=>none) q t H)
theorem aeT (J:JT)(G:GT)(cf:CF)(fw:K.Fn 1)(fg:K.Fn 3)(eH df dt:AV)(eE:Hp):nI P an J G cf 13 [1,1,0,1,0,0] [0,4,12] (fun q t H=>match Nat.beq q 0 with | true=>app 1 fw (ai [4] t) H | false=>(fun _ _ _=>none) q t H) fg [eH,df,dt] eE=Hj J G cf fw fg eH df dt eE:=by kernel_rfl
theorem Mz (cf:CF)(fw:K.Fn 1)(eH df dt:AV)(eE:Hp):Kz JN GO cf fw eH df dt eE=Hj JN GO cf fw (Kz JN GO cf fw) eH df dt eE:=No (b:=app 3 (Kz JN GO cf fw) [eH,df,dt] eE) (by kernel_rfl) ((ik cf _ _ _ _ [eH,df,dt] rfl eE).trans (aeT JN GO cf fw _ eH df dt eE))
noncomputable def MT (J : JT)(G : GT)(cf : CF)(a0 : AV)(H : Hp) : R :=
 J 2 (fun j0 =>
 B2 (cf (.func (.func 22) [] []) [] H) fun v1 h2 =>
 B2 (cf (.func (.func 23) [] []) [] h2) fun v3 h4 =>
 B1 (fl [.aC, .aC, .aC, .aC, .aC, .aC, (.int .i64 0), (.int .i64 0), (.int .i64 0), (.int .i64 0), (.int .i64 0), (.str []), .ae] [(4, 1, v1), (5, 1, v3)]) fun l5 =>
 BN (bx 78 (.agg l5) h4) fun i6 h7 =>
 j0 a0 (.ptr i6 0) h7) (fun x8 x9 cG =>
 J 1 (fun mJ =>
 J 1 (fun fw =>
 Kz J G cf fw x8 x9 (.int .i64 0) cG) (fun gY mf =>
 mJ gY mf)) (fun jO py =>
 some (.tuple [jO, (.int .i64 0)], py)))
theorem ag6 (J:JT)(G:GT)(cf:CF)(a0:AV)(H:Hp):gD P J G aw an cf 13 [a0] H=MT J G cf a0 H:=by kernel_rfl
theorem arJ {a0:AV}{H:Hp}{r:AV × Hp}(h:MT JN GO cK a0 H=some r):cK (.func (.func 13) [] []) [a0] H=some r:=aE (first:=[]) (cap:=[]) ((ag6 JN GO _ a0 H).trans h)
noncomputable def EZ (J : JT)(G : GT)(cf : CF)(jx : K.Fn 1)(ot : K.Fn 4)(lV : K.Fn 4)(Ep : K.Fn 9)(oZ nQ gU iK jc ij kA jA jj : AV)(ki : Hp) : R :=
 B1 (dV jj jA) fun vD =>
 CD vD (
 J 9 (fun j93 =>
 B1 (ia 7 kA jj) fun wT =>
 B1 (af 7 wT ki) fun Bn =>
 BN (cI ki [(.int .i64 0), (.int .i64 0), (.int .i64 0), (.int .i64 0), (.int .i64 0), (.int .i64 0), (.str [])] 139 0) fun i96 oB =>
 B1 (st 7 (.ptr i96 0) Bn oB) fun mZ =>
 B1 (ag oZ) fun yy =>
 B1 (fa 12 yy) fun lX =>
 B1 (ld lX mZ) fun nG =>
 B2 (cf (.func (.func 55) [] []) [iK] mZ) fun uy xg =>
 B1 (fa 0 (.ptr i96 0)) fun ug =>
 B1 (ld ug xg) fun v105 =>
 B1 (fa 1 (.ptr i96 0)) fun wb =>
 B1 (af 6 wb xg) fun v107 =>
 B1 (fl [(.int .i64 0), (.int .i64 0), (.int .i64 0), (.int .i64 0), (.int .i64 0), (.int .i64 0), (.int .i64 0), (.int .i64 0), (.str [])] [(0, 1, gU), (1, 1, uy), (2, 1, v105), (3, 6, v107)]) fun Ny =>
 B1 (fl [(.int .i64 0), (.int .i64 0), (.int .i64 0), (.int .i64 0), (.int .i64 0), (.int .i64 0), (.int .i64 0), (.int .i64 0), (.str [])] [(0, 9, (.agg Ny))]) fun ac5 =>
 BN (cI xg ac5 121 0) fun i110 Iu =>
 B2 (fZ 121 9 [(.int .i64 0), (.int .i64 0), (.int .i64 0), (.int .i64 0), (.int .i64 0), (.int .i64 0), (.int .i64 0), (.int .i64 0), (.str [])] false nG (.slice i110 0 1 1 true 9) Iu) fun BF Mi =>
 B1 (ag oZ) fun Cw =>
 B1 (fa 12 Cw) fun yY =>
 B1 (st 1 yY BF Mi) fun p6 =>
 B1 (ld lX xg) fun v117 =>
 SM nG v117 <|
 B1 (ld ug mZ) fun A2 =>
 SM v105 A2 <|
 B1 (af 6 wb mZ) fun zS =>
 SM v107 zS <|
 j93 oZ nQ gU iK jc ij kA jA jj p6) (fun wC Bo PB Ar B7 AL Bp HJ BE Cr =>
 B1 (dj BE (.int .i64 1)) fun v130 =>
 Ep wC Bo PB Ar B7 AL Bp HJ v130 Cr)) (
 lV oZ nQ jc ij ki)
noncomputable def IF (J:JT)(G:GT)(cf:CF)(jx:K.Fn 1)(ot:K.Fn 4)(lV:K.Fn 4):K.Fn 9:=gI P an J G cf 31 [1,1,1,0,1,0,0,1,1,0,0,1,1,0,0] [0,5,6,7,34,35,40,41,42] (fun q t H=>match Nat.beq q 2 with | true=>app 4 lV (ai [0,5,34,35] t) H | false=>(fun q t H=>match Nat.beq q 1 with | true=>app 4 ot (ai [0,5,34,35] t) H | false=>(fun q t H=>match Nat.beq q 0 with | true=>app 1 jx (ai [5] t) H | false=>(fun _ _ _=>none) q t H) q t H) q t H)
theorem anP (J:JT)(G:GT)(cf:CF)(jx:K.Fn 1)(ot:K.Fn 4)(lV:K.Fn 4)(Ep:K.Fn 9)(oZ nQ gU iK jc ij kA jA jj:AV)(ki:Hp):nI P an J G cf 31 [1,1,1,0,1,0,0,1,1,0,0,1,1,0,0] [0,5,6,7,34,35,40,41,42] (fun q t H=>match Nat.beq q 2 with | true=>app 4 lV (ai [0,5,34,35] t) H | false=>(fun q t H=>match Nat.beq q 1 with | true=>app 4 ot (ai [0,5,34,35] t) H | false=>(fun q t H=>match Nat.beq q 0 with | true=>app 1 jx (ai [5] t) H | false=>(fun _ _ _=>none) q t H) q t H) q t H) Ep [oZ,nQ,gU,iK,jc,ij,kA,jA,jj] ki=EZ J G cf jx ot lV Ep oZ nQ gU iK jc ij kA jA jj ki:=by kernel_rfl
theorem Lf (cf:CF)(jx:K.Fn 1)(ot:K.Fn 4)(lV:K.Fn 4)(oZ nQ gU iK jc ij kA jA jj:AV)(ki:Hp):IF JN GO cf jx ot lV oZ nQ gU iK jc ij kA jA jj ki=EZ JN GO cf jx ot lV (IF JN GO cf jx ot lV) oZ nQ gU iK jc ij kA jA jj ki:=No (b:=app 9 (IF JN GO cf jx ot lV) [oZ,nQ,gU,iK,jc,ij,kA,jA,jj] ki) (by kernel_rfl) ((ik cf _ _ _ _ [oZ,nQ,gU,iK,jc,ij,kA,jA,jj] rfl ki).trans (anP JN GO cf jx ot lV _ oZ nQ gU iK jc ij kA jA jj ki))
noncomputable def zB (J : JT)(G : GT)(cf : CF)(jx : K.Fn 1)(zt : K.Fn 4)(eA ew iM gY : AV)(mf : Hp) : R :=
 B1 (dV gY (.int .i64 2)) fun sX =>
 CD sX (
 J 4 (fun j74 =>
 J 4 (fun ot =>
 B1 (xH P 73 iM gY) fun v76 =>
 B2 (cf (.func (.func 54) [] []) [v76] mf) fun rJ qJ =>
 B1 (cJ rJ) fun oY =>
 J 4 (fun lV =>
 IF J G cf jx ot lV eA ew gY v76 iM gY rJ oY (.int .i64 0) qJ) (fun DY QL vE x0 FF =>
 ot DY QL vE x0 FF)) (fun xD BR tO It aqc =>
 j74 xD BR tO It aqc)) (fun aj2 amk Gh P2 am1 =>
 B1 (dj P2 (.int .i64 1)) fun v146 =>
 zt aj2 amk Gh v146 am1)) (
 jx ew mf)
noncomputable def L7 (J:JT)(G:GT)(cf:CF)(jx:K.Fn 1):K.Fn 4:=gI P an J G cf 31 [1,1,1,0,1,0,0] [0,5,34,35] (fun q t H=>match Nat.beq q 0 with | true=>app 1 jx (ai [5] t) H | false=>(fun _ _ _=>none) q t H)
theorem afU (J:JT)(G:GT)(cf:CF)(jx:K.Fn 1)(zt:K.Fn 4)(eA ew iM gY:AV)(mf:Hp):nI P an J G cf 31 [1,1,1,0,1,0,0] [0,5,34,35] (fun q t H=>match Nat.beq q 0 with | true=>app 1 jx (ai [5] t) H | false=>(fun _ _ _=>none) q t H) zt [eA,ew,iM,gY] mf=zB J G cf jx zt eA ew iM gY mf:=by kernel_rfl
theorem Dh (cf:CF)(jx:K.Fn 1)(eA ew iM gY:AV)(mf:Hp):L7 JN GO cf jx eA ew iM gY mf=zB JN GO cf jx (L7 JN GO cf jx) eA ew iM gY mf:=No (b:=app 4 (L7 JN GO cf jx) [eA,ew,iM,gY] mf) (by kernel_rfl) ((ik cf _ _ _ _ [eA,ew,iM,gY] rfl mf).trans (afU JN GO cf jx _ eA ew iM gY mf))
noncomputable def Sn (J : JT)(G : GT)(cf : CF)(a0 a1 : AV)(H : Hp) : R :=
 BN (bx 39 a1 H) fun i0 h1 =>
 J 2 (fun j2 =>
 J 3 (fun j3 =>
 B1 (fa 1 (.ptr i0 0)) fun v4 =>
 B1 (ld v4 h1) fun v5 =>
 B1 (eX v5 (.int .i64 0)) fun v6 =>
 G v6 true (fun k7 =>
 B1 (fa 1 (.ptr i0 0)) fun v8 =>
 k7 v8 h1) (fun v9 cG =>
 G v6 true (fun vp =>
 B1 (ld v9 cG) fun v12 =>
 vp v12 cG) (fun cY eK =>
 G v6 true (fun Cf =>
 B1 (eX cY (.int .i64 1)) fun dD =>
 Cf dD eK) (fun dc fv =>
 B1 (pk v6 dc (.bool false)) fun eu =>
 G eu false (fun FI =>
 B1 (fa 0 (.ptr i0 0)) fun v21 =>
 FI v21 fv) (fun v22 eZ =>
 G eu false (fun yx =>
 B1 (ld v22 eZ) fun v25 =>
 yx v25 eZ) (fun v26 dJ =>
 G eu false (fun MN =>
 B1 (dV v26 (.int .i64 0)) fun v29 =>
 MN v29 dJ) (fun v30 fy =>
 B1 (pk eu (.bool true) v30) fun v32 =>
 G v32 false (fun HI =>
 B1 (fa 0 (.ptr i0 0)) fun fI =>
 HI fI fy) (fun v35 hU =>
 G v32 false (fun xQ =>
 B1 (ld v35 hU) fun hY =>
 xQ hY hU) (fun fS jv =>
 G v32 false (fun SD =>
 B1 (iy fS (.int .i64 10)) fun ig =>
 SD ig jv) (fun kq qK =>
 B1 (pk v32 (.bool true) kq) fun kD =>
 j3 a0 (.ptr i0 0) kD qK) jv) hU) fy) dJ) eZ) fv) eK) cG) h1) (fun fV jZ kO lD =>
 CD kO (
 some ((.int .i64 1), lD)) (
 j2 fV jZ lD))) (fun jb lC mg =>
 B1 (af 13 lC mg) fun v53 =>
 B2 (cf (.func (.func 53) [] []) [jb, v53] mg) fun jV AB =>
 J 1 (fun Ru =>
 J 4 (fun Bg =>
 B1 (ag jb) fun hJ =>
 B1 (fa 2 hJ) fun v59 =>
 B1 (af 2 v59 AB) fun ku =>
 Bg jb jV ku (.int .i64 0) AB) (fun mQ mj lH lI tk =>
 J 1 (fun jx =>
 L7 J G cf jx mQ mj lH lI tk) (fun QA Ir =>
 Ru QA Ir))) (fun PI Nf =>
 some (PI, Nf)))
theorem akd (J:JT)(G:GT)(cf:CF)(a0 a1:AV)(H:Hp):gD P J G aw an cf 31 [a0,a1] H=Sn J G cf a0 a1 H:=by kernel_rfl
theorem afr {a0 a1:AV}{H:Hp}{r:AV × Hp}(h:Sn JN GO cK a0 a1 H=some r):cK (.func (.func 31) [] []) [a0,a1] H=some r:=aE (first:=[]) (cap:=[]) ((akd JN GO _ a0 a1 H).trans h)
noncomputable def Ps (J : JT)(G : GT)(cf : CF)(a0 a1 : AV)(H : Hp) : R :=
 BN (bx 39 a1 H) fun i0 h1 =>
 J 4 (fun j2 =>
 B1 (fa 1 (.ptr i0 0)) fun v3 =>
 B1 (ld v3 h1) fun v4 =>
 B1 (ag a0) fun v5 =>
 B1 (fa 2 v5) fun v6 =>
 B1 (pK 2 1 v6 v4) fun v7 =>
 B1 (ld v7 h1) fun v8 =>
 B1 (fa 1 (.ptr i0 0)) fun v9 =>
 B1 (ld v9 h1) fun v10 =>
 B1 (ag a0) fun v11 =>
 B1 (fa 0 v11) fun v12 =>
 B1 (pK 2 1 v12 v10) fun cY =>
 B1 (ld cY h1) fun du =>
 j2 a0 (.ptr i0 0) v8 du h1) (fun df dt eW fL dK =>
 J 2 (fun iC =>
 B1 (fa 0 dt) fun v21 =>
 B1 (ld v21 dK) fun v22 =>
 B1 (cN v22 (.int .i64 0)) fun v23 =>
 CD v23 (
 B1 (fa 3 dt) fun v24 =>
 B1 (af 9 v24 dK) fun v25 =>
 B2 (cf (.func (.func 86) [] []) [df, eW, v25] dK) fun v26 dJ =>
 some (v26, dJ)) (
 B1 (cN v22 (.int .i64 1)) fun v28 =>
 CD v28 (
 B2 (cf (.func (.func 87) [] []) [df, eW] dK) fun v29 jG =>
 some (v29, jG)) (
 B1 (cN v22 (.int .i64 2)) fun v31 =>
 CD v31 (
 B1 (fa 2 dt) fun v32 =>
 B1 (ld v32 dK) fun v33 =>
 B2 (cf (.func (.func 88) [] []) [df, v33] dK) fun fI pg =>
 some (fI, pg)) (
 B1 (cN v22 (.int .i64 3)) fun v36 =>
 CD v36 (
 J 0 (fun od =>
 J 1 (fun vW =>
 B1 (ag df) fun fS =>
 B1 (fa 5 fS) fun v40 =>
 B1 (ld v40 dK) fun v41 =>
 B1 (fa 2 dt) fun ig =>
 B1 (ld ig dK) fun kq =>
 B2 (cf (.func (.func 89) [] []) [v41, kq] dK) fun v44 ju =>
 B1 (ie .not v44) fun v46 =>
 vW v46 ju) (fun jZ pj =>
 CD jZ (
 some ((.int .i64 4), pj)) (
 od  pj))) (fun  lD =>
 some ((.int .i64 0), lD))) (
 B1 (cN v22 (.int .i64 4)) fun lU =>
 CD lU (
 B1 (ag df) fun v51 =>
 B1 (fa 5 v51) fun jg =>
 B1 (ld jg dK) fun v53 =>
 B1 (fa 2 dt) fun jV =>
 B1 (ld jV dK) fun iY =>
 B2 (cf (.func (.func 90) [] []) [v53, iY] dK) fun iZ kP =>
 some (iZ, kP)) (
 B1 (cN v22 (.int .i64 5)) fun hJ =>
 CD hJ (
 B1 (fa 12 dt) fun v59 =>
 B1 (ld v59 dK) fun ku =>
 B2 (cf (.func (.func 91) [] []) [fL, ku] dK) fun ll yR =>
 some ((.int .i64 0), yR)) (
 B1 (cN v22 (.int .i64 6)) fun v63 =>
 CD v63 (
 B1 (fa 1 dt) fun v64 =>
 B1 (ld v64 dK) fun nU =>
 B2 (cf (.func (.func 92) [] []) [df, nU] dK) fun mr yK =>
 some (mr, yK)) (
 B1 (cN v22 (.int .i64 7)) fun qo =>
 CD qo (
 J 0 (fun QV =>
 B1 (fa 2 dt) fun v70 =>
 B1 (ld v70 dK) fun ml =>
 B1 (fa 12 dt) fun v72 =>
 B1 (ld v72 dK) fun sX =>
 B2 (cf (.func (.func 93) [] []) [fL, ml, sX] dK) fun rT qq =>
 QV  qq) (fun  nt =>
 some ((.int .i64 0), nt))) (
 B1 (cN v22 (.int .i64 8)) fun rJ =>
 CD rJ (
 B1 (ag df) fun oQ =>
 B1 (fa 4 oQ) fun oY =>
 B1 (ld oY dK) fun v80 =>
 B2 (cf (.func (.func 94) [] []) [eW, v80] dK) fun pf jT =>
 some (pf, jT)) (
 B1 (cN v22 (.int .i64 9)) fun jF =>
 CD jF (
 B1 (ag df) fun uV =>
 B1 (fa 4 uV) fun v85 =>
 B1 (ld v85 dK) fun uS =>
 B2 (cf (.func (.func 95) [] []) [eW, uS] dK) fun v87 qP =>
 some (v87, qP)) (
 iC df eW dK))))))))))) (fun jA jj ki =>
 B1 (ag jA) fun vD =>
 B1 (fa 4 vD) fun v93 =>
 B1 (ld v93 ki) fun wT =>
 B2 (cf (.func (.func 96) [] []) [jj, wT] ki) fun Bn xS =>
 some (Bn, xS)))
theorem aqX (J:JT)(G:GT)(cf:CF)(a0 a1:AV)(H:Hp):gD P J G aw an cf 53 [a0,a1] H=Ps J G cf a0 a1 H:=by kernel_rfl
theorem aqi {a0 a1:AV}{H:Hp}{r:AV × Hp}(h:Ps JN GO cK a0 a1 H=some r):cK (.func (.func 53) [] []) [a0,a1] H=some r:=aE (first:=[]) (cap:=[]) ((aqX JN GO _ a0 a1 H).trans h)
noncomputable def Vm (J : JT)(G : GT)(cf : CF)(a0 : AV)(H : Hp) : R :=
 BN (cI H [(.int .i64 0), (.int .i64 0), (.int .i64 0), (.int .i64 0), (.int .i64 0), (.str [])] 75 0) fun i0 h1 =>
 B1 (ag a0) fun v2 =>
 B1 (fa 6 v2) fun v3 =>
 B1 (af 6 v3 h1) fun v4 =>
 B1 (st 6 (.ptr i0 0) v4 h1) fun h5 =>
 B1 (af 6 (.ptr i0 0) h5) fun v6 =>
 some (v6, h5)
theorem amH {a0:AV}{H:Hp}{r:AV × Hp}(h:Vm JN GO cK a0 H=some r):cK (.func (.func 33) [] []) [a0] H=some r:=aE (first:=[]) (cap:=[]) (No (by kernel_rfl) h)
noncomputable def abt (J : JT)(G : GT)(cf : CF)(a0 : AV)(H : Hp) : R :=
 BN (cI H [(.int .i64 0), (.int .i64 0), (.bool false), (.int .i64 0)] 97 0) fun i0 h1 =>
 B1 (ag a0) fun v2 =>
 B1 (fa 4 v2) fun v3 =>
 B1 (ld v3 h1) fun v4 =>
 B2 (cf (.func (.func 84) [] []) [v4] h1) fun v5 h6 =>
 B1 (st 4 (.ptr i0 0) v5 h6) fun h7 =>
 B1 (af 4 (.ptr i0 0) h7) fun v8 =>
 some (v8, h7)
theorem ae7 {a0:AV}{H:Hp}{r:AV × Hp}(h:abt JN GO cK a0 H=some r):cK (.func (.func 51) [] []) [a0] H=some r:=aE (first:=[]) (cap:=[]) (No (by kernel_rfl) h)
noncomputable def Qu (J : JT)(G : GT)(cf : CF)(a0 : AV)(H : Hp) : R :=
 B2 (cf (.func (.func 51) [] []) [a0] H) fun v0 h1 =>
 BN (cI h1 [(.int .i64 0), (.int .i64 0), (.bool false), (.int .i64 0)] 97 0) fun i2 h3 =>
 B1 (st 4 (.ptr i2 0) v0 h3) fun h4 =>
 J 2 (fun j5 =>
 B1 (fa 2 (.ptr i2 0)) fun v6 =>
 B1 (ld v6 h4) fun v7 =>
 CD v7 (
 j5 (.ptr i2 0) (.str [49]) h4) (
 j5 (.ptr i2 0) (.str [48]) h4)) (fun x8 x9 cG =>
 B1 (fa 0 x8) fun v11 =>
 B1 (ld v11 cG) fun v12 =>
 B2 (cf (.func (.func 52) [] []) [v12, (.int .i64 10)] cG) fun cY eK =>
 B1 (fa 1 x8) fun da =>
 B1 (ld da eK) fun dD =>
 B2 (cf (.func (.func 46) [] []) [dD] eK) fun dc fv =>
 B1 (fa 3 x8) fun eu =>
 B1 (ld eu fv) fun v20 =>
 B2 (cf (.func (.func 52) [] []) [v20, (.int .i64 10)] fv) fun v21 gM =>
 B1 (fl [(.str []), (.str []), (.str []), (.str [])] [(0, 1, cY), (1, 1, dc), (2, 1, x9), (3, 1, v21)]) fun l23 =>
 BN (cI gM l23 9 0) fun i24 dG =>
 B2 (cf (.func (.func 40) [] []) [(.slice i24 0 4 4 true 1), (.str [32])] dG) fun v26 dJ =>
 B1 (ld da cG) fun v28 =>
 SM dD v28 <|
 B1 (ld eu cG) fun v29 =>
 SM v20 v29 <|
 B1 (ld eu eK) fun v30 =>
 SM v20 v30 <|
 some (v26, dJ))
theorem alB (J:JT)(G:GT)(cf:CF)(a0:AV)(H:Hp):gD P J G aw an cf 30 [a0] H=Qu J G cf a0 H:=by kernel_rfl
theorem agS {a0:AV}{H:Hp}{r:AV × Hp}(h:Qu JN GO cK a0 H=some r):cK (.func (.func 30) [] []) [a0] H=some r:=aE (first:=[]) (cap:=[]) ((alB JN GO _ a0 H).trans h)
noncomputable def Mr (J : JT)(G : GT)(cf : CF)(a0 a1 a2 : AV)(H : Hp) : R :=
 BN (bx 41 a1 H) fun i0 h1 =>
 J 2 (fun j2 =>
 B1 (fa 13 (.ptr i0 0)) fun v3 =>
 B1 (ld v3 h1) fun v4 =>
 B1 (seq v4 (.str [116, 111, 108, 100])) fun v5 =>
 CD v5 (
 J 2 (fun j6 =>
 B2 (cf (.func (.func 27) [] []) [a0] h1) fun v7 h8 =>
 B1 (ag a2) fun v9 =>
 B1 (ld v9 h8) fun v10 =>
 B1 (fT 9 v7 (some v10) none none) fun v11 =>
 B1 (ld v9 h1) fun v12 =>
 SM v10 v12 <|
 j6 a2 v11 h8) (fun iu eH fU =>
 J 1 (fun vk =>
 B1 (ag iu) fun dc =>
 B1 (ld dc fU) fun dw =>
 B1 (cJ eH) fun eu =>
 B1 (dj dw eu) fun v20 =>
 B1 (ag iu) fun v21 =>
 B1 (st 1 v21 v20 fU) fun gM =>
 vk eH gM) (fun cD fR =>
 B2 (cf (.func (.func 28) [] []) [cD] fR) fun v25 nc =>
 some (v25, nc)))) (
 B1 (seq v4 (.str [104, 105, 115, 116, 111, 114, 121])) fun v27 =>
 CD v27 (
 B2 (cf (.func (.func 29) [] []) [a0] h1) fun v28 jK =>
 some (v28, jK)) (
 B1 (seq v4 (.str [114, 101, 103, 105, 115, 116, 101, 114])) fun v30 =>
 CD v30 (
 B2 (cf (.func (.func 30) [] []) [a0] h1) fun v31 ma =>
 some (v31, ma)) (
 j2 a0 (.ptr i0 0) h1)))) (fun gj kU pg =>
 J 2 (fun Dk =>
 J 3 (fun od =>
 B1 (fa 0 kU) fun hY =>
 B1 (af 13 hY pg) fun fS =>
 B2 (cf (.func (.func 31) [] []) [gj, fS] pg) fun v40 sI =>
 od gj kU v40 sI) (fun fO gh gF ju =>
 B1 (eX gF (.int .i64 0)) fun v46 =>
 CD v46 (
 B2 (cf (.func (.func 32) [] []) [gF] ju) fun iR pj =>
 some (iR, pj)) (
 Dk fO gh ju))) (fun jS jb mh =>
 J 0 (fun A9 =>
 B2 (cf (.func (.func 33) [] []) [jS] mh) fun v53 kB =>
 BN (cI kB [(.int .i64 0), (.int .i64 0), (.int .i64 0), (.int .i64 0), (.int .i64 0), (.str [])] 75 0) fun i55 kC =>
 B1 (st 6 (.ptr i55 0) v53 kC) fun kP =>
 J 2 (fun Fm =>
 B1 (fa 0 jb) fun v59 =>
 B1 (fa 0 v59) fun ku =>
 B1 (ld ku kP) fun ll =>
 B1 (cN ll (.int .i64 0)) fun jr =>
 G jr true (fun Pw =>
 B1 (af 6 (.ptr i55 0) kP) fun v64 =>
 Pw v64 kP) (fun nU kH =>
 G jr true (fun FX =>
 B1 (fl [(.int .i64 0), (.int .i64 0), (.int .i64 0), (.int .i64 0), (.int .i64 0), (.str [])] []) fun l68 =>
 FX (.agg l68) kH) (fun pG gR =>
 G jr true (fun k71 =>
 Iw (gA P .neq 75 false nU pG) <| B1 (kG P .neq 75 nU pG gR) fun v72 =>
 k71 v72 gR) (fun sX py =>
 B1 (pk jr sX (.bool false)) fun v75 =>
 Fm (.ptr i55 0) v75 py) gR) kH) kP) (fun lR jt qJ =>
 CD jt (
 B1 (af 6 lR qJ) fun oY =>
 B2 (cf (.func (.func 34) [] []) [oY] qJ) fun v80 FG =>
 some (v80, FG)) (
 A9  qJ))) (fun  jT =>
 some ((.str [111, 107]), jT))))
theorem als (J:JT)(G:GT)(cf:CF)(a0 a1 a2:AV)(H:Hp):gD P J G aw an cf 15 [a0,a1,a2] H=Mr J G cf a0 a1 a2 H:=by kernel_rfl
theorem Xz {a0 a1 a2:AV}{H:Hp}{r:AV × Hp}(h:Mr JN GO cK a0 a1 a2 H=some r):cK (.func (.func 15) [] []) [a0,a1,a2] H=some r:=aE (first:=[]) (cap:=[]) ((als JN GO _ a0 a1 a2 H).trans h)
noncomputable def JY (J : JT)(G : GT)(cf : CF)(oz : K.Fn 1)(mT : K.Fn 4)(dm dy eY eD : AV)(fD : Hp) : R :=
 B1 (dV eD eY) fun fI =>
 CD fI (
 J 4 (fun uj =>
 J 4 (fun Dk =>
 B1 (ia 1 dy eD) fun v37 =>
 B1 (ld v37 fD) fun hY =>
 B2 (cf (.func (.func 11) [] []) [hY] fD) fun fS jv =>
 B1 (cJ fS) fun v41 =>
 B1 (cN v41 (.int .i64 0)) fun ig =>
 CD ig (
 Dk dm dy eY eD jv) (
 J 6 (fun j43 =>
 B2 (cf (.func (.func 12) [] []) [fS] jv) fun v44 ju =>
 B1 (ex 0 v44) fun v46 =>
 B1 (ex 1 v44) fun iR =>
 BN (cI ju [(.int .i64 0), (.int .i64 0), (.int .i64 0), (.int .i64 0), (.int .i64 0), (.int .i64 0), (.int .i64 0), (.int .i64 0), (.int .i64 0), (.str []), (.str []), (.str []), .ae, (.str [])] 41 0) fun i48 lD =>
 B1 (st 14 (.ptr i48 0) v46 lD) fun nw =>
 j43 dm (.ptr i48 0) iR dy eY eD nw) (fun lC mu lz my lq qQ kP =>
 B1 (ie .not lz) fun hJ =>
 CD hJ (
 some (.tuple [(.str []), (.int .i64 2)], kP)) (
 B1 (af 14 mu kP) fun v59 =>
 B1 (fl [(.int .i64 0), (.int .i64 0), (.int .i64 0), (.int .i64 0), (.int .i64 0), (.int .i64 0), (.int .i64 0), (.int .i64 0), (.int .i64 0), (.str []), (.str []), (.str []), .ae, (.str [])] [(0, 14, v59)]) fun Ee =>
 BN (cI kP Ee 41 0) fun i61 yR =>
 B2 (fZ 41 14 [(.int .i64 0), (.int .i64 0), (.int .i64 0), (.int .i64 0), (.int .i64 0), (.int .i64 0), (.int .i64 0), (.int .i64 0), (.int .i64 0), (.str []), (.str []), (.str []), .ae, (.str [])] false lC (.slice i61 0 1 1 true 14) yR) fun v63 pP =>
 Dk v63 my lq qQ pP)))) (fun gf gq fN eA C8 =>
 uj gf gq fN eA C8)) (fun iM gY mq jO py =>
 B1 (dj jO (.int .i64 1)) fun v75 =>
 mT iM gY mq v75 py)) (
 oz dm fD)
noncomputable def CN (J:JT)(G:GT)(cf:CF)(oz:K.Fn 1):K.Fn 4:=gI P an J G cf 6 [1,1,1,1,0,1,0,0] [5,28,29,30] (fun q t H=>match Nat.beq q 0 with | true=>app 1 oz (ai [5] t) H | false=>(fun _ _ _=>none) q t H)
theorem aix (J:JT)(G:GT)(cf:CF)(oz:K.Fn 1)(mT:K.Fn 4)(dm dy eY eD:AV)(fD:Hp):nI P an J G cf 6 [1,1,1,1,0,1,0,0] [5,28,29,30] (fun q t H=>match Nat.beq q 0 with | true=>app 1 oz (ai [5] t) H | false=>(fun _ _ _=>none) q t H) mT [dm,dy,eY,eD] fD=JY J G cf oz mT dm dy eY eD fD:=by kernel_rfl
theorem Xd (cf:CF)(oz:K.Fn 1)(dm dy eY eD:AV)(fD:Hp):CN JN GO cf oz dm dy eY eD fD=JY JN GO cf oz (CN JN GO cf oz) dm dy eY eD fD:=No (b:=app 4 (CN JN GO cf oz) [dm,dy,eY,eD] fD) (by kernel_rfl) ((ik cf _ _ _ _ [dm,dy,eY,eD] rfl fD).trans (aix JN GO cf oz _ dm dy eY eD fD))
noncomputable def KD (J : JT)(G : GT)(cf : CF)(vP : K.Fn 1)(apy : K.Fn 6)(um uo ng kL lT oD : AV)(wS : Hp) : R :=
 B1 (dV oD lT) fun AE =>
 CD AE (
 J 6 (fun apb =>
 B1 (ia 14 kL oD) fun BF =>
 B1 (af 14 BF wS) fun Ik =>
 BN (cI wS [(.int .i64 0), (.int .i64 0), (.int .i64 0), (.int .i64 0), (.int .i64 0), (.int .i64 0), (.int .i64 0), (.int .i64 0), (.int .i64 0), (.str []), (.str []), (.str []), .ae, (.str [])] 41 0) fun i114 aoq =>
 B1 (st 14 (.ptr i114 0) Ik aoq) fun p6 =>
 B1 (af 14 (.ptr i114 0) p6) fun v117 =>
 B2 (cf (.func (.func 15) [] []) [um, v117, ng] p6) fun A2 BB =>
 B1 (jQ A2 (.str [10])) fun vM =>
 B2 (cf (.func (.func 14) [] []) [uo, vM] BB) fun wu qM =>
 apb um uo ng kL lT oD qM) (fun Ar B7 AL Bp HJ BE Cr =>
 B1 (dj BE (.int .i64 1)) fun v130 =>
 apy Ar B7 AL Bp HJ v130 Cr)) (
 vP uo wS)
noncomputable def DJ (J:JT)(G:GT)(cf:CF)(vP:K.Fn 1):K.Fn 6:=gI P an J G cf 6 [1,1,1,1,1,1,1,1,1,0,1,0,0] [11,13,14,58,59,60] (fun q t H=>match Nat.beq q 2 with | true=>app 1 vP (ai [13] t) H | false=>(fun _ _ _=>none) q t H)
theorem Pm (cf:CF)(vP:K.Fn 1)(um uo ng kL lT oD:AV)(wS:Hp):DJ JN GO cf vP um uo ng kL lT oD wS=KD JN GO cf vP (DJ JN GO cf vP) um uo ng kL lT oD wS:=No (b:=app 6 (DJ JN GO cf vP) [um,uo,ng,kL,lT,oD] wS) (by kernel_rfl) ((ik cf 6 [1,1,1,1,1,1,1,1,1,0,1,0,0] [11,13,14,58,59,60] _ [um,uo,ng,kL,lT,oD] rfl wS).trans (by kernel_rfl))
noncomputable def RD (J : JT)(G : GT)(cf : CF)(a0 : AV)(H : Hp) : R :=
 B2 (cf (.func (.func 10) [] []) [a0, (.str [10])] H) fun v0 h1 =>
 B2 (cf (.func (.func 9) [] []) [v0, (.str [10])] h1) fun v2 h3 =>
 J 1 (fun j4 =>
 J 2 (fun j5 =>
 B1 (lens a0) fun v6 =>
 B1 (iy v6 (.int .i64 8192)) fun v7 =>
 G v7 false (fun k8 =>
 k8 v2 h3) (fun v9 cG =>
 G v7 false (fun vp =>
 B1 (cJ v9) fun v12 =>
 vp v12 cG) (fun cY eK =>
 G v7 false (fun Cf =>
 B1 (iy cY (.int .i64 400)) fun dD =>
 Cf dD eK) (fun dc fv =>
 B1 (pk v7 (.bool true) dc) fun eu =>
 j5 v2 eu fv) eK) cG) h3) (fun eM dk gM =>
 CD dk (
 some (.tuple [(.str []), (.int .i64 14)], gM)) (
 j4 eM gM))) (fun cD fR =>
 J 1 (fun mw =>
 B1 (cJ cD) fun v26 =>
 J 1 (fun oz =>
 CN J G cf oz .ae cD v26 (.int .i64 0) fR) (fun lR wE =>
 mw lR wE)) (fun mL kY =>
 J 3 (fun lV =>
 B2 (cf (.func (.func 13) [] []) [(.int .i64 65536)] kY) fun pf jT =>
 B1 (ex 0 pf) fun jF =>
 B1 (ex 1 pf) fun uV =>
 lV mL jF uV jT) (fun iK jc ij qP =>
 J 2 (fun OK =>
 B1 (eX ij (.int .i64 0)) fun vC =>
 CD vC (
 some (.tuple [(.str []), ij], qP)) (
 OK iK jc qP)) (fun sK nX xC =>
 BN (cI xC [.aC, .ae] 50 0) fun i94 q9 =>
 BN (cI q9 [(.int .i64 0)] 3 0) fun i96 oB =>
 B1 (st 1 (.ptr i96 0) (.int .i64 0) oB) fun mZ =>
 J 1 (fun Ib =>
 B1 (cJ sK) fun lX =>
 J 1 (fun vP =>
 DJ J G cf vP nX (.ptr i94 0) (.ptr i96 0) sK lX (.int .i64 0) mZ) (fun DY alH =>
 Ib DY alH)) (fun vE P8 =>
 B2 (cf (.func (.func 16) [] []) [vE] P8) fun acC ahK =>
 some (.tuple [acC, (.int .i64 0)], ahK))))))
theorem arS (J:JT)(G:GT)(cf:CF)(a0:AV)(H:Hp):gD P J G aw an cf 6 [a0] H=RD J G cf a0 H:=by kernel_rfl
theorem anG {a0:AV}{H:Hp}{r:AV × Hp}(h:RD JN GO cK a0 H=some r):cK (.func (.func 6) [] []) [a0] H=some r:=aE (first:=[]) (cap:=[]) ((arS JN GO _ a0 H).trans h)
noncomputable def E5 (J : JT)(G : GT)(cf : CF)(j6 : K.Fn 4)(j7 : K.Fn 5)(x8 x9 eI fK eV : AV)(fX : Hp) : R :=
 B1 (cJ x8) fun du =>
 B1 (dV eV du) fun da =>
 CD da (
 J 5 (fun vk =>
 J 5 (fun vc =>
 B1 (ia 1 x8 eV) fun dw =>
 B1 (ld dw fX) fun eu =>
 CD eu (
 vc x8 x9 eI (.str [49]) eV fX) (
 vc x8 x9 eI (.str [48]) eV fX)) (fun eM dk cF cD cS dG =>
 J 5 (fun tJ =>
 B1 (jQ dk (.str [108, 101, 97, 100, 32])) fun v27 =>
 B1 (jQ v27 cD) fun v28 =>
 B1 (jQ v28 (.str [10])) fun v29 =>
 tJ eM v29 cF cD cS dG) (fun dy eY eD gj kU pg =>
 B1 (jQ eD (.str [111, 107, 10])) fun v36 =>
 vk dy eY v36 gj kU pg))) (fun kj jH la mc fj js =>
 B1 (dj fj (.int .i64 1)) fun kq =>
 j7 kj jH la mc kq js)) (
 j6 x8 x9 eI fK fX)
noncomputable def DZ (J:JT)(G:GT)(cf:CF)(j6:K.Fn 4):K.Fn 5:=gI P an J G cf 4 [1,1,1,1,1,0,1,0,0] [0,3,4,5,6] (fun q t H=>match Nat.beq q 0 with | true=>app 4 j6 (ai [0,3,4,5] t) H | false=>(fun _ _ _=>none) q t H)
theorem ah4 (J:JT)(G:GT)(cf:CF)(j6:K.Fn 4)(j7:K.Fn 5)(x8 x9 eI fK eV:AV)(fX:Hp):nI P an J G cf 4 [1,1,1,1,1,0,1,0,0] [0,3,4,5,6] (fun q t H=>match Nat.beq q 0 with | true=>app 4 j6 (ai [0,3,4,5] t) H | false=>(fun _ _ _=>none) q t H) j7 [x8,x9,eI,fK,eV] fX=E5 J G cf j6 j7 x8 x9 eI fK eV fX:=by kernel_rfl
theorem YO (cf:CF)(j6:K.Fn 4)(x8 x9 eI fK eV:AV)(fX:Hp):DZ JN GO cf j6 x8 x9 eI fK eV fX=E5 JN GO cf j6 (DZ JN GO cf j6) x8 x9 eI fK eV fX:=No (b:=app 5 (DZ JN GO cf j6) [x8,x9,eI,fK,eV] fX) (by kernel_rfl) ((ik cf _ _ _ _ [x8,x9,eI,fK,eV] rfl fX).trans (ah4 JN GO cf j6 _ x8 x9 eI fK eV fX))
noncomputable def Kl (J : JT)(G : GT)(cf : CF)(a0 : AV)(H : Hp) : R :=
 B2 (cf (.func (.func 5) [] []) [] H) fun v0 h1 =>
 B1 (ie .not v0) fun v2 =>
 CD v2 (
 some ((.bool false), h1)) (
 B1 (cJ a0) fun v3 =>
 B1 (iy v3 (.int .i64 60)) fun v4 =>
 CD v4 (
 some ((.bool true), h1)) (
 J 4 (fun j5 =>
 J 4 (fun j6 =>
 DZ J G cf j6 a0 (.str []) (.str []) (.str [45, 49]) (.int .i64 0) h1) (fun gF fY fV jZ pj =>
 j5 gF fY fV jZ pj)) (fun jS jb lC mu yb =>
 J 5 (fun j54 =>
 B1 (jQ jb (.str [114, 101, 103, 105, 115, 116, 101, 114])) fun iY =>
 B2 (cf (.func (.func 6) [] []) [iY] yb) fun iZ kP =>
 B1 (ex 0 iZ) fun hJ =>
 B1 (ex 1 iZ) fun v59 =>
 j54 jS lC mu hJ v59 kP) (fun qS mQ mj lH lI tk =>
 B1 (cN lI (.int .i64 0)) fun mr =>
 G mr true (fun FX =>
 FX lH tk) (fun qo C8 =>
 G mr true (fun k70 =>
 k70 mQ C8) (fun ml mf =>
 G mr true (fun k73 =>
 k73 qS mf) (fun rT qq =>
 G mr true (fun k76 =>
 B1 (cJ rT) fun rJ =>
 k76 rJ qq) (fun oQ kY =>
 G mr true (fun k80 =>
 B2 (cf (.func (.func 8) [] []) [oQ] kY) fun pf jT =>
 k80 pf jT) (fun jF AY =>
 G mr true (fun k85 =>
 B1 (jQ ml jF) fun uS =>
 k85 uS AY) (fun v87 qP =>
 G mr true (fun k89 =>
 B1 (jQ v87 (.str [32])) fun vC =>
 k89 vC qP) (fun v91 EK =>
 G mr true (fun k93 =>
 k93 mj EK) (fun wT q9 =>
 G mr true (fun k96 =>
 B1 (jQ v91 wT) fun AN =>
 k96 AN q9) (fun qH yn =>
 G mr true (fun aq8 =>
 B1 (jQ qH (.str [32, 48, 32, 48, 10])) fun nG =>
 aq8 nG yn) (fun uy xg =>
 G mr true (fun aoE =>
 B1 (seq qo uy) fun v105 =>
 aoE v105 xg) (fun wb Dm =>
 B1 (pk mr wb (.bool false)) fun Pe =>
 some (Pe, Dm)) xg) yn) q9) EK) qP) AY) kY) qq) mf) C8) tk))))
theorem ajW (J:JT)(G:GT)(cf:CF)(a0:AV)(H:Hp):gD P J G aw an cf 4 [a0] H=Kl J G cf a0 H:=by kernel_rfl
theorem ZX {a0:AV}{H:Hp}{r:AV × Hp}(h:Kl JN GO cK a0 H=some r):cK (.func (.func 4) [] []) [a0] H=some r:=aE (first:=[]) (cap:=[]) ((ajW JN GO _ a0 H).trans h)
noncomputable def YW (J : JT)(G : GT)(cf : CF)(a0 : AV)(H : Hp) : R :=
 B1 (ag a0) fun v0 =>
 B1 (fa 5 v0) fun v1 =>
 B1 (ld v1 H) fun v2 =>
 some (v2, H)
theorem an4 {a0:AV}{H:Hp}{r:AV × Hp}(h:YW JN GO cK a0 H=some r):cK (.func (.func 128) [] []) [a0] H=some r:=aE (first:=[]) (cap:=[]) (No (by kernel_rfl) h)
end
end Go.Proofs.YtehhgkgeldinkaaGreatDoor.dg
namespace Go.Proofs.YtehhgkgeldinkaaGreatDoor.AG
open Go Am
abbrev cT:=List Nat
def iE (c:Nat):cT->List cT
 | []=>[[]]
 | b::s=>if b=c then []::iE c s else match iE c s with | []=>[[b]] | h::t=>(b::h)::t
theorem ajq (c:Nat):∀ s,iE c s≠[]
 | []=>by simp[iE]
 | b::s=>by
  unfold iE
  split
  ·simp
  ·split<;>simp
theorem Jj {c:Nat}:∀ {s:cT},c∉s->iE c s=[s]
 | [],_=>rfl
 | b::s,h=>by
  rw[yL,not_or] at h
  unfold iE
  rw[if_neg (fun e=>h.1 e.symm),Jj h.2]
theorem IJ {c:Nat}:∀ {a:cT} (r:cT),c∉a->iE c (a++c::r)=a::iE c r
 | [],r,_=>by
  show iE c (c::r)=_
  unfold iE
  rw[if_pos rfl]
  cases r<;>rfl
 | b::a,r,h=>by
  rw[yL,not_or] at h
  show iE c (b::(a++c::r))=_
  have:=IJ r h.2
  rw[iE,if_neg (fun e=>h.1 e.symm),this]
theorem OU {c:Nat}:∀ {s:cT} {k:Nat},mW c s k=none->c∉s
 | [],k,_=>by simp
 | b::s,k,h=>by
  unfold mW at h
  cases hb:Nat.beq b c with
  | true=>rw[hb] at h;cases h
  | false=>
   rw[hb] at h
   have h1:b≠c:=fun e=>by subst e;rw[agU] at hb;cases hb
   rw[yL,not_or]
   exact⟨fun e=>h1 e.symm,OU h⟩
theorem OG {c:Nat}:∀ {s:cT} {k i:Nat},mW c s k=some i->∃ a r,s=a++c::r/\i=k+a.length/\c∉a
 | [],k,i,h=>by cases h
 | b::s,k,i,h=>by
  unfold mW at h
  cases hb:Nat.beq b c with
  | true=>
   rw[hb] at h
   cases h
   have:b=c:=aba hb
   subst this
   exact⟨[],s,rfl,rfl,by simp⟩
  | false=>
   rw[hb] at h
   have h1:b≠c:=fun e=>by subst e;rw[agU] at hb;cases hb
   obtain⟨a,r,rfl,rfl,h3⟩:=OG h
   refine⟨b::a,r,rfl,by simp;omega,?_⟩
   rw[yL,not_or]
   exact⟨fun e=>h1 e.symm,h3⟩
theorem Fy (c:Nat):∀ s,(iE c s).length=gL c s+1
 | []=>rfl
 | b::s=>by
  have ih:=Fy c s
  unfold iE gL
  by_cases h:b=c
  ·subst h
   rw[if_pos rfl,agU,cond_true,abn,ih]
  ·have hb:Nat.beq b c=false:=by
    rw[<-Bool.not_eq_true];exact fun e=>h (aba e)
   rw[if_neg h,hb,cond_false]
   cases hs:iE c s with
   | nil=>exact absurd hs (ajq c s)
   | cons x y=>rw[hs] at ih;exact ih
theorem SR (c:Nat):∀ s:cT,gL c s<=s.length
 | []=>aar _
 | b::s=>by
  have:=SR c s
  unfold gL
  cases Nat.beq b c<;>simp<;>omega
end Go.Proofs.YtehhgkgeldinkaaGreatDoor.AG
namespace Go.Proofs.YtehhgkgeldinkaaGreatDoor.dg
open Go Am Am.K jn AG
section
section
section
theorem K9 {aB:Nat}{k:Ext}{fn:Func}{args:List AV}{H:Hp}{r:AV × Hp}(hp:aw aB=none)(hf:P.funcs[aB]? = some fn)(hb:fn.body=none)(he:ext aB=some k)(h:C3 P k args H=some r):cK (.func (.func aB) [] []) args H=some r:=by
 refine Qz Jf ?_
 unfold vU
 simp only[hp,afE,afD,hf,hb,he]
 exact h
def Gl:Option Nat->Int
 | some i=>i
 | none => -1
theorem anl {c:Nat}(hc:c<256)(s:cT)(H:Hp):cK (.func (.func 159) [] []) [.str s,.int .u8 c] H=some (.int .i64 (Gl (mW c s 0)),H):=by
 refine K9 (k := .LX) (by kernel_rfl) Tryz.func159 rfl (by kernel_rfl) ?_
 show some (AV.int .i64 (match mW (Int.toNat (c:Int) % 256) s 0 with | some i=>(i:Int) | none => -1),H)=_
 rw[aeq,aeE hc]
 cases mW c s 0<;>rfl
theorem arH {c:Nat}(hc:c<256)(s:cT)(H:Hp):cK (.func (.func 58) [] []) [.str s,.int .u8 c] H=some (.int .i64 (gL c s:Nat),H):=by
 refine K9 (k := .count) (by kernel_rfl) Tryz.func58 rfl (by kernel_rfl) ?_
 show some (AV.int .i64 (gL (Int.toNat (c:Int) % 256) s:Nat),H)=_
 rw[aeq,aeE hc]
theorem aiQ {c:Nat}(hc:c<256)(s:cT)(H:Hp):cK (.func (.func 99) [] []) [.str s,.int .u8 c] H=some (.int .i64 (Gl (mW c s 0)),H):=by
 refine ans ?_
 unfold abW
 simp only[anl hc,aj,ak,Int.reduceBEq,Int.reduceBNe,Int.reduceLT,Int.reduceLE,Int.reduceGT,Int.reduceGE,Int.reduceNeg]
theorem aec {c:Nat}(hc:c<256)(s:cT)(H:Hp):cK (.func (.func 59) [] []) [.str s,.str [c]] H=some (.int .i64 (Gl (mW c s 0)),H):=by
 refine ajf ?_
 unfold TJ
 have h1:td (.str [c]) (.int .i64 0)=some (.int .u8 c):=N8 .i64 rfl
 simp only[aiQ hc,h1,abn,abY,Int.ofNat_one,Nat.reduceAdd,Int.natCast_one,aj,ak,Int.reduceBEq,Int.reduceBNe,Int.reduceLT,Int.reduceLE,Int.reduceGT,Int.reduceGE,Int.reduceNeg]
 rw[af8]
 split
 ·rename_i h
  have h:[c]=s:=by simpa using h
  subst h
  unfold mW
  rw[agU];rfl
 ·rfl
theorem an5 {c:Nat}(hc:c<256)(s:cT)(H:Hp):cK (.func (.func 37) [] []) [.str s,.str [c]] H=some (.int .i64 (Gl (mW c s 0)),H):=by
 refine aoD ?_
 unfold Yt
 simp only[aec hc,aj,ak,Int.reduceBEq,Int.reduceBNe,Int.reduceLT,Int.reduceLE,Int.reduceGT,Int.reduceGE,Int.reduceNeg]
theorem ao7 {c:Nat}(hc:c<256)(s:cT)(H:Hp):cK (.func (.func 36) [] []) [.str s,.str [c]] H=some (.int .i64 (gL c s:Nat),H):=by
 refine ary ?_
 unfold aaW
 have h1:td (.str [c]) (.int .i64 0)=some (.int .u8 c):=N8 .i64 rfl
 simp only[arH hc,h1,abn,abY,Int.ofNat_one,Nat.reduceAdd,Int.natCast_one,aj,ak,Int.reduceBEq,Int.reduceBNe,Int.reduceLT,Int.reduceLE,Int.reduceGT,Int.reduceGE,Int.reduceNeg]
def cut (c:Nat)(s:cT):cT × cT × Bool:=match mW c s 0 with
 | some i=>(s.take i,s.drop (i+1),true)
 | none=>(s,[],false)
def strs (l:List cT):List AV:=l.map .str
theorem mM (l:List cT):(strs l).length=l.length:=by simp[strs]
theorem aay (l:List cT):∀ v∈strs l,db v=true:=by
 intro v hv
 obtain⟨b,_,rfl⟩:=adj.1 hv
 rfl
theorem IN (a b:List cT):strs (a++b)=strs a++strs b:=by simp[strs]
theorem zM {l:List cT}{j:Nat}{z:cT}(h:l[j]? = some z):(strs l)[j]? = some (.str z):=by simp[strs,h]
theorem amK {c:Nat}(hc:c<256){A n:Nat}{el:Nat}:∀ (m:Nat) (s:cT) (dn:List cT) (H:Hp),s.length=m->m<=1073741824->n<=1073741824->dn.length+(iE c s).length=n->Cs H A (strs dn++List.replicate (n-dn.length) (AV.str [])) el 0->
  ∃ BK s' H',(∀ k:K.Fn 3,HC JN GO cK k (.str s) (.str [c]) (.int .i64 0) (.int .i64 ((n-1:Nat):Int)) (.slice A 0 n n true 1) (.int .i64 (dn.length:Nat)) H=k (.str s') (.slice A 0 n n true 1) (.int .i64 (BK.length:Nat)) H')/\
   BK++[s']=dn++iE c s/\BK.length<n/\Cs H' A (strs BK++List.replicate (n-BK.length) (AV.str [])) el 0/\Out [A] H H':=by
 intro m
 induction m using Nat.strongRecOn with
 | _ m ih=>
 intro s dn H hm R3 OT hn hC
 have AH:=Fy c s
 by_cases rY:dn.length+1=n
 ·have tj:iE c s=[s]:=by
   cases hi:mW c s 0 with
   | none=>exact Jj (OU hi)
   | some i=>
    obtain⟨a,r,rfl,rfl,ha⟩:=OG hi
    have h1:=IJ (c:=c) r ha
    have h2:=Fy c r
    rw[h1,abn] at hn
    omega
  have d:decide (((dn.length:Nat):Int)<((n-1:Nat):Int))=false:=decide_eq_false (by omega)
  refine⟨dn,s,H,fun k => ?_,by rw[tj],by omega,hC,Out.refl _ _⟩
  rw[Yb]
  simp only[KB,d,aj,ak,Int.reduceBEq,Int.reduceBNe,Int.reduceLT,Int.reduceLE,Int.reduceGT,Int.reduceGE,Int.reduceNeg]
 ·have d:decide (((dn.length:Nat):Int)<((n-1:Nat):Int))=true:=decide_eq_true (by omega)
  cases hi:mW c s 0 with
  | none=>
   have tj:=Jj (OU hi)
   rw[tj] at hn
   simp only[abn,abY] at hn
   omega
  | some i=>
   obtain⟨a,r,rfl,rfl,ha⟩:=OG hi
   rw[yS] at hi
   have h1:=IJ (c:=c) r ha
   rw[h1,abn] at hn
   simp only[abz,abn] at hm
   obtain⟨H1,w1,w2,w3,w4⟩:=qZ hC (by decide) (o:=dn.length) (by rw[abz,mM,aeg];omega) (v := .str a) rfl
   have fM:(strs dn++List.replicate (n-dn.length) (AV.str [])).set dn.length (AV.str a)=strs (dn++[a])++List.replicate (n-(dn++[a]).length) (AV.str []):=by
    rw[ajA _ _ (by rw[mM];omega),mM,aja,IN,adY]
    congr 1
    rw[abz,show n-dn.length=(n-(dn.length + [a].length))+1 by simp;omega,agH]
    rfl
   rw[fM] at w2
   obtain⟨BK,s',H',i1,i2,i3,i4,i5⟩:=ih r.length (by omega) r (dn++[a]) H1 rfl (by omega) OT (by rw[abz];simp;omega) w2
   have d2:decide ((((a.length:Nat)):Int)<0)=false:=decide_eq_false (by omega)
   have e1:IntKind.wrap .i64 ((a.length:Int)+0)=((a.length:Nat):Int):=by rw[wrap_i64 (by omega) (by omega)];omega
   have e2:IntKind.wrap .i64 ((a.length:Int)+((1:Nat):Int))=((a.length+1:Nat):Int):=by rw[wrap_i64 (by omega) (by omega)];rfl
   have e3:IntKind.wrap .i64 ((dn.length:Int)+1)=(((dn++[a]).length:Nat):Int):=by rw[wrap_i64 (by omega) (by omega),abz];rfl
   have q1:sU (.str (a++c::r)) none (some (.int .i64 (a.length:Nat)))=some (.str a):=by rw[ajB .i64 (by simp)];simp
   have q2:sU (.str (a++c::r)) (some (.int .i64 (a.length+1:Nat))) none=some (.str r):=by rw[WQ .i64 (by simp)];simp[List.drop_append]
   have q3:ia 1 (.slice A 0 n n true 1) (.int .i64 (dn.length:Nat))=some (.ptr A dn.length):=by rw[we (by omega)];simp
   refine⟨BK,s',H',fun k => ?_,by rw[i2,h1,adY];rfl,i3,i4,w3.trans i5⟩
   rw[Yb]
   simp only[KB,d,an5 hc,hi,Gl,d2,e1,q1,q3,w1,abn,abY,e2,q2,e3,i1,aj,ak,Int.reduceBEq,Int.reduceBNe,Int.reduceLT,Int.reduceLE,Int.reduceGT,Int.reduceGE,Int.reduceNeg]
theorem agb {H:Hp}{z:AV}{el n:Nat}(k j:IntKind)(hn:n<=1048576):FZ [z] el 1 (.int k n) (.int j n) H=some (.slice H.next 0 n n true 1,al H (List.replicate n z) el 0):=by
 unfold FZ
 have hr:rep n [z]=List.replicate n z:=by
  unfold rep
  induction n with
  | zero=>rfl
  | succ m ih=>rw[agH,af4,ih (by omega),agH];rfl
 simp only
 rw[if_pos ⟨by omega,by omega,by omega⟩,aeq,hr,Ns (by rw[aeg];omega)]
 rfl
theorem ak5 {c:Nat}(hc:c<256){s:cT}(hs:s.length<=1000000)(H:Hp) :
  ∃ x H',cK (.func (.func 17) [] []) [.str s,.str [c],.int .i64 0,.int .i64 (-1)] H=some (x,H')/\Rw H' 1 x (strs (iE c s))/\Out [] H H'/\∀ j∈aa x,H.next<=j:=by
 have hn:=Fy c s
 have hle:=SR c s
 have e0:([c]==([]:List Nat))=false:=rfl
 have e1:IntKind.wrap .i64 ((gL c s:Int)+1)=((gL c s+1:Nat):Int):=by rw[wrap_i64 (by omega) (by omega)];rfl
 have e2:IntKind.wrap .i64 ((s.length:Int)+1)=((s.length+1:Nat):Int):=by rw[wrap_i64 (by omega) (by omega)];rfl
 have e3:(if ((s.length+1:Nat):Int)<((gL c s+1:Nat):Int) then ((s.length+1:Nat):Int) else ((gL c s+1:Nat):Int))=((gL c s+1:Nat):Int):=if_neg (by omega)
 have e4:IntKind.wrap .i64 (((gL c s+1:Nat):Int)-1)=((gL c s+1-1:Nat):Int):=by rw[wrap_i64 (by omega) (by omega)];omega
 have hm:=agb (H:=H) (z := .str []) (el:=9) (n:=gL c s+1) .i64 .i64 (by omega)
 have hC:Cs (al H (List.replicate (gL c s+1) (AV.str [])) 9 0) H.next (strs []++List.replicate (gL c s+1-([]:List cT).length) (AV.str [])) 9 0:=J8 H _ _ _
 obtain⟨dn,s',H1,i1,i2,i3,i4,i5⟩:=amK hc (n:=gL c s+1) s.length s [] _ rfl (by omega) (by omega) (by simp;omega) hC
 obtain⟨H2,w1,w2,w3,w4⟩:=qZ i4 (by decide) (o:=dn.length) (by rw[abz,mM,aeg];omega) (v := .str s') rfl
 have CM:dn.length+1=gL c s+1:=by
  have:=congrArg List.length i2
  simp only[abz,abn,abY] at this
  omega
 have fM:(strs dn++List.replicate (gL c s+1-dn.length) (AV.str [])).set dn.length (AV.str s')=strs (iE c s):=by
  rw[ajA _ _ (by rw[mM];omega),mM,aja,show gL c s+1-dn.length=1 by omega]
  have:iE c s=dn++[s']:=by rw[i2];rfl
  rw[this,IN];rfl
 rw[fM] at w2
 have e5:IntKind.wrap .i64 ((dn.length:Int)+1)=((gL c s+1:Nat):Int):=by rw[wrap_i64 (by omega) (by omega)];omega
 have q3:ia 1 (.slice H.next 0 (gL c s+1) (gL c s+1) true 1) (.int .i64 (dn.length:Nat))=some (.ptr H.next dn.length):=by rw[we (by omega)];simp
 have hrw:Rw H2 1 (.slice H.next 0 (gL c s+1) (gL c s+1) true 1) (strs (iE c s)) := .mk w2.ro (by rw[mM,hn,adQ]) (aar _) (by rw[oa (Nat.succ_ne_zero _)];rfl)
 obtain⟨x,x1,x2,x3⟩:=Fg (n:=gL c s+1) hrw (by rw[mM,hn,adQ]) (by decide) (a:=0) (b:=gL c s+1) (lo:=none) (hi:=some (.int .i64 (gL c s+1:Nat))) (by omega) (aar _) (Bd.no 0) (Bd.yes _ _ _)
 rw[afB,afO,ae9,adQ,aea (by rw[mM];omega)] at x2
 refine⟨x,H2,acF ?_,x2,?_,fun j hj => ?_⟩
 ·unfold P1
  have sJ:=i1
  simp only[abY] at sJ
  rw[show (((0:Nat):Int))=0 from rfl] at sJ
  simp only[e0,ao7 hc,e1,e2,Ga,e3,hm,e4,sJ,q3,w1,e5,x1,aj,ak,Int.reduceBEq,Int.reduceBNe,Int.reduceLT,Int.reduceLE,Int.reduceGT,Int.reduceGE,Int.reduceNeg]
 ·have:Out [H.next] (al H (List.replicate (gL c s+1) (AV.str [])) 9 0) H2:=i5.trans w3
  exact (ES H _ _ _).then this fun j hj=>by rw[wc] at hj;exact .inr (by omega)
 ·have:=x3 j hj
  rw[mP (by rw[oa (Nat.succ_ne_zero _)];rfl)] at this
  rw[wc] at this;omega
theorem XL {c:Nat}(hc:c<256){s:cT}(hs:s.length<=1000000)(H:Hp) :
  ∃ x H',cK (.func (.func 9) [] []) [.str s,.str [c]] H=some (x,H')/\Rw H' 1 x (strs (iE c s))/\Out [] H H'/\∀ j∈aa x,H.next<=j:=by
 obtain⟨x,H',h1,h2⟩:=ak5 hc hs H
 refine⟨x,H',ac9 ?_,h2⟩
 unfold WN
 simp only[h1,aj,ak,Int.reduceBEq,Int.reduceBNe,Int.reduceLT,Int.reduceLE,Int.reduceGT,Int.reduceGE,Int.reduceNeg]
def ints (l:List Int):List AV:=l.map fun z => .int .i64 z
theorem aad {i n:Nat}(h:i<n)(hn:n<=16777216):IntKind.wrap .i64 ((i:Int)+1)=((i+1:Nat):Int):=by rw[wrap_i64 (by omega) (by omega)];rfl
theorem aby {i n:Nat}(h:i<n):decide (((i:Nat):Int)<((n:Nat):Int))=true:=decide_eq_true (by omega)
theorem aap {n:Nat}:decide (((n:Nat):Int)<((n:Nat):Int))=false:=decide_eq_false (by omega)
theorem drop_nil {α:Type}{l:List α}{i:Nat}(hi:i<=l.length)(h:l.drop i=[]):i=l.length:=by
 have:=congrArg List.length h
 rw[aef,abY] at this;omega
theorem ada (i o n c:Nat)(ex:Bool)(es:Nat):same (.slice i o n c ex es) (.slice i o n c ex es)=true:=by simp[same,mO,agU]
theorem apN (k:IntKind)(z:Int):same (.int k z) (.int k z)=true:=by simp[same,mO]
theorem alj (i o:Nat):same (.ptr i o) (.ptr i o)=true:=by simp[same,mO,agU]
theorem ahW (i o n c:Nat)(ex:Bool)(es:Nat)(x:R):SM (.slice i o n c ex es) (.slice i o n c ex es) x=x:=jo (ada ..)
theorem F8 (k:IntKind)(z:Int)(x:R):SM (.int k z) (.int k z) x=x:=jo (apN ..)
theorem abA (i o:Nat)(x:R):SM (.ptr i o) (.ptr i o) x=x:=jo (alj ..)
structure Bu (H:Hp)(p:Nat)(sl:AV)(l:cT):Prop where
 c:Cs H p [.ptr p 0,sl] 50 0
 o:Ow H 5 1 sl (bs l)
 ne:p∉aa sl
theorem agT (x:AV)(H:Hp):cK (.func (.func 45) [] []) [x] H=some (x,H):=
 K9 (k := .same) (by kernel_rfl) Tryz.func45 rfl (by kernel_rfl) rfl
theorem ai4 {n:Nat}(hn:n<=1048576)(H:Hp):cK (.func (.func 169) [] []) [.int .i64 n] H=some (.slice H.next 0 n n false 1,al H (List.replicate n .dT) 5 0):=by
 refine K9 (k := .GC 48) (by kernel_rfl) Tryz.func169 rfl (by kernel_rfl) ?_
 have hu:P.underlying 48=some (.slice 5):=Tryz.underlying48
 unfold C3
 simp only[hu]
 rw[if_pos ⟨by omega,by omega⟩,aeq,Ns (by rw[aeg];omega)]
 rfl
theorem agI {H:Hp}{p:Nat}{l:List AV}{el fl:Nat}(h:Cs H p l el fl)(hl:0<l.length):jw P 47 118 (.ptr p 0) H=some (.ptr p 0,H):=by
 have h1:P.underlying 47=some (.pointer 50):=Tryz.underlying47
 have h2:P.underlying 118=some .unsafePointer:=Tryz.underlying118
 have h3:yh P 50=true:=by kernel_rfl
 have h4:=h.cellAt (aax hl)
 unfold jw
 simp only[h1,h2,h3,h4,Option.isSome_some,Bool.and_self,cond_true]
theorem ac3 {H:Hp}{p:Nat}{a b:AV}(h:Cs H p [a,b] 50 0):jw P 118 47 (.ptr p 0) H=some (.ptr p 0,H):=by
 have h1:P.underlying 47=some (.pointer 50):=Tryz.underlying47
 have h2:P.underlying 118=some .unsafePointer:=Tryz.underlying118
 have h3:P.cellsOf 50=2:=by kernel_rfl
 have h4:=h.cellAt (o:=1) (v:=b) rfl
 obtain⟨_,c,hc,_⟩:=h
 unfold jw
 simp only[h1,h2,hc,h3,Nat.reduceSub,h4]
 rfl
theorem UH {H:Hp}{p:Nat}(h:Cs H p [.aC,.ae] 50 0):∃ H',cK (.func (.func 26) [] []) [.ptr p 0] H=some (.tuple [],H')/\Cs H' p [.ptr p 0,.ae] 50 0/\Out [p] H H'/\H'.next=H.next:=by
 obtain⟨H',w1,w2,w3,w4⟩:=qZ h (by decide) (o:=0) (by decide) (v := .ptr p 0) rfl
 refine⟨H',aaB ?_,w2,w3,w4⟩
 unfold NN
 have h1:=h.ld (o:=0) (v := .aC) rfl
 simp only[ae6,h1,agI h (by decide),agT,ac3 h,w1,aj,ak,Int.reduceBEq,Int.reduceBNe,Int.reduceLT,Int.reduceLE,Int.reduceGT,Int.reduceGE,Int.reduceNeg]
theorem agh (p o:Nat)(H:Hp):pe (.ptr p o) (.ptr p o) H=some true:=by
 unfold pe
 simp[agU]
theorem Vl {H:Hp}{p:Nat}{sl:AV}{l:cT}(h:Bu H p sl l):cK (.func (.func 26) [] []) [.ptr p 0] H=some (.tuple [],H):=by
 refine aaB ?_
 unfold NN
 have h1:=h.c.ld (o:=0) (v := .ptr p 0) rfl
 simp only[ae6,h1,agh,aj,ak,Int.reduceBEq,Int.reduceBNe,Int.reduceLT,Int.reduceLE,Int.reduceGT,Int.reduceGE,Int.reduceNeg]
theorem ajt {H:Hp}{n el:Nat}(hn:0<n):Ow (al H (List.replicate n .dT) el 0) el 1 (.slice H.next 0 0 n false 1) []:=by
 have fC:=J8 H (List.replicate n .dT) el 0
 obtain⟨hi,c,hc,hg⟩:=fC
 refine .mk hi hc (by decide) (aar _) (by rw[aeg];omega) (adf _) (by simp) (fun k v hk=>by simp at hk) (fun k hk => ?_) (fun v hv=>by cases hv) rfl
 rw[yS,hg k .dT (by rw[agO,if_pos (by omega)])];rfl
theorem Rb {H:Hp}{p n:Nat}(lP:0<n)(hn:n<=1000000)(h:Cs H p [.aC,.ae] 50 0):∃ sl H',cK (.func (.func 62) [] []) [.ptr p 0,.int .i64 n] H=some (.tuple [],H')/\Bu H' p sl []/\Out [p] H H'/\∀ j∈aa sl,H.next<=j:=by
 obtain⟨H1,c1,c2,c3,c4⟩:=UH h
 have hu:P.underlying 48=some (.slice 5):=Tryz.underlying48
 have fe:∀ H:Hp,eP P .cap #[48] [.ae] H=some (.int .i64 0,H):=fun H=>by
  unfold eP
  simp only
  unfold IY
  simp only[hu,ad0,nq,ac0]
  rfl
 have l1:=c2.ld (o:=1) (v := .ae) rfl
 have e1:IntKind.wrap .i64 (0+(n:Int))=(n:Int):=by rw[wrap_i64 (by omega) (by omega)];omega
 have e0:IntKind.wrap .i64 (2*0)=0:=by rw[wrap_i64 (by omega) (by omega)];omega
 have e2:IntKind.wrap .i64 (0-0)=0:=by rw[wrap_i64 (by omega) (by omega)];omega
 have hm:=ai4 (show n<=1048576 by omega) H1
 have yr:=ES H1 (List.replicate n .dT) 5 0
 have c2':=c2.out yr (by simp)
 have AJ:=c2'.ld (o:=1) (v := .ae) rfl
 have rD:fT 1 (.slice H1.next 0 n n false 1) none (some (.int .i64 0)) none=some (.slice H1.next 0 0 n false 1):=by
  unfold fT
  have:=uY (len:=n) (cap:=n) (a:=0) (b:=0) (lo:=none) (hi:=some (.int .i64 0)) (aar _) (adf _) (aar _) (Bd.no 0) (Bd.apF .i64 _)
  simp only[this]
  simp
 have hcp:∀ H:Hp,Ej 1 (.slice H1.next 0 0 n false 1) .ae H=some (.int .i64 0,H):=fun H=>by unfold Ej;simp[Mm]
 obtain⟨H2,w1,w2,w3,w4⟩:=qZ c2' (by decide) (o:=1) (by simp) (v := .slice H1.next 0 0 n false 1) rfl
 have hg:cK (.func (.func 112) [] []) [.ptr p 0,.int .i64 n] H1=some (.tuple [],H2):=by
  refine anZ ?_
  unfold X3
  have vN:∀ x:R,SM .ae .ae x=x:=fun x=>jo rfl
  simp only[l1,fe,e0,e1,hm,AJ,rD,vN,F8,hcp,w1,aj,ak,Int.reduceBEq,Int.reduceBNe,Int.reduceLT,Int.reduceLE,Int.reduceGT,Int.reduceGE,Int.reduceNeg]
 have ah:p<H1.next:=by rw[c4];exact h.1
 refine⟨.slice H1.next 0 0 n false 1,H2,ac8 ?_,⟨w2,(ajt lP).out w3 (fun j hj=>by
  rw[mP (by rfl),wc] at hj
  rw[wc];omega),by rw[mP (by rfl),wc];omega⟩,(c3.trans (yr.mono (S':=[p]) (fun j hj=>by cases hj))).trans w3,fun j hj=>by rw[mP (by rfl),wc] at hj;omega⟩
 unfold aco
 have d1:decide ((n:Int)<0)=false:=decide_eq_false (by omega)
 have d2:decide ((0:Int)<(n:Int))=true:=decide_eq_true (by omega)
 simp only[c1,d1,l1,fe,e2,d2,hg,aj,ak,Int.reduceBEq,Int.reduceBNe,Int.reduceLT,Int.reduceLE,Int.reduceGT,Int.reduceGE,Int.reduceNeg]
theorem O2 {H:Hp}{p:Nat}{sl:AV}{l s:cT}(h:Bu H p sl l)(hl:l.length+s.length<=16777216):∃ gr H',cK (.func (.func 14) [] []) [.ptr p 0,.str s] H=some (.tuple [.int .i64 s.length,.nilIface],H')/\Bu H' p gr (l++s)/\Out (p::aa sl) H H'/\∀ j∈aa gr,j∈aa sl\/H.next<=j:=by
 obtain⟨gr,H1,a1,a2,a3,a4⟩:=Es (n:=s.length) (new:=bs s) h.o (by rw[gO,adQ]) (zV s) (by decide) (by rw[gO,gO];exact hl)
 have Eh:fZ 5 1 [(.int .u8 0)] false sl (.str s) H=some (gr,H1):=by
  unfold fZ
  have:tC 1 [(.int .u8 0)] false (.str s) H=some (s.length,bs s):=by unfold tC;simp[bs]
  rw[this];exact a1
 have p8:=h.c.out a3 h.ne
 obtain⟨H2,w1,w2,w3,w4⟩:=qZ p8 (by decide) (o:=1) (by simp) (v:=gr) a2.Br
 have cL:p∉aa gr:=fun q=>(a4 p q).elim h.ne fun q=>by have:=h.c.1;omega
 refine⟨gr,H2,V3 ?_,⟨w2,by rw[Et];exact a2.out w3 (fun j hj=>by rw[wc];intro e;subst e;exact cL hj),cL⟩,?_,a4⟩
 ·unfold Oy
  have l1:=h.c.ld (o:=1) (v:=sl) rfl
  simp only[Vl h,l1,Eh,w1,aj,ak,Int.reduceBEq,Int.reduceBNe,Int.reduceLT,Int.reduceLE,Int.reduceGT,Int.reduceGE,Int.reduceNeg]
 ·exact (a3.mono fun j hj => .tail _ hj).trans (w3.mono fun j hj=>by rw[wc] at hj;subst hj;exact .head _)
theorem Xa {H:Hp}{p:Nat}{sl:AV}{l:cT}(h:Bu H p sl l)(h0:0<l.length)(hl:l.length<16777216)(hb:∀ b∈l,b<256):∃ H',cK (.func (.func 16) [] []) [.ptr p 0] H=some (.str l,H')/\Out (aa sl) H H':=by
 have l1:=h.c.ld (o:=1) (v:=sl) rfl
 have ho:=h.o
 have cL:=h.ne
 generalize oV:bs l=cs at ho
 cases ho with
 | nil=>
  have:l=[]:=by simpa[bs] using oV
  subst this;simp at h0
 | emp=>
  have:l=[]:=by simpa[bs] using oV
  subst this;simp at h0
 | @mk i off n cap ex _ c lo hi fl gS hg hf fG gp fe hn gi hs h1 he=>
  subst oV
  rw[gO,adQ] at hn
  have Gc:Ro H i off (bs l):=⟨gS,c,lo,hi,5,fl,hg,fG,by rw[gO];omega,gi⟩
  have E0:=Gc.dQ
  rw[gO,hn] at E0
  rw[mP he,wc] at cL
  have hx:((dQ H i off n).bind uW)=some l:=by rw[E0];exact abb l hb
  refine⟨{ H with h:=H.h.fJ i (.cells c lo hi 5 2) },aoP ?_,⟨aar _,fun j hj Aa => ?_⟩⟩
  ·unfold Yg
   have b1:eP P .unsafeSliceData #[48] [.slice i off n cap ex 1] H=some (.ptr i off,H):=by
    unfold eP
    have:Nat.blt 0 n=true:=by rw[adn];omega
    simp only[this,cond_true]
   have b2:eP P .unsafeString #[90,3] [.ptr i off,.int .i64 (n:Nat)] H=some (.str l,{ H with h:=H.h.fJ i (.cells c lo hi 5 2) }):=by
    have hu:P.underlying 90=some (.pointer 5):=Tryz.underlying90
    have p8:P.cellsOf 5=1:=by kernel_rfl
    unfold eP
    simp only
    unfold KA
    simp only[hu]
    rw[if_neg (by omega)]
    simp only[hg]
    rw[if_pos ⟨trivial,p8,by omega,by omega,hf⟩,aeq,hx]
    rfl
   simp only[l1,b1,b2,ahW,F8,aj,ak,Int.reduceBEq,Int.reduceBNe,Int.reduceLT,Int.reduceLE,Int.reduceGT,Int.reduceGE,Int.reduceNeg]
  ·rw[mP he,wc] at Aa
   show (Tr.fJ H.h i _).get j=_
   rw[Tr.fJ,Tr.fE,if_neg Aa]
def pS (sep:cT):List cT->cT
 | []=>[]
 | a::l=>sep++a++pS sep l
def wq (sep:cT):List cT->cT
 | []=>[]
 | a::l=>a++pS sep l
def nr (l:List cT):Nat:=(l.map List.length).sum
theorem OV (sep:cT):∀ l,(pS sep l).length=sep.length*l.length+nr l
 | []=>by simp[pS,nr]
 | a::l=>by
  have:=OV sep l
  simp only[pS,abz,this,abn,Nat.mul_add,adQ,nr,ab8,ah6]
  omega
theorem aa2 {x:AV}{l:List cT}{H:Hp}(hx:Rw H 1 x (strs l))(hl:l.length<=1000)(hb:∀ s∈l,s.length<=100000)(k:K.Fn 3)(y z:AV):∀ (r:List cT) (i acc:Nat),i<=l.length->l.drop i=r->acc<=1000000+i*100000->
  HT JN GO cK k y z (.int .i64 acc) x (.int .i64 (l.length:Nat)) (.int .i64 (i:Nat)) H=k y z (.int .i64 ((acc+nr r:Nat):Int)) H
 | [],i,acc,hi,h,ha=>by
  obtain rfl:=drop_nil hi h
  rw[Xw]
  simp only[Ke,aap,nr,List.map_nil,List.sum_nil,ae6,aj,ak,Int.reduceBEq,Int.reduceBNe,Int.reduceLT,Int.reduceLE,Int.reduceGT,Int.reduceGE,Int.reduceNeg]
 | a::r,i,acc,hi,h,ha=>by
  obtain⟨h1,h2,h3⟩:=zr h
  obtain⟨q,q1,q2⟩:=hx.lA (zM h2) .i64
  have e:=aad h1 (by omega)
  have ff:=hb a (acx h2)
  have TN:acc+a.length<=1000000+(i+1)*100000:=by omega
  have ih:=aa2 hx hl hb k y z r (i+1) (acc+a.length) h1 h3 TN
  have e1:IntKind.wrap .i64 (9223372036854775807-(acc:Int))=9223372036854775807-(acc:Int):=wrap_i64 (by omega) (by omega)
  have d:decide (9223372036854775807-(acc:Int)<(a.length:Int))=false:=decide_eq_false (by omega)
  have e2:IntKind.wrap .i64 ((acc:Int)+(a.length:Int))=((acc+a.length:Nat):Int):=by rw[wrap_i64 (by omega) (by omega)];rfl
  have e3:acc+nr (a::r)=acc+a.length+nr r:=by simp[nr];omega
  rw[Xw,e3]
  simp only[Ke,aby h1,q1,q2,e1,d,e2,e,ih,aj,ak,Int.reduceBEq,Int.reduceBNe,Int.reduceLT,Int.reduceLE,Int.reduceGT,Int.reduceGE,Int.reduceNeg]
theorem abg {sep:cT}{x:AV}{l:List cT}{p:Nat}{H0:Hp}(hx:Rw H0 1 x (strs l))(hl:l.length<=1000):∀ (r:List cT) (i:Nat) (H:Hp) (sl:AV) (acc:cT),i<=l.length->l.drop i=r->Rw H 1 x (strs l)->Bu H p sl acc->(∀ j∈aa x,j≠p/\j∉aa sl)->acc.length+(pS sep r).length<=16777216->
  ∃ gr H',(∀ k:K.Fn 1,Gm JN GO cK k (.str sep) (.ptr p 0) x (.int .i64 (l.length:Nat)) (.int .i64 (i:Nat)) H=k (.ptr p 0) H')/\Bu H' p gr (acc++pS sep r)/\Out (p::aa sl) H H'/\∀ j∈aa gr,j∈aa sl\/H.next<=j
 | [],i,H,sl,acc,hi,h,gK,hB,hd,hlen=>by
  obtain rfl:=drop_nil hi h
  refine⟨sl,H,fun k => ?_,by simpa[pS] using hB,Out.refl _ _,fun j hj => .inl hj⟩
  rw[abK]
  simp only[PW,aap,aj,ak,Int.reduceBEq,Int.reduceBNe,Int.reduceLT,Int.reduceLE,Int.reduceGT,Int.reduceGE,Int.reduceNeg]
 | a::r,i,H,sl,acc,hi,h,gK,hB,hd,hlen=>by
  obtain⟨h1,h2,h3⟩:=zr h
  obtain⟨q,q1,q2⟩:=gK.lA (zM h2) .i64
  have e:=aad h1 (by omega)
  simp only[pS,abz] at hlen
  obtain⟨Bs,H1,a1,a2,a3,a4⟩:=O2 (s:=sep) hB (by omega)
  obtain⟨Df,H2,b1,b2,b3,b4⟩:=O2 (s:=a) a2 (by rw[abz];omega)
  have ah:=gK.lt
  have S3:∀ j∈aa x,j≠p/\j∉aa Bs:=fun j hj=>⟨(hd j hj).1,fun q=>(a4 j q).elim (hd j hj).2 fun q=>by have:=ah j hj;omega⟩
  have qe:=a3.nx
  have Ak:∀ j∈aa x,j≠p/\j∉aa Df:=fun j hj=>⟨(hd j hj).1,fun q=>(b4 j q).elim (S3 j hj).2 fun q=>by have:=ah j hj;omega⟩
  have qd:=gK.out a3 fun j hj=>by rw[yL,not_or];exact hd j hj
  have qm:=qd.out b3 fun j hj=>by rw[yL,not_or];exact S3 j hj
  obtain⟨gr,H',i1,i2,i3,i4⟩:=abg (sep:=sep) hx hl r (i+1) H2 Df (acc++sep++a) h1 h3 qm b2 Ak (by simp only[abz];omega)
  have o2:Out (p::aa sl) H H2:=a3.then b3 fun j hj=>by
   rcases yL.1 hj with rfl | hj
   ·exact .inl (.head _)
   ·exact (a4 j hj).imp (fun q => .tail _ q) id
  have n2:∀ j∈aa Df,j∈aa sl\/H.next<=j:=fun j hj=>(b4 j hj).elim (fun q=>a4 j q) fun q => .inr (by omega)
  refine⟨gr,H',fun k => ?_,by rw[pS];simpa[adY] using i2,o2.then i3 fun j hj => ?_,fun j hj=>(i4 j hj).elim (n2 j) fun q => .inr (by have:=o2.nx;omega)⟩
  ·rw[abK]
   simp only[PW,aby h1,q1,q2,a1,b1,e,i1,aj,ak,Int.reduceBEq,Int.reduceBNe,Int.reduceLT,Int.reduceLE,Int.reduceGT,Int.reduceGE,Int.reduceNeg]
  ·rcases yL.1 hj with rfl | hj
   ·exact .inl (.head _)
   ·exact (n2 j hj).imp (fun q => .tail _ q) id
theorem ajz (sep:cT)(l:List cT)(h:0<l.length):(wq sep l).length=sep.length*(l.length-1)+nr l:=by
 cases l with
 | nil=>simp at h
 | cons a l=>simp only[wq,abz,OV,abn,nr,ab8,ah6,aio];omega
theorem ais {sep:cT}(NP:sep.length=1){x:AV}{l:List cT}{H:Hp}(hx:Rw H 1 x (strs l))(hl:l.length<=200)(hb:∀ s∈l,s.length<=100000)(oT:nr l<=900000)(oq:∀ s∈sep::l,∀ b∈s,b<256) :
  ∃ H',cK (.func (.func 40) [] []) [x,.str sep] H=some (.str (wq sep l),H')/\Out [] H H':=by
 have dW:=hx.gV
 rw[mM] at dW
 match l,hx,hl,hb,oT,oq,dW with
 | [],hx,hl,hb,oT,oq,dW=>
  refine⟨H,Nl ?_,Out.refl _ _⟩
  unfold GG
  simp only[abY,Int.natCast_zero] at dW
  simp only[dW,wq,aj,ak,Int.reduceBEq,Int.reduceBNe,Int.reduceLT,Int.reduceLE,Int.reduceGT,Int.reduceGE,Int.reduceNeg]
 | [a],hx,hl,hb,oT,oq,dW=>
  obtain⟨q,q1,q2⟩:=hx.lA (i:=0) (v := .str a) rfl .i64
  refine⟨H,Nl ?_,Out.refl _ _⟩
  unfold GG
  simp only[abn,abY,yS,Int.natCast_one] at dW
  rw[show (((0:Nat):Int))=0 from rfl] at q1
  simp only[dW,q1,q2,wq,pS,afD,aj,ak,Int.reduceBEq,Int.reduceBNe,Int.reduceLT,Int.reduceLE,Int.reduceGT,Int.reduceGE,Int.reduceNeg]
 | a::b::l,hx,hl,hb,oT,oq,dW=>
  generalize hm:a::b::l=L at *
  have hL2:2<=L.length:=by rw[<-hm];simp
  have Vc:L[0]? = some a:=by rw[<-hm];rfl
  obtain⟨q,q1,q2⟩:=hx.lA (zM Vc) .i64
  rw[show (((0:Nat):Int))=0 from rfl] at q1
  have d1:(((L.length:Nat):Int)==0)=false:=beq_false_of_ne (by omega)
  have d2:(((L.length:Nat):Int)==1)=false:=beq_false_of_ne (by omega)
  have e1:IntKind.wrap .i64 (((L.length:Nat):Int)-1)=((L.length-1:Nat):Int):=by rw[wrap_i64 (by omega) (by omega)];omega
  have e2:BG (.int .i64 9223372036854775807) (.int .i64 ((L.length-1:Nat):Int))=some (.int .i64 (9223372036854775807 / ((L.length-1:Nat):Int))):=by
   rw[al3 _ _ _ (by omega),Int.tdiv_eq_ediv_of_nonneg (by omega)]
   congr 2
   rw[wrap_i64]
   ·have:0<=9223372036854775807 / ((L.length-1:Nat):Int):=Int.ediv_nonneg (by omega) (by omega)
    omega
   ·exact Int.le_trans (Int.ediv_le_self _ (by omega)) (Int.le_refl _)
  have hq:(200:Int)<=9223372036854775807 / ((L.length-1:Nat):Int):=by
   rw[Int.le_ediv_iff_mul_le (by omega)]
   omega
  have d3:decide (9223372036854775807 / ((L.length-1:Nat):Int)<=((1:Nat):Int))=false:=decide_eq_false (by omega)
  have e3:IntKind.wrap .i64 (((1:Nat):Int)*((L.length-1:Nat):Int))=((L.length-1:Nat):Int):=by rw[wrap_i64 (by omega) (by omega)];omega
  have e4:IntKind.wrap .i64 (0+((L.length-1:Nat):Int))=((L.length-1:Nat):Int):=by rw[wrap_i64 (by omega) (by omega)];omega
  have i1:=fun k=>aa2 hx (by omega) hb k x (.str sep) L 0 (L.length-1) (adf _) afO (by omega)
  rw[show (((0:Nat):Int))=0 from rfl] at i1
  have kR:cI H [.aC,.ae] 50 0=some (H.next,al H [.aC,.ae] 50 0):=Ns (by simp)
  have ho:=ES H [.aC,.ae] 50 0
  obtain⟨sl,H1,g1,g2,g3,g4⟩:=Rb (n:=L.length-1+nr L) (by omega) (by omega) (J8 H [.aC,.ae] 50 0)
  have ah:=hx.lt
  have qd:=(hx.eR ho).out g3 fun j hj=>by rw[wc];have:=ah j hj;omega
  obtain⟨q',uR,Jp⟩:=qd.lA (zM Vc) .i64
  rw[show (((0:Nat):Int))=0 from rfl] at uR
  have ff:a.length<=nr L:=by rw[<-hm];simp[nr]
  obtain⟨Df,H2,b1,b2,b3,b4⟩:=O2 (s:=a) g2 (by simp;omega)
  rw[afE] at b2
  have qm:=qd.out b3 fun j hj=>by
   rw[yL,not_or]
   exact⟨by have:=ah j hj;omega,fun q=>by have:=g4 j q;have:=ah j hj;rw[zC] at *;omega⟩
  have vX:=Fg qm (n:=L.length) (by rw[mM,adQ]) (by decide) (a:=1) (b:=L.length) (lo:=some (.int .i64 1)) (hi:=none) (by omega) (aar _) (Bd.yes .i64 1 0) (Bd.no _)
  obtain⟨x',x1,x2,x3⟩:=vX
  have sM:(((strs L).drop (1*1)).take ((L.length-1)*1))=strs (b::l):=by rw[<-hm,adQ,adQ];exact aea (by simp[strs])
  rw[sM] at x2
  have Ys:=x2.gV
  rw[mM] at Ys
  have qG:(b::l).length<=1000:=by rw[<-hm] at hl;simp only[abn] at *;omega
  have qe:=g3.nx
  rw[zC] at qe
  have qO:sep.length*(b::l).length+nr (b::l)<=1000000:=by
   rw[NP,ahp]
   rw[<-hm] at oT hl
   simp only[nr,ab8,ah6,abn] at *
   omega
  obtain⟨sl3,H3,c1,c2,c3,c4⟩:=abg (sep:=sep) x2 qG (b::l) 0 H2 Df a (adf _) afO x2 b2 (fun j hj=>by
   have hj:=ah j (x3 j hj)
   exact⟨by omega,fun q=>(b4 j q).elim (fun q=>by have:=g4 j q;rw[zC] at this;omega) fun q=>by omega⟩) (by rw[OV];omega)
  have pR:a++pS sep (b::l)=wq sep L:=by rw[<-hm];rfl
  rw[pR] at c2
  have pB:=ajz sep L (by omega)
  rw[NP,ahp] at pB
  have Cu:∀ c∈wq sep L,c<256:=by
   have key:∀ l:List cT,(∀ s∈l,∀ b∈s,b<256)->∀ c∈pS sep l,c<256:=by
    intro l
    induction l with
    | nil=>intro _ c hc;cases hc
    | cons s l ih=>
     intro h c hc
     simp only[pS,aal] at hc
     rcases hc with (hc | hc) | hc
     ·exact oq sep (.head _) c hc
     ·exact h s (.head _) c hc
     ·exact ih (fun s hs=>h s (.tail _ hs)) c hc
   intro c hc
   rw[<-pR,aal] at hc
   have nK:∀ s∈a::b::l,∀ b∈s,b<256:=fun s hs=>oq s (.tail _ (by rw[<-hm];exact hs))
   rcases hc with hc | hc
   ·exact nK a (.head _) c hc
   ·exact key _ (fun s hs=>nK s (.tail _ hs)) c hc
  obtain⟨H4,s1,s2⟩:=Xa c2 (by omega) (by omega) Cu
  have n2:=b3.nx
  have n3:=c3.nx
  have tc:∀ j∈aa Df,H.next<=j:=fun j hj=>(b4 j hj).elim (fun q=>by have:=g4 j q;rw[zC] at this;omega) fun q=>by omega
  have hr3:∀ j∈aa sl3,H.next<=j:=fun j hj=>(c4 j hj).elim (tc j) fun q=>by omega
  have o1:Out [] H H1:=ho.then g3 fun j hj=>by rw[wc] at hj;exact .inr (by omega)
  have o2:Out [] H H2:=o1.then b3 fun j hj=>by
   rcases yL.1 hj with rfl | hj
   ·exact .inr (by omega)
   ·have:=g4 j hj;rw[zC] at this;exact .inr (by omega)
  have o3:Out [] H H3:=o2.then c3 fun j hj=>by
   rcases yL.1 hj with rfl | hj
   ·exact .inr (by omega)
   ·exact .inr (tc j hj)
  refine⟨H4,Nl ?_,o3.then s2 fun j hj => .inr (hr3 j hj)⟩
  unfold GG
  have e5:((L.length-1+nr L:Nat):Int)=((L.length-1+nr L:Nat):Int):=rfl
  rw[show (((0:Nat):Int))=0 from rfl] at c1
  have d4:decide ((0:Int)<((1:Nat):Int))=true:=rfl
  simp only[dW,d1,d2,NP,d4,e1,e2,d3,e3,e4,i1,kR,g1,uR,Jp,b1,x1,Ys,c1,s1,ge_iff_le,aj,ak,Int.reduceBEq,Int.reduceBNe,Int.reduceLT,Int.reduceLE,Int.reduceGT,Int.reduceGE,Int.reduceNeg]
open Sg kM nO jU iX
structure SS where
 ep:Int
 ho:Int
 so:Bool
 fl:Int
def sc (s:SS):List AV:=[.int .i64 s.ep,.int .i64 s.ho,.bool s.so,.int .i64 s.fl]
theorem zQ (s:SS):∀ v∈sc s,db v=true:=fun v hv=>by
 simp only[sc,yL,aeB,or_false] at hv
 rcases hv with rfl | rfl | rfl | rfl<;>rfl
theorem xL (s:SS):jX (.agg (sc s))=some (sc s):=rfl
structure Ab (H:Hp)(a:Nat)(x:AV)(l:List SS):Prop where
 head:C0 H a [x]
 row:OL H 97 4 x (l.map sc)
 nd:a∉aa x
theorem Ab.out {H H':Hp}{a:Nat}{x:AV}{l:List SS}{S:List Nat}(h:Ab H a x l)(k:Out S H H')(ha:a∉S)(hx:∀ j∈aa x,j∉S):Ab H' a x l:=⟨h.head.out k ha,h.row.out k hx,h.nd⟩
theorem akq (H:Hp):∃ a x H',cK (.func (.func 22) [] []) [] H=some (.ptr a 0,H')/\Ab H' a x [⟨0,-1,false,0⟩]/\Out [] H H'/\H.next<=a/\∀ j∈aa x,H.next<=j:=by
 have f1:fl [(.int .i64 0),(.int .i64 0),(.bool false),(.int .i64 0)] [(1,1,(.int .i64 (-1)))]=some [.int .i64 0,.int .i64 (-1),.bool false,.int .i64 0]:=rfl
 have f2:fl [(.int .i64 0),(.int .i64 0),(.bool false),(.int .i64 0)] [(0,4,(.agg [.int .i64 0,.int .i64 (-1),.bool false,.int .i64 0]))]=some [.int .i64 0,.int .i64 (-1),.bool false,.int .i64 0]:=rfl
 obtain⟨H1,n1,n2,n3,n4⟩:=eJ H [.int .i64 0,.int .i64 (-1),.bool false,.int .i64 0] 97 0 (by simp)
 have f3:fl [.ae] [(0,1,(.slice H.next 0 1 1 true 4))]=some [.slice H.next 0 1 1 true 4]:=rfl
 obtain⟨H2,b1,b2,b3,b4⟩:=jP H1 100 (.agg [.slice H.next 0 1 1 true 4]) [.slice H.next 0 1 1 true 4] rfl (by simp)
 have ow:Ow H1 97 4 (.slice H.next 0 1 1 true 4) (sc ⟨0,-1,false,0⟩):=n2.ow (n:=1) (by decide) rfl (zQ ⟨0,-1,false,0⟩) true
 have hr:aa (.slice H.next 0 1 1 true 4)=[H.next]:=mP rfl
 refine⟨H1.next,.slice H.next 0 1 1 true 4,H2,afg ?_,⟨⟨_,b2⟩,⟨by simpa using ow.out b3 fun j _ q=>(by cases q),fun c hc=>by rw[ab8,List.map_nil,wc] at hc;subst hc;rfl⟩,by rw[hr,wc];omega⟩,n3.trans b3,n3.1,fun j hj=>by rw[hr,wc] at hj;omega⟩
 unfold Yl
 simp only[f1,f2,n1,f3,b1,aj,ak,simprocAttr]
section
variable {H:Hp}{a:Nat}{x:AV}{l:List SS}{s:SS}
theorem PH (h:Ab H a x (l++[s]))(hl:l.length<=1000000):∃ H',cK (.func (.func 84) [] []) [.ptr a 0] H=some (.agg (sc s),H')/\Out [] H H':=by
 obtain⟨H1,n1,n2,n3,n4⟩:=eJ H [.int .i64 0,.int .i64 0,.bool false,.int .i64 0] 97 0 (by simp)
 have h1:=h.out n3 (by simp) (fun j _ q=>by cases q)
 have l0:=h1.head.ld (o:=0) rfl
 have Bq:=h1.row.rl.len (by decide)
 rw[adg,abz,List.length_singleton] at Bq
 obtain⟨b,o,z1,z2,z3,z4,z5⟩:=h1.row.rl.at (by decide) (i:=l.length) (c:=sc s) (by simp)
 have uH:=z1 .i64
 have w:IntKind.wrap .i64 (((l.length+1:Nat):Int)-1)=((l.length:Nat):Int):=by rw[wrap_i64 (by omega) (by omega)];omega
 have z6:af 4 (.ptr b o) H1=some (.agg (sc s)):=AQ z4
 obtain⟨H2,t1,t2,t3,t4⟩:=jf (n:=4) n2 (by omega) (xL s) rfl rfl (zQ s)
 have t5:af 4 (.ptr H.next 0) H2=some (.agg (sc s)):=t2.af (n:=4) (o:=0) (by simp[sc])
 refine⟨H2,amR ?_,n3.then t3 fun j hj=>by rw[wc] at hj;exact .inr (by omega)⟩
 unfold acp
 simp only[n1,l0,Bq,w,uH,z6,t1,t5,aj,ak,simprocAttr]
end
theorem ahg (a b d a' b' d':Int)(c c':Bool)(H:Hp):ja P 50 97 (.agg [.int .i64 a,.int .i64 b,.bool c,.int .i64 d]) (.agg [.int .i64 a',.int .i64 b',.bool c',.int .i64 d']) H=wJ (fun z:Bool=>some z) [a==a',b==b',c==c',d==d']:=by kernel_rfl
theorem am8:Program.eqGuardType P P.depth 97=false:=by kernel_rfl
theorem amn (s:SS)(H:Hp):gA P .neq 97 false (.agg (sc s)) (.agg (sc s))=true/\kG P .neq 97 (.agg (sc s)) (.agg (sc s)) H=some (.bool false):=by
 constructor
 ·show (!(Program.eqGuardType P P.depth 97))=true
  rw[am8];rfl
 ·show (ja P 50 97 (.agg (sc s)) (.agg (sc s)) H).map (fun b=>AV.bool !b)=_
  have h:=ahg s.ep s.ho s.fl s.ep s.ho s.fl s.so s.so H
  have e:sc s=[.int .i64 s.ep,.int .i64 s.ho,.bool s.so,.int .i64 s.fl]:=rfl
  rw[e,h]
  simp[wJ]
section
variable {H:Hp}{a:Nat}{x:AV}{l:List SS}{s:SS}
theorem apa (h:Ab H a x (l++[s]))(hl:l.length<=1000000)(t:SS):∃ x' H',cK (.func (.func 149) [] []) [.ptr a 0,.agg (sc s),.agg (sc t)] H=some (.bool true,H')/\Ab H' a x' (l++[s]++[t])/\Out (a::aa x) H H'/\∀ j∈aa x',j∈aa x\/H.next<=j:=by
 obtain⟨H1,b1,b2,b3,b4⟩:=jP H 97 (.agg (sc s)) (sc s) (xL s) (by simp[sc])
 obtain⟨H2,d1,d2,d3,d4⟩:=jP H1 97 (.agg (sc t)) (sc t) (xL t) (by simp[sc])
 have xq:=b2.out d3 fun q=>by cases q
 have o2:=b3.trans d3
 have h2:=h.out o2 (by simp) (fun j _ q=>by cases q)
 obtain⟨H3,g1,g2⟩:=PH h2 hl
 have o3:=o2.trans g2
 have h3:=h.out o3 (by simp) (fun j _ q=>by cases q)
 have s2:af 4 (.ptr H.next 0) H2=some (.agg (sc s)):=xq.af (n:=4) (o:=0) (by simp[sc])
 have s3:af 4 (.ptr H.next 0) H3=some (.agg (sc s)):=(xq.out g2 fun q=>by cases q).af (n:=4) (o:=0) (by simp[sc])
 have t3:af 4 (.ptr H1.next 0) H3=some (.agg (sc t)):=(d2.out g2 fun q=>by cases q).af (n:=4) (o:=0) (by simp[sc])
 obtain⟨q1,q2⟩:=amn s H3
 have sm:same (.agg (sc s)) (.agg (sc s))=true:=by simp[same,sc,mO,wG]
 have l0:=h3.head.ld (o:=0) rfl
 have f1:fl [(.int .i64 0),(.int .i64 0),(.bool false),(.int .i64 0)] [(0,4,.agg (sc t))]=some (sc t):=rfl
 obtain⟨H4,x',H5,m1,m2,m3,m4,m5,m6⟩:=OL.I7 (mD:=97) (z:=[(.int .i64 0),(.int .i64 0),(.bool false),(.int .i64 0)]) (vs:=sc t) h3.row (zQ t) rfl (by decide) (by decide) (by simp;omega)
 have ha5:C0 H5 a [x]:=h3.head.out m5 h3.nd
 obtain⟨H6,u1,u2,u3,u4⟩:=ha5.st (o:=0) (v:=x') (by simp) m3.1.Br
 have halt:=h3.head.lt
 have AW:a∉aa x':=fun q=>(m6 a q).elim h3.nd fun z=>by omega
 refine⟨x',H6,apT ?_,⟨u2,?_,AW⟩,?_,fun j hj=>(m6 j hj).imp id fun q=>abS o3.1 q⟩
 ·unfold Yc
  simp only[b1,d1,g1,s3,s2,q1,q2,jo sm,YH,l0,t3,f1,m1,m2,u1,aj,ak,simprocAttr]
 ·have:=m3.out u3 fun j hj q=>AW (by rw[wc] at q;exact q▸hj)
  rw[acJ (l₁:=l++[s])]
  exact this
 ·refine (o3.mono fun j hj=>by cases hj).trans ((m5.mono fun j hj => .tail _ hj).trans (u3.mono fun j hj => ?_))
  rw[wc] at hj;subst hj;exact .head _
end
theorem aqs {w:Int}(hw:w=0\/w=1)(H:Hp):cK (.func (.func 201) [] []) [.int .i64 w] H=some (.bool true,H):=by
 refine agM ?_
 unfold X4
 rcases hw with rfl | rfl
 ·simp only[aj,ak,simprocAttr]
 ·simp only[aj,ak,simprocAttr]
theorem ags {s:SS}{w:Int}(hw:w=0\/w=1)(hs:s.so=false)(h0:0<=s.ep)(h1:s.ep<1048575)(H:Hp):∃ H',cK (.func (.func 148) [] []) [.agg (sc s),.int .i64 w] H=some (.tuple [.agg (sc ⟨s.ep+1,w,false,s.fl⟩),.bool true],H')/\Out [] H H':=by
 obtain⟨H1,b1,b2,b3,b4⟩:=jP H 97 (.agg (sc s)) (sc s) (xL s) (by simp[sc])
 obtain⟨H2,n1,n2,n3,n4⟩:=eJ H1 [.int .i64 0,.int .i64 0,.bool false,.int .i64 0] 97 0 (by simp)
 have xq:=b2.out n3 fun q=>by cases q
 have l2:ld (.ptr H.next 2) H2=some (.bool false):=xq.ld (by rw[<-hs];rfl)
 have l0:ld (.ptr H.next 0) H2=some (.int .i64 s.ep):=xq.ld rfl
 have d1:decide (s.ep<0)=false:=decide_eq_false (by omega)
 have d2:decide ((1048575:Int)<=s.ep)=false:=decide_eq_false (by omega)
 have w1:IntKind.wrap .i64 (s.ep+1)=s.ep+1:=wrap_i64 (by omega) (by omega)
 obtain⟨H3,t1,t2,t3,t4⟩:=qZ xq (by decide) (o:=0) (v := .int .i64 (s.ep+1)) (by simp[sc]) rfl
 obtain⟨H4,u1,u2,u3,u4⟩:=qZ t2 (by decide) (o:=1) (v := .int .i64 w) (by simp[sc]) rfl
 have e:((sc s).set 0 (.int .i64 (s.ep+1))).set 1 (.int .i64 w)=sc ⟨s.ep+1,w,false,s.fl⟩:=by simp[sc,hs]
 rw[e] at u2
 have u5:af 4 (.ptr H.next 0) H4=some (.agg (sc ⟨s.ep+1,w,false,s.fl⟩)):=u2.af (n:=4) (o:=0) (by simp[sc])
 have cL:H1.next∉[H.next]:=fun q=>by rw[wc] at q;omega
 obtain⟨H5,x1,x2,x3,x4⟩:=jf (n:=4) ((n2.out t3 cL).out u3 cL) (by decide) (xL ⟨s.ep+1,w,false,s.fl⟩) rfl rfl (zQ _)
 have x5:af 4 (.ptr H1.next 0) H5=some (.agg (sc ⟨s.ep+1,w,false,s.fl⟩)):=x2.af (n:=4) (o:=0) (by simp[sc])
 refine⟨H5,aoy ?_,(((b3.trans n3).then t3 fun j hj => ?_).then u3 fun j hj => ?_).then x3 fun j hj => ?_⟩
 ·unfold Sx
  simp only[b1,n1,aqs hw,l2,l0,d1,d2,t1,w1,u1,u5,x1,x5,aj,ak,simprocAttr]
 all_goals rw[wc] at hj;exact .inr (by omega)
theorem amB {w ep en:Int}(hw:w=0\/w=1)(h0:1<=ep)(h1:ep<=1048575)(h2:0<=en)(h3:en<=17592186044415)(H:Hp):∃ H',cK (.func (.func 153) [] []) [.int .i64 w,.int .i64 ep,.int .i64 en] H=some (.tuple [.agg [.int .i64 w,.int .i64 ep,.int .i64 en,.int .i64 0],.int .i64 0],H')/\Out [] H H':=by
 obtain⟨H1,n1,n2,n3,n4⟩:=eJ H [.int .i64 0,.int .i64 0,.int .i64 0,.int .i64 0] 114 0 (by simp)
 have f1:fl [(.int .i64 0),(.int .i64 0),(.int .i64 0),(.int .i64 0)] [(0,1,.int .i64 w),(1,1,.int .i64 ep),(2,1,.int .i64 en)]=some [.int .i64 w,.int .i64 ep,.int .i64 en,.int .i64 0]:=rfl
 obtain⟨H2,t1,t2,t3,t4⟩:=jf (n:=4) (v := .agg [.int .i64 w,.int .i64 ep,.int .i64 en,.int .i64 0]) (cs:=[.int .i64 w,.int .i64 ep,.int .i64 en,.int .i64 0]) n2 (by decide) rfl rfl rfl (fun v hv=>by
  simp only[yL,aeB,or_false] at hv
  rcases hv with rfl | rfl | rfl | rfl<;>rfl)
 have t5:af 4 (.ptr H.next 0) H2=some (.agg [.int .i64 w,.int .i64 ep,.int .i64 en,.int .i64 0]):=t2.af (n:=4) (o:=0) (by simp)
 have d1:decide (ep<1)=false:=decide_eq_false (by omega)
 have d2:decide ((1048575:Int)<ep)=false:=decide_eq_false (by omega)
 have d3:decide (en<0)=false:=decide_eq_false (by omega)
 have d4:decide ((17592186044415:Int)<en)=false:=decide_eq_false (by omega)
 refine⟨H2,adW ?_,n3.then t3 fun j hj=>by rw[wc] at hj;exact .inr (by omega)⟩
 unfold RX
 rcases hw with rfl | rfl
 ·simp only[n1,f1,t1,t5,d1,d2,d3,d4,aj,ak,simprocAttr]
 ·simp only[n1,f1,t1,t5,d1,d2,d3,d4,aj,ak,simprocAttr]
theorem ae2 (w ep en ac sf:Int)(H:Hp):∃ H',cK (.func (.func 158) [] []) [.agg [.int .i64 w,.int .i64 ep,.int .i64 en,.int .i64 ac],.int .i64 sf,.bool false] H=some (.int .i64 (if ac<sf then ac else sf),H')/\Out [] H H':=by
 obtain⟨H1,b1,b2,b3,b4⟩:=jP H 114 (.agg [.int .i64 w,.int .i64 ep,.int .i64 en,.int .i64 ac]) [.int .i64 w,.int .i64 ep,.int .i64 en,.int .i64 ac] rfl (by simp)
 have l3:ld (.ptr H.next 3) H1=some (.int .i64 ac):=b2.ld rfl
 have hm:eP P .min #[2,2] [.int .i64 sf,.int .i64 ac] H1=some (.int .i64 (if ac<sf then ac else sf),H1):=Ga _ _ _ _ _ _ _
 refine⟨H1,arj ?_,b3⟩
 unfold Z5
 simp only[b1,l3,hm,aj,ak,simprocAttr]
theorem ahx (H:Hp):∃ H',cK (.func (.func 23) [] []) [] H=some (.ptr H.next 0,H')/\C0 H' H.next [.ae]/\Out [] H H':=by
 have f1:fl [.ae] []=some [AV.ae]:=rfl
 obtain⟨H1,b1,b2,b3,b4⟩:=jP H 103 (.agg [.ae]) [.ae] rfl (by simp)
 refine⟨H1,adv ?_,⟨_,b2⟩,b3⟩
 unfold Wd
 simp only[f1,b1,aj,ak,simprocAttr]
theorem agA (H:Hp):∃ p H',cK (.func (.func 312) [] []) [.int .i64 128] H=some (.ptr p 0,H')/\Out [] H H':=by
 have h1:eP P .max #[3,3] [.int .i64 128,.int .i64 1] H=some (.int .i64 128,H):=by rw[JL];rfl
 have h2:eP P .min #[3,3] [.int .i64 128,.int .i64 128] H=some (.int .i64 128,H):=by rw[Ga];rfl
 obtain⟨H1,m1,m2,m3,m4⟩:=Mj H
 have f1:fl [(.int .i64 0),.iF,.ae] [(0,1,.int .i64 128),(1,1,.map H.next)]=some [.int .i64 128,.map H.next,.ae]:=rfl
 obtain⟨H2,b1,b2,b3,b4⟩:=jP H1 418 (.agg [.int .i64 128,.map H.next,.ae]) [.int .i64 128,.map H.next,.ae] rfl (by simp)
 refine⟨H1.next,H2,ahv ?_,m3.trans b3⟩
 unfold UA
 simp only[h1,h2,m1,f1,b1,aj,ak,simprocAttr]
theorem age (H:Hp):∃ p H',cK (.func (.func 261) [] []) [] H=some (.ptr p 0,H')/\Out [] H H':=by
 obtain⟨H1,m1,m2,m3,m4⟩:=Mj H
 obtain⟨k,H2,k1,k2⟩:=agA H1
 have f1:fl [(.int .i64 0),.ae,.iF,.ae,.aC] [(2,1,.map H.next),(4,1,.ptr k 0)]=some [.int .i64 0,.ae,.map H.next,.ae,.ptr k 0]:=rfl
 obtain⟨H3,b1,b2,b3,b4⟩:=jP H2 337 (.agg [.int .i64 0,.ae,.map H.next,.ae,.ptr k 0]) [.int .i64 0,.ae,.map H.next,.ae,.ptr k 0] rfl (by simp)
 refine⟨H2.next,H3,afu ?_,(m3.trans k2).trans b3⟩
 unfold Ze
 simp only[m1,k1,f1,b1,aj,ak,simprocAttr]
structure Ob (H:Hp)(p:Nat)(x:AV)(l:List Nat):Prop where
 h:C0 H p [x]
 r:Ow H 5 1 x (bs l)
 nd:p∉aa x
theorem Ob.out {H H':Hp}{p:Nat}{x:AV}{l:List Nat}{S:List Nat}(h:Ob H p x l)(k:Out S H H')(ha:p∉S)(hx:∀ j∈aa x,j∉S):Ob H' p x l:=⟨h.h.out k ha,h.r.out k hx,h.nd⟩
theorem Np {H:Hp}{p:Nat}{x:AV}{l:List Nat}(h:Ob H p x l){v:Nat}(hv:v<128)(hl:l.length<=1000000) :
  ∃ x' H',cK (.func (.func 202) [] []) [.ptr p 0,.int .u64 (v:Nat)] H=some (.tuple [],H')/\Ob H' p x' (l++[v])/\Out (p::aa x) H H'/\∀ j∈aa x',j∈aa x\/H.next<=j:=by
 have d:decide ((128:Int)<=((v:Nat):Int))=false:=decide_eq_false (by omega)
 have w:IntKind.wrap .u8 ((v:Nat):Int)=((v:Nat):Int):=qw rfl (by show v<256;omega)
 have f1:fl [(.int .u8 0)] [(0,1,.int .u8 ((v:Nat):Int))]=some [.int .u8 ((v:Nat):Int)]:=rfl
 have l0:=h.h.ld (o:=0) rfl
 have hp:=h.h.lt
 obtain⟨H1,n1,n2,n3,n4⟩:=eJ H [.int .u8 ((v:Nat):Int)] 5 0 (by simp)
 have jC:Rw H1 1 (.slice H.next 0 1 1 true 1) [.int .u8 ((v:Nat):Int)]:=(n2.ow (el:=5) (es:=1) (n:=1) (by decide) rfl (fun v hv=>by rw[wc] at hv;subst hv;rfl) true).rw
 have h1:=h.out n3 (by simp) (fun j _ q=>by cases q)
 obtain⟨x',H2,a1,a2,a3,a4⟩:=wU (z:=[.int .u8 0]) h1.r jC (fun v hv=>by rw[wc] at hv;subst hv;rfl) (by decide) (by rw[gO];simp;omega)
 have h2:C0 H2 p [x]:=h1.h.out a3 h.nd
 obtain⟨H3,t1,t2,t3,t4⟩:=h2.st (o:=0) (v:=x') (by simp) a2.Br
 have AW:p∉aa x':=fun q=>(a4 p q).elim h.nd fun z=>by omega
 refine⟨x',H3,ahr ?_,⟨t2,?_,AW⟩,?_,fun j hj=>(a4 j hj).imp id fun q=>by omega⟩
 ·unfold ab4
  simp only[aj,ak,simprocAttr]
  rw[apf]
  simp only[XB,d,w,f1,l0,n1,a1,t1,aj,ak,simprocAttr]
 ·have:=a2.out t3 fun j hj q=>AW (by rw[wc] at q;exact q▸hj)
  rw[Et]
  exact this
 ·refine (n3.mono fun j hj=>by cases hj).trans ((a3.mono fun j hj => .tail _ hj).trans (t3.mono fun j hj => ?_))
  rw[wc] at hj;subst hj;exact .head _
theorem ae0 {H:Hp}{x:AV}{b:Nat}{r:List Nat}(h:Rw H 1 x (bs (b::r))):∃ x',fT 1 x (some (.int .i64 1)) none none=some x'/\Rw H 1 x' (bs r)/\∀ j∈aa x',j∈aa x:=by
 obtain⟨x',h1,h2,h3⟩:=Fg h (n:=r.length+1) (by rw[gO,adQ];rfl) (by decide) (a:=1) (b:=r.length+1) (by omega) (aar _) (Bd.yes _ _ _) (Bd.no _)
 refine⟨x',h1,?_,h3⟩
 have:((bs (b::r)).drop (1*1)).take ((r.length+1-1)*1)=bs r:=by
  rw[adQ,adQ]
  show (bs r).take _=bs r
  exact aea (by rw[gO];omega)
 rw[<-this]
 exact h2
theorem Vb {H:Hp}{p:Nat}{y:AV}{b:Nat}{l:List Nat}(h:C0 H p [y,.bool false])(r:Rw H 1 y (bs (b::l)))(dI:p∉aa y)(hb:1<=b)(lO:b<128) :
  ∃ y' H',cK (.func (.func 72) [] []) [.ptr p 0] H=some (.int .u64 (b:Nat),H')/\C0 H' p [y',.bool false]/\Rw H' 1 y' (bs l)/\Out [p] H H'/\∀ j∈aa y',j∈aa y:=by
 have l0:=h.ld (o:=0) rfl
 have l1:=h.ld (o:=1) rfl
 have hlen:cJ y=some (.int .i64 ((l.length+1:Nat):Int)):=by rw[r.gV,gO];rfl
 have d0:decide ((0:Int)<((l.length+1:Nat):Int))=true:=decide_eq_true (by omega)
 obtain⟨q,q1,q2⟩:=r.lA (i:=0) (v := .int .u8 (b:Nat)) rfl .i64
 have uR:ia 1 y (.int .i64 0)=some q:=q1
 have m1:tR (.int .u8 (b:Nat)) (.int .u8 127)=some (.int .u8 (b:Nat)):=by
  have := @S2 .u8 b 7 (by show b<256;omega) (by decide) (by rw[aeE (by omega)];exact qw rfl (by show b<256;omega))
  rw[aeE (by omega)] at this
  exact this
 have m2:IntKind.wrap .u64 ((b:Nat):Int)=((b:Nat):Int):=qw rfl (by show b<18446744073709551616;omega)
 have m3:qV (.int .i64 7) (.int .i64 0)=some (.int .i64 0):=rfl
 have m4:sN (.int .u64 (b:Nat)) (.int .i64 0)=some (.int .u64 (b:Nat)):=by
  have := @Jb .u64 .i64 b 0
  rw[show b*2 ^ (min 0 (IntKind.bits .u64))=b by rw[Nat.zero_min,Nat.pow_zero,adQ],m2] at this
  exact this
 have m5:qF (.int .u64 0) (.int .u64 (b:Nat))=some (.int .u64 (b:Nat)):=by
  have := @Nx .u64 0 b (by decide) (by show b<18446744073709551616;omega) (by rw[Nat.zero_or];exact m2)
  rw[Nat.zero_or] at this
  exact this
 have d1:decide ((128:Int)<=((b:Nat):Int))=false:=decide_eq_false (by omega)
 have d2:(((b:Nat):Int)==0)=false:=by rw[beq_eq_false_iff_ne];omega
 have i1:dj (.int .i64 0) (.int .i64 1)=some (.int .i64 1):=rfl
 obtain⟨y',s1,s2,s3⟩:=ae0 r
 obtain⟨H1,t1,t2,t3,t4⟩:=h.st (o:=0) (v:=y') (by simp) s2.one
 refine⟨y',H1,YT ?_,t2,s2.out t3 fun j hj e=>dI (by rw[wc] at e;exact e▸s3 j hj),t3,s3⟩
 unfold IT
 simp only[aj,ak,simprocAttr]
 rw[Vv]
 simp only[J0,l0,l1,hlen,d0,uR,q2,m1,m2,m3,m4,m5,d1,d2,i1,s1,t1,aj,ak,simprocAttr]
theorem aky {H:Hp}{p:Nat}{y:AV}{b m:Nat}{l:List Nat}(h:C0 H p [y,.bool false])(r:Rw H 1 y (bs (b::l)))(dI:p∉aa y)(hb:1<=b)(lO:b<128)(hm:b<=m) :
  ∃ y' H',cK (.func (.func 79) [] []) [.ptr p 0,.int .u64 (m:Nat)] H=some (.int .i64 (b:Nat),H')/\C0 H' p [y',.bool false]/\Rw H' 1 y' (bs l)/\Out [p] H H'/\∀ j∈aa y',j∈aa y:=by
 obtain⟨y',H1,u1,u2,u3,u4,u5⟩:=Vb h r dI hb lO
 have l1:=u2.ld (o:=1) rfl
 have d1:decide (((m:Nat):Int)<((b:Nat):Int))=false:=decide_eq_false (by omega)
 have d2:decide ((2147483647:Int)<((b:Nat):Int))=false:=decide_eq_false (by omega)
 have w:IntKind.wrap .i64 ((b:Nat):Int)=((b:Nat):Int):=wrap_i64 (by omega) (by omega)
 refine⟨y',H1,ain ?_,u2,u3,u4,u5⟩
 unfold aaR
 simp only[u1,l1,d1,d2,w,aj,ak,simprocAttr]
theorem ahM {H:Hp}{p:Nat}{y:AV}(h:C0 H p [y,.bool false])(r:Rw H 1 y (bs [])):cK (.func (.func 73) [] []) [.ptr p 0] H=some (.bool true,H):=by
 have l0:=h.ld (o:=0) rfl
 have l1:=h.ld (o:=1) rfl
 have hlen:cJ y=some (.int .i64 0):=r.gV
 refine Vf ?_
 unfold QM
 simp only[l0,l1,hlen,aj,ak,simprocAttr]
def A8 (H:Hp)(i:Nat)(s:List Nat)(pos:Nat):Prop:=i<H.next/\H.h.get i=some (.sA s pos)
def si (H:Hp)(s:List Nat):Hp:=⟨H.h.put 34 H.next (.sA s 0),H.next+1⟩
theorem Ld {t:TypeId}(hu:P.underlying t=some .string)(s:List Nat)(H:Hp):sd P t (.str s) H=some (.ptr H.next 0,si H s):=by
 unfold sd
 rw[hu];rfl
theorem I2 (H:Hp)(s:List Nat):A8 (si H s) H.next s 0:=⟨aeX _,by show (Tr.put 34 H.h H.next _).get H.next=_;rw[Tr.put,Tr.fE,if_pos rfl]⟩
theorem JW (H:Hp)(s:List Nat):Out [] H (si H s):=⟨Nat.le_succ _,fun j hj _=>by show (Tr.put 34 H.h H.next _).get j=_;rw[Tr.put,Tr.fE,if_neg (by omega)]⟩
theorem A8.out {H H':Hp}{i pos:Nat}{s:List Nat}{S:List Nat}(h:A8 H i s pos)(k:Out S H H')(hi:i∉S):A8 H' i s pos:=⟨adi h.1 k.1,by rw[k.2 i h.1 hi];exact h.2⟩
theorem KF {H:Hp}{i pos b:Nat}{s:List Nat}(h:A8 H i s pos)(hb:s[pos]? = some b)(h7:b<128) :
  ∃ H',pW (.ptr i 0) true H=some (.tuple [.bool true,.int .i64 (pos:Nat),.int .i32 (b:Nat)],H')/\A8 H' i s (pos+1)/\Out [i] H H'/\H'.next=H.next:=by
 have hl:=(abf.1 hb).1
 have hd:s.drop pos=b::s.drop (pos+1):=by
  rw[agE hl]
  rw[aax hl] at hb
  cases hb;rfl
 refine⟨Am.setObj H i (.sA s (pos+1)),?_,⟨h.1,by rw[Lo,if_pos rfl]⟩,⟨aar _,fun j _ hn=>by rw[Lo,if_neg (by simpa using hn)]⟩,rfl⟩
 have h8:Nat.blt b 128=true:=by rw[adn];exact h7
 unfold pW
 simp only[h.2,hd,h8,cond_true]
theorem Jo {H:Hp}{i pos:Nat}{s:List Nat}(h:A8 H i s pos)(hp:s.length<=pos):pW (.ptr i 0) true H=some (.tuple [.bool false],H):=by
 have hd:s.drop pos=[]:=afn hp
 unfold pW
 simp only[h.2,hd]
def ec (n:Nat):List AV:=[.int .i64 9,.int .i64 0,.int .i64 0,.int .i64 0,.int .i64 (n:Nat),.str [],.str [],.str []]
abbrev zE:List AV:=[(.int .i64 0),(.int .i64 0),(.int .i64 0),(.int .i64 0),(.int .i64 0),(.str []),(.str []),(.str [])]
abbrev kE:List AV:=[(.int .i64 9),(.int .i64 0),(.int .i64 0),(.int .i64 0),(.int .i64 0),(.str []),(.str []),(.str [])]
theorem Io (n:Nat):∀ v∈ec n,db v=true:=fun v hv=>by
 simp only[ec,yL,aeB,or_false] at hv
 rcases hv with rfl | rfl | rfl | rfl | rfl | rfl | rfl | rfl<;>rfl
theorem U2:∀ v∈kE,db v=true:=fun v hv=>by
 simp only[yL,aeB,or_false] at hv
 rcases hv with rfl | rfl | rfl | rfl | rfl | rfl | rfl | rfl<;>rfl
theorem wx (n:Nat):jX (.agg (ec n))=some (ec n):=rfl
theorem gX {a b:Nat}(h:a≠b):a∉[b]:=fun q=>h (wc.1 q)
theorem Ql (H:Hp):cK (.func (.func 80) [] []) [.int .i64 9] H=some (.str [78],H):=by
 refine adx ?_
 unfold aam
 simp only[aj,ak,simprocAttr]
theorem ad6 {n:Nat}(h1:1<=n)(h2:n<=1048575)(H:Hp):∃ H',cK (.func (.func 134) [] []) [.agg (ec n),.int .i32 78] H=some (.bool true,H')/\Out [] H H':=by
 obtain⟨H1,b1,b2,b3,b4⟩:=jP H 130 (.agg (ec n)) (ec n) (wx n) (by simp[ec])
 have l0:ld (.ptr H.next 0) H1=some (.int .i64 9):=b2.ld rfl
 have l4:ld (.ptr H.next 4) H1=some (.int .i64 (n:Nat)):=b2.ld rfl
 have d1:decide ((1:Int)<=((n:Nat):Int))=true:=decide_eq_true (by omega)
 have d2:decide (((n:Nat):Int)<=1048575)=true:=decide_eq_true (by omega)
 refine⟨H1,adq ?_,b3⟩
 unfold Sj
 simp only[b1,l0,l4,d1,d2,aj,ak,simprocAttr]
theorem aow (n:Nat)(H:Hp):∃ H',cK (.func (.func 131) [] []) [.agg (ec n),.str [78]] H=some (.agg (ec n),H')/\Out [] H H':=by
 obtain⟨H1,b1,b2,b3,b4⟩:=jP H 130 (.agg (ec n)) (ec n) (wx n) (by simp[ec])
 obtain⟨H2,n1,n2,n3,n4⟩:=eJ H1 zE 130 0 (by simp)
 have c2:=b2.out n3 (by simp)
 have l0:ld (.ptr H.next 0) H2=some (.int .i64 9):=c2.ld rfl
 have f1:fl zE [(0,1,.int .i64 9)]=some kE:=rfl
 obtain⟨H3,m1,m2,m3,m4⟩:=eJ H2 zE 130 0 (by simp)
 obtain⟨H4,t1,t2,t3,t4⟩:=jf (n:=8) (v := .agg kE) (cs:=kE) m2 (by decide) rfl rfl rfl U2
 have ua:sd P 9 (.str [78]) H4=some (.ptr H4.next 0,si H4 [78]):=Ld Tryz.underlying9 _ H4
 have o5:=JW H4 [78]
 have s5:=I2 H4 [78]
 obtain⟨H6,i1,i2,i3,i4⟩:=KF s5 (b:=78) rfl (by decide)
 have sJ:pW (.ptr H4.next 0) true (si H4 [78])=some (.tuple [.bool true,.int .i64 0,.int .i32 78],H6):=i1
 have cE:=(((c2.out m3 (by simp)).out t3 (gX (by omega))).out o5 (by simp)).out i3 (gX (by omega))
 have cV:=(((n2.out m3 (by simp)).out t3 (gX (by omega))).out o5 (by simp)).out i3 (gX (by omega))
 have cX:=(t2.out o5 (by simp)).out i3 (gX (by omega))
 have l4:ld (.ptr H.next 4) H6=some (.int .i64 (n:Nat)):=cE.ld rfl
 obtain⟨H7,u1,u2,u3,u4⟩:=qZ cX (by decide) (o:=4) (v := .int .i64 (n:Nat)) (by simp) rfl
 have u2':Cs H7 H2.next (ec n) 130 0:=u2
 have e1:=Jo (i2.out u3 (gX (by omega))) (by simp)
 have x1:af 8 (.ptr H2.next 0) H7=some (.agg (ec n)):=u2'.af (n:=8) (o:=0) (by simp[ec])
 obtain⟨H8,v1,v2,v3,v4⟩:=jf (n:=8) (cV.out u3 (gX (by omega))) (by decide) (wx n) rfl rfl (Io n)
 have x2:af 8 (.ptr H1.next 0) H8=some (.agg (ec n)):=v2.af (n:=8) (o:=0) (by simp[ec])
 have q5:(si H4 [78]).next=H4.next+1:=rfl
 refine⟨H8,aiu ?_,(((((((b3.trans n3).trans m3).then t3 fun j hj => ?_).trans o5).then i3 fun j hj => ?_).then u3 fun j hj => ?_).then v3 fun j hj => ?_)⟩
 ·unfold RU
  simp only[b1,n1,l0,f1,m1,t1,ua,aj,ak,simprocAttr]
  rw[abw]
  simp only[Kk,sJ,l4,u1,aj,ak,simprocAttr]
  rw[abw]
  simp only[Kk,e1,x1,v1,x2,aj,ak,simprocAttr]
 all_goals rw[wc] at hj;exact .inr (by omega)
theorem afH (a b c d e:Int)(f g h:List Nat)(a' b' c' d' e':Int)(f' g' h':List Nat)(H:Hp):ja P 50 130 (.agg [.int .i64 a,.int .i64 b,.int .i64 c,.int .i64 d,.int .i64 e,.str f,.str g,.str h]) (.agg [.int .i64 a',.int .i64 b',.int .i64 c',.int .i64 d',.int .i64 e',.str f',.str g',.str h']) H=wJ (fun z:Bool=>some z) [a==a',b==b',c==c',d==d',e==e',f==f',g==g',h==h']:=by kernel_rfl
theorem adV:Program.eqGuardType P P.depth 130=false:=by kernel_rfl
theorem eq9 (n:Nat)(H:Hp):gA P .eql 130 false (.agg (ec n)) (.agg (ec n))=true/\kG P .eql 130 (.agg (ec n)) (.agg (ec n)) H=some (.bool true):=by
 constructor
 ·show (!(Program.eqGuardType P P.depth 130))=true
  rw[adV];rfl
 ·show (ja P 50 130 (.agg (ec n)) (.agg (ec n)) H).map (fun b=>AV.bool b)=_
  have h:ja P 50 130 (.agg (ec n)) (.agg (ec n)) H=_:=afH 9 0 0 0 n [] [] [] 9 0 0 0 n [] [] [] H
  rw[h]
  simp[wJ]
theorem Sl {n:Nat}(h1:1<=n)(h2:n<=1048575)(H:Hp):∃ H',cK (.func (.func 82) [] []) [.agg (ec n)] H=some (.bool true,H')/\Out [] H H':=by
 obtain⟨H1,b1,b2,b3,b4⟩:=jP H 130 (.agg (ec n)) (ec n) (wx n) (by simp[ec])
 have l0:ld (.ptr H.next 0) H1=some (.int .i64 9):=b2.ld rfl
 have x1:af 8 (.ptr H.next 0) H1=some (.agg (ec n)):=b2.af (n:=8) (o:=0) (by simp[ec])
 obtain⟨H2,o1,o2⟩:=aow n H1
 have c2:=b2.out o2 (by simp)
 have x2:af 8 (.ptr H.next 0) H2=some (.agg (ec n)):=c2.af (n:=8) (o:=0) (by simp[ec])
 obtain⟨q1,q2⟩:=eq9 n H2
 have hs:same (.agg (ec n)) (.agg (ec n))=true:=by simp[same,ec,wG,mO]
 have ua:sd P 9 (.str [78]) H2=some (.ptr H2.next 0,si H2 [78]):=Ld Tryz.underlying9 _ H2
 have o3:=JW H2 [78]
 have s3:=I2 H2 [78]
 obtain⟨H4,i1,i2,i3,i4⟩:=KF s3 (b:=78) rfl (by decide)
 have sJ:pW (.ptr H2.next 0) true (si H2 [78])=some (.tuple [.bool true,.int .i64 0,.int .i32 78],H4):=i1
 have asx:=c2.1
 have c4:=(c2.out o3 (by simp)).out i3 (gX (by omega))
 have x4:af 8 (.ptr H.next 0) H4=some (.agg (ec n)):=c4.af (n:=8) (o:=0) (by simp[ec])
 obtain⟨H5,g1,g2⟩:=ad6 h1 h2 H4
 have g3:cK (.func (.func 133) [] [.ptr H.next 0]) [.int .i32 78] H4=some (.bool false,H5):=by
  refine ajZ ?_
  unfold WL
  simp only[x4,g1,aj,ak,simprocAttr]
 have bt:(false==true)=false:=rfl
 have sn:(([78]:List Nat)==[])=false:=rfl
 have e1:=Jo (i2.out g2 (by simp)) (by simp)
 have a1:cK (.func (.func 236) [] []) [.str [78],.func (.func 133) [] [.ptr H.next 0],.bool true] H2=some (.int .i64 (-1),H5):=by
  refine alr ?_
  unfold Xq
  simp only[ua,aj,ak,simprocAttr]
  rw[XS]
  simp only[Nz,sJ,g3,bt,aj,ak,simprocAttr]
  rw[XS]
  simp only[Nz,e1,aj,ak,simprocAttr]
 have a2:cK (.func (.func 184) [] []) [.str [78],.func (.func 133) [] [.ptr H.next 0]] H2=some (.int .i64 (-1),H5):=by
  refine acQ ?_
  unfold aaF
  simp only[a1,aj,ak,simprocAttr]
 have a3:cK (.func (.func 132) [] []) [.str [78],.func (.func 133) [] [.ptr H.next 0]] H2=some (.bool false,H5):=by
  refine aoA ?_
  unfold aa4
  simp only[a2,aj,ak,simprocAttr]
 refine⟨H5,ajR ?_,(((b3.trans o2).trans o3).then i3 fun j hj => ?_).trans g2⟩
 ·unfold Yz
  simp only[b1,l0,Ql,sn,x1,o1,x2,q1,YH,q2,jo hs,a3,aj,ak,simprocAttr]
 ·rw[wc] at hj;exact .inr (by have:=o2.1;omega)
theorem ahf {n:Nat}(h1:1<=n)(h2:n<128)(H:Hp):∃ x H',cK (.func (.func 208) [] []) [.agg (ec n)] H=some (x,H')/\Ow H' 5 1 x (bs [9,n])/\Out [] H H'/\∀ j∈aa x,H.next<=j:=by
 obtain⟨H1,b1,b2,b3,b4⟩:=jP H 130 (.agg (ec n)) (ec n) (wx n) (by simp[ec])
 have x1:af 8 (.ptr H.next 0) H1=some (.agg (ec n)):=b2.af (n:=8) (o:=0) (by simp[ec])
 obtain⟨H2,g1,g2⟩:=Sl h1 (by omega) H1
 obtain⟨H3,n1,n2,n3,n4⟩:=eJ H2 [.ae] 282 0 (by simp)
 have c3:=(b2.out g2 (by simp)).out n3 (by simp)
 have l0:ld (.ptr H.next 0) H3=some (.int .i64 9):=c3.ld rfl
 have w9:IntKind.wrap .u64 9=9:=rfl
 have ob:Ob H3 H2.next .ae []:=⟨⟨_,n2⟩,.nil,fun q=>by cases q⟩
 obtain⟨x4,H4,u1,u2,u3,u4⟩:=Np ob (v:=9) (by decide) (by simp)
 have Gx:cK (.func (.func 202) [] []) [.ptr H2.next 0,.int .u64 9] H3=some (.tuple [],H4):=u1
 have hE:H.next∉H2.next::aa .ae:=gX (by have:=b2.1;have:=g2.1;omega)
 have c4:=c3.out u3 hE
 have HM:ld (.ptr H.next 0) H4=some (.int .i64 9):=c4.ld rfl
 have ua:sd P 9 (.str [78]) H4=some (.ptr H4.next 0,si H4 [78]):=Ld Tryz.underlying9 _ H4
 have o5:=JW H4 [78]
 have s5:=I2 H4 [78]
 obtain⟨H6,i1,i2,i3,i4⟩:=KF s5 (b:=78) rfl (by decide)
 have sJ:pW (.ptr H4.next 0) true (si H4 [78])=some (.tuple [.bool true,.int .i64 0,.int .i32 78],H6):=i1
 have arZ:=c4.1
 have c6:=(c4.out o5 (by simp)).out i3 (gX (by omega))
 have l4:ld (.ptr H.next 4) H6=some (.int .i64 (n:Nat)):=c6.ld rfl
 have w4:IntKind.wrap .u64 ((n:Nat):Int)=((n:Nat):Int):=qw rfl (by show n<18446744073709551616;omega)
 have Di:=u2.r.rw.lt
 have asa:=u2.h.lt
 have ob6:=(u2.out o5 (by simp) (fun j _ q=>by cases q)).out i3 (gX (by omega)) (fun j hj=>gX (by have:=Di j hj;omega))
 obtain⟨x7,H7,v1,v2,v3,v4⟩:=Np ob6 (v:=n) h2 (by simp)
 have hit:H4.next∉H2.next::aa x4:=fun q=>by
  rcases yL.1 q with q | q
  ·omega
  ·have:=Di _ q;omega
 have e1:=Jo (i2.out v3 hit) (by simp)
 have l7:=v2.h.ld (o:=0) rfl
 have a2:=b3.1
 have a3:=g2.1
 have a5:=o5.1
 have W1:∀ j∈aa x4,H3.next<=j:=fun j hj=>(u4 j hj).elim (fun q=>by cases q) id
 refine⟨x7,H7,ajc ?_,v2.r,(((((b3.trans g2).trans n3).then u3 fun j hj => ?_).trans o5).then i3 fun j hj => ?_).then v3 fun j hj => ?_,fun j hj => ?_⟩
 ·unfold Tu
  simp only[b1,x1,g1,n1,l0,w9,Gx,HM,Ql,ua,aj,ak,simprocAttr]
  rw[UG]
  simp only[Ml,sJ,l4,w4,v1,aj,ak,simprocAttr]
  rw[UG]
  simp only[Ml,e1,l7,aj,ak,simprocAttr]
 ·rcases yL.1 hj with rfl | hj
  ·exact .inr (by omega)
  ·cases hj
 ·rw[wc] at hj;have:=u3.1;exact .inr (by omega)
 ·rcases yL.1 hj with rfl | hj
  ·exact .inr (by omega)
  ·have:=W1 j hj;exact .inr (by omega)
 ·rcases v4 j hj with q | q
  ·have:=W1 j q;omega
  ·have:=u3.1;omega
theorem anw {n:Nat}{y:AV}{H:Hp}(h1:1<=n)(h2:n<128)(hy:Rw H 1 y (bs [9,n])):∃ H',cK (.func (.func 49) [] []) [y] H=some (.tuple [.agg (ec n),.int .i64 0],H')/\Out [] H H':=by
 obtain⟨H1,b1,b2,b3,b4⟩:=eJ H zE 130 0 (by simp)
 obtain⟨z,H2,k1,k2,k3,k4⟩:=PL (hy.out b3 fun j _ q=>by cases q) (by simp)
 have f1:fl [.ae,(.bool false)] [(0,1,z)]=some [z,.bool false]:=by
  have:=k2.Br
  simp(disch:=first|exact zqz|fail)only[WW,List.set_cons_zero,this]<;>rfl
 obtain⟨H3,n1,n2,n3,n4⟩:=eJ H2 [.ae,.bool false] 158 0 (by simp)
 have Cb:=k2.rw.lt
 have JE:∀ j∈aa z,j∉[H2.next]:=fun j hj=>gX (by have:=Cb j hj;omega)
 obtain⟨H4,t1,t2,t3,t4⟩:=jf (n:=2) (v := .agg [z,.bool false]) (cs:=[z,.bool false]) n2 (by decide) rfl rfl rfl (fun v hv=>by
  simp only[yL,aeB,or_false] at hv
  rcases hv with rfl | rfl
  ·exact k2.Br
  ·rfl)
 have r4:=(k2.rw.out n3 fun j _ q=>by cases q).out t3 JE
 have hnz:H2.next∉aa z:=fun q=>by have:=Cb _ q;omega
 obtain⟨z5,H5,u1,u2,u3,u4,u5⟩:=aky (m:=9) ⟨_,t2⟩ r4 hnz (by decide) (by decide) (by decide)
 have Gx:cK (.func (.func 79) [] []) [.ptr H2.next 0,.int .u64 9] H4=some (.int .i64 9,H5):=u1
 have f2:fl zE [(0,1,.int .i64 9)]=some kE:=rfl
 obtain⟨H6,m1,m2,m3,m4⟩:=eJ H5 zE 130 0 (by simp)
 obtain⟨H7,v1,v2,v3,v4⟩:=jf (n:=8) (v := .agg kE) (cs:=kE) m2 (by decide) rfl rfl rfl U2
 have l0:ld (.ptr H5.next 0) H7=some (.int .i64 9):=v2.ld rfl
 have ua:sd P 9 (.str [78]) H7=some (.ptr H7.next 0,si H7 [78]):=Ld Tryz.underlying9 _ H7
 have o8:=JW H7 [78]
 have s8:=I2 H7 [78]
 obtain⟨H9,i1,i2,i3,i4⟩:=KF s8 (b:=78) rfl (by decide)
 have sJ:pW (.ptr H7.next 0) true (si H7 [78])=some (.tuple [.bool true,.int .i64 0,.int .i32 78],H9):=i1
 have q8:(si H7 [78]).next=H7.next+1:=rfl
 have a1:=b3.1
 have a2:=k3.1
 have a3:=u4.1
 have KX:∀ j∈aa z5,j<H2.next:=fun j hj=>Cb j (u5 j hj)
 have d9:C0 H9 H2.next [z5,.bool false]:=(((u2.out m3 (by simp)).out v3 (gX (by omega))).out o8 (by simp)).out i3 (gX (by omega))
 have r9:Rw H9 1 z5 (bs [n]):=(((u3.out m3 fun j _ q=>by cases q).out v3 fun j hj=>gX (by have:=KX j hj;omega)).out o8 fun j _ q=>by cases q).out i3 fun j hj=>gX (by have:=KX j hj;omega)
 obtain⟨z6,lE,w1,w2,w3,w4,w5⟩:=Vb d9 r9 (fun q=>by have:=KX _ q;omega) h1 h2
 have hm:eP P .min #[125,125] [.int .u64 (n:Nat),.int .u64 1099511627777] lE=some (.int .u64 (n:Nat),lE):=by rw[Ga,if_neg (by omega)]
 have w10:IntKind.wrap .i64 ((n:Nat):Int)=((n:Nat):Int):=wrap_i64 (by omega) (by omega)
 have cX:=((v2.out o8 (by simp)).out i3 (gX (by omega))).out w4 (gX (by omega))
 obtain⟨nP,x1,x2,x3,x4⟩:=qZ cX (by decide) (o:=4) (v := .int .i64 (n:Nat)) (by simp) rfl
 have YJ:Cs nP H5.next (ec n) 130 0:=x2
 have e1:=Jo ((i2.out w4 (gX (by omega))).out x3 (gX (by omega))) (by simp)
 have d11:C0 nP H2.next [z6,.bool false]:=w2.out x3 (gX (by omega))
 have r11:Rw nP 1 z6 (bs []):=w3.out x3 fun j hj=>gX (by have:=KX j (w5 j hj);omega)
 have e2:=ahM d11 r11
 have y1:af 8 (.ptr H5.next 0) nP=some (.agg (ec n)):=YJ.af (n:=8) (o:=0) (by simp[ec])
 obtain⟨AA,g1,g2⟩:=Sl h1 (by omega) nP
 have y2:af 8 (.ptr H5.next 0) AA=some (.agg (ec n)):=(YJ.out g2 (by simp)).af (n:=8) (o:=0) (by simp[ec])
 have w4n:=w4.1
 have cR:=((((((((b2.out k3 (by simp)).out n3 (by simp)).out t3 (gX (by omega))).out u4 (gX (by omega))).out m3 (by simp)).out v3 (gX (by omega))).out o8 (by simp)).out i3 (gX (by omega)))
 have cR2:=((cR.out w4 (gX (by omega))).out x3 (gX (by omega))).out g2 (by simp)
 obtain⟨pM,p1,p2,p3,p4⟩:=jf (n:=8) cR2 (by decide) (wx n) rfl rfl (Io n)
 have y3:af 8 (.ptr H.next 0) pM=some (.agg (ec n)):=p2.af (n:=8) (o:=0) (by simp[ec])
 refine⟨pM,amZ ?_,(((((((((((((b3.trans k3).trans n3).then t3 fun j hj => ?_).then u4 fun j hj => ?_).trans m3).then v3 fun j hj => ?_).trans o8).then i3 fun j hj => ?_).then w4 fun j hj => ?_).then x3 fun j hj => ?_).trans g2).then p3 fun j hj => ?_))⟩
 ·unfold NG
  simp only[b1,k1,f1,n1,t1,Gx,f2,m1,v1,l0,Ql,ua,aj,ak,simprocAttr]
  rw[aaj]
  simp only[IQ,sJ,w1,hm,w10,x1,aj,ak,simprocAttr]
  rw[aaj]
  simp only[IQ,e1,e2,y1,g1,y2,p1,y3,aj,ak,simprocAttr]
 all_goals rw[wc] at hj;exact .inr (by omega)
theorem ago {n:Nat}(h1:1<=n)(h2:n<=1048575)(p:Nat)(H:Hp):∃ H',cK (.func (.func 193) [] []) [.ptr p 0,.agg (ec n)] H=some (.int .i64 0,H')/\Out [] H H':=by
 obtain⟨H1,b1,b2,b3,b4⟩:=jP H 130 (.agg (ec n)) (ec n) (wx n) (by simp[ec])
 have x1:af 8 (.ptr H.next 0) H1=some (.agg (ec n)):=b2.af (n:=8) (o:=0) (by simp[ec])
 obtain⟨H2,g1,g2⟩:=Sl h1 h2 H1
 have l0:ld (.ptr H.next 0) H2=some (.int .i64 9):=(b2.out g2 (by simp)).ld rfl
 refine⟨H2,afc ?_,b3.trans g2⟩
 unfold MS
 simp only[b1,x1,g1,l0,aj,ak,simprocAttr]
theorem W0 {es:List Nat}{x:AV}{p:Nat}(tu:es.length<=1000000)(dC:∀ n∈es,1<=n/\n<=1048575):∀ (m i:Nat) (H:Hp),es.length=i+m->RL H 8 x (es.map ec)->
  ∃ H',(∀ k:K.Fn 1,Ip JN GO cK k (.ptr p 0) x (.int .i64 (es.length:Nat)) (.int .i64 (i:Nat)) H=k (.ptr p 0) H')/\Out [] H H'
 | 0,i,H,hm,hx=>by
  have d:decide (((i:Nat):Int)<((es.length:Nat):Int))=false:=decide_eq_false (by omega)
  refine⟨H,fun k => ?_,Out.refl _ _⟩
  rw[ZJ]
  simp only[SV,d,aj,ak,simprocAttr]
 | m+1,i,H,hm,hx=>by
  have d:decide (((i:Nat):Int)<((es.length:Nat):Int))=true:=decide_eq_true (by omega)
  obtain⟨n,hn⟩:∃ n,es[i]? = some n:=⟨_,aax (by omega)⟩
  obtain⟨b,o,z1,z2,z3,z4,z5⟩:=hx.at (by decide) (show (es.map ec)[i]? = some (ec n) by rw[adh,hn];rfl)
  have uH:=z1 .i64
  have z6:af 8 (.ptr b o) H=some (.agg (ec n)):=AQ z4
  obtain⟨H1,n1,n2,n3,n4⟩:=eJ H zE 130 0 (by simp)
  obtain⟨H2,t1,t2,t3,t4⟩:=jf (n:=8) n2 (by decide) (wx n) rfl rfl (Io n)
  have y1:af 8 (.ptr H.next 0) H2=some (.agg (ec n)):=t2.af (n:=8) (o:=0) (by simp[ec])
  obtain⟨q1,q2⟩:=dC n (acx hn)
  obtain⟨H3,a1,a2⟩:=ago q1 q2 p H2
  have o3:Out [] H H3:=(n3.then t3 fun j hj=>by rw[wc] at hj;exact .inr (by omega)).trans a2
  obtain⟨H4,r1,r2⟩:=W0 tu dC m (i+1) H3 (by omega) (hx.eR o3)
  have hl:i+1<=es.length:=by omega
  have w:IntKind.wrap .i64 (((i:Nat):Int)+1)=((i+1:Nat):Int):=by rw[wrap_i64 (by omega) (by omega)];omega
  refine⟨H4,fun k => ?_,o3.trans r2⟩
  rw[ZJ]
  simp only[SV,d,uH,z6,n1,t1,y1,a1,w,aj,ak,simprocAttr]
  exact r1 k
theorem amQ {es:List Nat}{x:AV}{H:Hp}(tu:es.length<=1000000)(dC:∀ n∈es,1<=n/\n<=1048575)(hx:RL H 8 x (es.map ec)):∃ p H',cK (.func (.func 206) [] []) [x] H=some (.ptr p 0,H')/\Out [] H H':=by
 obtain⟨p,H1,f1,f2⟩:=age H
 have hlen:=hx.len (by decide)
 rw[adg] at hlen
 obtain⟨H2,r1,r2⟩:=W0 (p:=p) tu dC es.length 0 H1 (by omega) (hx.eR f2)
 refine⟨p,H2,aou ?_,f2.trans r2⟩
 unfold Wp
 simp only[f1,hlen,aj,ak,simprocAttr]
 exact r1 _
theorem Pf {H:Hp}{x:AV}{b:cT}{r:List cT}(h:Rw H 1 x (strs (b::r))):∃ x',fT 1 x (some (.int .i64 1)) none none=some x'/\Rw H 1 x' (strs r)/\∀ j∈aa x',j∈aa x:=by
 obtain⟨x',h1,h2,h3⟩:=Fg h (n:=r.length+1) (by rw[mM,adQ];rfl) (by decide) (a:=1) (b:=r.length+1) (by omega) (aar _) (Bd.yes _ _ _) (Bd.no _)
 refine⟨x',h1,?_,h3⟩
 have:((strs (b::r)).drop (1*1)).take ((r.length+1-1)*1)=strs r:=by
  rw[adQ,adQ]
  show (strs r).take _=strs r
  exact aea (by rw[mM];omega)
 rw[<-this]
 exact h2
theorem Qr {l:List cT}{x:AV}{H0:Hp}(hl:l.length<=1000):∀ (m i:Nat) (y:AV) (dn:List cT) (H:Hp),l.length=i+m->Rw H 1 x (strs l)->Ow H 9 1 y (strs dn)->dn.length<=i->Out [] H0 H->(∀ j∈aa y,H0.next<=j)->(∀ j∈aa y,j∉aa x)->
  ∃ y' H',(∀ k:K.Fn 1,GY JN GO cK k y x (.int .i64 (l.length:Nat)) (.int .i64 (i:Nat)) H=k y' H')/\Ow H' 9 1 y' (strs (dn++(l.drop i).filter fun s => !(s==[])))/\Out [] H0 H'/\∀ j∈aa y',H0.next<=j
 | 0,i,y,dn,H,hm,hx,hy,hd,ho,h1,h2=>by
  have d:decide (((i:Nat):Int)<((l.length:Nat):Int))=false:=decide_eq_false (by omega)
  refine⟨y,H,fun k => ?_,by rw[afn (by omega)];simpa using hy,ho,h1⟩
  rw[TC]
  simp only[IC,d,aj,ak,simprocAttr]
 | m+1,i,y,dn,H,hm,hx,hy,hd,ho,h1,h2=>by
  have d:decide (((i:Nat):Int)<((l.length:Nat):Int))=true:=decide_eq_true (by omega)
  have mC:i<l.length:=by omega
  obtain⟨s,hs⟩:∃ s,l[i]? = some s:=⟨_,aax mC⟩
  obtain⟨q,q1,q2⟩:=hx.lA (zM hs) .i64
  have w:IntKind.wrap .i64 (((i:Nat):Int)+1)=((i+1:Nat):Int):=by rw[wrap_i64 (by omega) (by omega)];omega
  have sM:l.drop i=s::l.drop (i+1):=by
   rw[agE mC]
   rw[aax mC] at hs
   cases hs;rfl
  cases he:(s==[]) with
  | true=>
   obtain⟨y',H',r1,r2,r3,r4⟩:=Qr hl m (i+1) y dn H (by omega) hx hy (by omega) ho h1 h2
   refine⟨y',H',fun k => ?_,?_,r3,r4⟩
   ·rw[TC]
    simp only[IC,d,q1,q2,he,w,aj,ak,simprocAttr]
    exact r1 k
   ·rw[sM,List.filter_cons,he];simpa using r2
  | false=>
   have f1:fl [(.str [])] [(0,1,.str s)]=some [.str s]:=rfl
   obtain⟨H1,n1,n2,n3,n4⟩:=eJ H [.str s] 9 0 (by simp)
   have D3:∀ v∈[AV.str s],db v=true:=fun v hv=>by rw[wc] at hv;subst hv;rfl
   have jC:Rw H1 1 (.slice H.next 0 1 1 true 1) [.str s]:=(n2.ow (el:=9) (es:=1) (n:=1) (by decide) rfl D3 true).rw
   have xj:=hx.lt
   obtain⟨y1,H2,a1,a2,a3,a4⟩:=wU (z:=[.str []]) (hy.out n3 fun j _ q=>by cases q) jC D3 (by decide) (by rw[mM];simp;omega)
   have F5:=ho.trans n3
   have vl:Out [] H0 H2:=F5.then a3 fun j hj => .inr (h1 j hj)
   have qm:=(hx.out n3 fun j _ q=>by cases q).out a3 fun j hj q=>h2 j q hj
   obtain⟨y',H',r1,r2,r3,r4⟩:=Qr hl m (i+1) y1 (dn++[s]) H2 (by omega) qm (by rw[IN];exact a2) (by simp;omega) vl (fun j hj=>(a4 j hj).elim (h1 j) fun q=>abS F5.1 q) (fun j hj q=>(a4 j hj).elim (fun z=>h2 j z q) fun z=>by have:=xj j q;omega)
   refine⟨y',H',fun k => ?_,?_,r3,r4⟩
   ·rw[TC]
    simp only[IC,d,q1,q2,he,f1,n1,a1,w,aj,ak,simprocAttr]
    exact r1 k
   ·rw[sM,List.filter_cons,he]
    have:=r2
    rw[adY] at this
    simpa using this
theorem UP {s:cT}(hs:s.length<=900)(H:Hp):∃ y H',cK (.func (.func 11) [] []) [.str s] H=some (y,H')/\Rw H' 1 y (strs ((iE 32 s).filter fun s => !(s==[])))/\Out [] H H'/\∀ j∈aa y,H.next<=j:=by
 obtain⟨x,H1,x1,x2,x3,x4⟩:=XL (c:=32) (by decide) (s:=s) (by omega) H
 have Bq:(iE 32 s).length<=1000:=by rw[Fy];have:=SR 32 s;omega
 have hlen:cJ x=some (.int .i64 ((iE 32 s).length:Nat)):=by rw[x2.gV,mM]
 obtain⟨y,H2,r1,r2,r3,r4⟩:=Qr Bq (iE 32 s).length 0 .ae [] H1 (by omega) x2 .nil (aar _) x3 (fun j hj=>by cases hj) (fun j hj=>by cases hj)
 refine⟨y,H2,aek ?_,by simpa using r2.rw,r3,r4⟩
 unfold UF
 simp only[x1,hlen,aj,ak,simprocAttr]
 exact r1 _
theorem Ai {H:Hp}{i c:Nat}{es:List ME}{k:List Nat}(h:Mp H i es c)(hk:fk .str (.str k) es 0=some none)(v:AV):∃ H',kb .str (.map i) (.str k) v H=some H'/\Mp H' i (es++[⟨.str k,v,c⟩]) (c+1)/\Out [i] H H':=by
 refine⟨_,?_,h.set _ _⟩
 unfold kb
 simp only[h.2,hk]
theorem aoU {H:Hp}{i c j:Nat}{es:List ME}{k:List Nat}{m:ME}(h:Mp H i es c)(hk:fk .str (.str k) es 0=some (some (j,m)))(z:AV):mU .str z true (.map i) (.str k) H=some (.tuple [m.val,.bool true]):=by
 unfold mU
 simp only[MC h,hk,cond_true]
def lc (w:Int):List AV:=[.int .i64 8,.int .i64 w,.int .i64 0,.int .i64 0,.int .i64 0,.int .i64 0,.int .i64 0,.int .i64 0,.int .i64 0,.str [],.str [],.str [],.ae,.str []]
def mH:cT:=[114,101,103,105,115,116,101,114]
def rP:cT:=[108,101,97,100]
def nN:List AV:=[.int .i64 0,.int .i64 0,.int .i64 0,.int .i64 0,.int .i64 0,.int .i64 0,.int .i64 0,.int .i64 0,.int .i64 0,.str [],.str [],.str [],.ae,.str mH]
abbrev zL:List AV:=[(.int .i64 0),(.int .i64 0),(.int .i64 0),(.int .i64 0),(.int .i64 0),(.int .i64 0),(.int .i64 0),(.int .i64 0),(.int .i64 0),(.str []),(.str []),(.str []),.ae,(.str [])]
theorem Mn (w:Int):∀ v∈lc w,db v=true:=ac6.1 (show (lc w).all db=true from rfl)
theorem To:∀ v∈nN,db v=true:=ac6.1 (show nN.all db=true from rfl)
theorem aiv {d:Nat}{x:AV}{r:List cT}{H:Hp}(hd:d=48\/d=49)(hx:Rw H 1 x (strs ([d]::r))):cK (.func (.func 20) [] []) [x] H=some (.tuple [.int .i64 ((d-48:Nat):Int),.bool true],H):=by
 have hlen:cJ x=some (.int .i64 ((r.length+1:Nat):Int)):=by rw[hx.gV,mM];rfl
 have d0:(((r.length+1:Nat):Int)==0)=false:=by rw[beq_eq_false_iff_ne];omega
 obtain⟨q,q1,q2⟩:=hx.lA (i:=0) (v := .str [d]) rfl .i64
 have uR:ia 1 x (.int .i64 0)=some q:=q1
 have hi:td (.str [d]) (.int .i64 0)=some (.int .u8 (d:Nat)):=N8 _ rfl
 refine aeG ?_
 unfold Tw
 rcases hd with rfl | rfl
 ·have s1:(([48]:List Nat)==[48])=true:=rfl
  have t1:jI (.int .u8 ((48:Nat):Int)) (.int .u8 48)=some (.int .u8 0):=rfl
  have t2:IntKind.wrap .i64 0=0:=rfl
  simp only[hlen,d0,uR,q2,s1,hi,t1,t2,aj,ak,simprocAttr]
  rfl
 ·have s1:(([49]:List Nat)==[48])=false:=rfl
  have s2:(([49]:List Nat)==[49])=true:=rfl
  have t1:jI (.int .u8 ((49:Nat):Int)) (.int .u8 48)=some (.int .u8 1):=rfl
  have t2:IntKind.wrap .i64 1=1:=rfl
  simp only[hlen,d0,uR,q2,s1,s2,hi,t1,t2,aj,ak,simprocAttr]
  rfl
theorem aaP {d:Nat}{x:AV}{H:Hp}(hd:d=48\/d=49)(hx:Rw H 1 x (strs [rP,[d]])):∃ H',cK (.func (.func 12) [] []) [x] H=some (.tuple [.agg (lc ((d-48:Nat):Int)),.bool true],H')/\Out [] H H':=by
 obtain⟨H1,n1,n2,n3,n4⟩:=eJ H zL 41 0 (by simp)
 have qd:=hx.out n3 fun j _ q=>by cases q
 obtain⟨q,q1,q2⟩:=qd.lA (i:=0) (v := .str rP) rfl .i64
 have uR:ia 1 x (.int .i64 0)=some q:=q1
 obtain⟨x1,s1,s2,s3⟩:=Pf qd
 have b1:(rP==[116,111,108,100])=false:=rfl
 have b2:(rP==[104,105,115,116,111,114,121])=false:=rfl
 have b3:(rP==[114,101,103,105,115,116,101,114])=false:=rfl
 have b4:(rP==[104,101,97,114])=false:=rfl
 have b5:(rP==[108,111,115,101])=false:=rfl
 have b6:(rP==[116,119,105,99,101])=false:=rfl
 have b7:(rP==[97,115,107])=false:=rfl
 have b8:(rP==[100,111,119,110])=false:=rfl
 have b9:(rP==[102,117,115,101])=false:=rfl
 obtain⟨H2,m1,m2,m3,m4⟩:=Mj H1
 obtain⟨H3,u1,v1,w1⟩:=Ai m2 (k:=[97,115,107]) rfl (.int .i64 0)
 obtain⟨H4,u2,v2,w2⟩:=Ai v1 (k:=[115,97,121]) rfl (.int .i64 1)
 obtain⟨H5,u3,v3,w3⟩:=Ai v2 (k:=[100,111,119,110]) rfl (.int .i64 5)
 obtain⟨H6,u4,v4,w4⟩:=Ai v3 (k:=[117,112]) rfl (.int .i64 6)
 obtain⟨H7,u5,v5,w5⟩:=Ai v4 (k:=[102,117,115,101]) rfl (.int .i64 7)
 obtain⟨H8,u6,v6,w6⟩:=Ai v5 (k:=[108,101,97,100]) rfl (.int .i64 8)
 obtain⟨H9,u7,v7,w7⟩:=Ai v6 (k:=[97,108,111,110,101]) rfl (.int .i64 9)
 obtain⟨lE,u8,v8,w8⟩:=Ai v7 (k:=[98,111,116,104]) rfl (.int .i64 10)
 have hl:=aoU v8 (k:=rP) rfl (.int .i64 0)
 have oM:Out [H1.next] H2 lE:=((((((w1.trans w2).trans w3).trans w4).trans w5).trans w6).trans w7).trans w8
 have OC:=s2.lt
 have EA:=(s2.out m3 fun j _ q=>by cases q).out oM fun j hj=>gX (by have:=OC j hj;omega)
 have hw:=aiv hd EA
 obtain⟨q',q3,q4⟩:=EA.lA (i:=0) (v := .str [d]) rfl .i64
 obtain⟨x2,s4,s5,s6⟩:=Pf EA
 have l2:cJ x2=some (.int .i64 0):=s5.gV
 have f1:fl [(.int .i64 0),(.int .i64 0),(.int .i64 0),(.int .i64 0),(.int .i64 0),(.int .i64 0),(.int .i64 0),(.int .i64 0),(.int .i64 0),(.str []),(.str []),(.str []),.ae] [(0,1,.int .i64 8),(1,1,.int .i64 ((d-48:Nat):Int))]=some [.int .i64 8,.int .i64 ((d-48:Nat):Int),.int .i64 0,.int .i64 0,.int .i64 0,.int .i64 0,.int .i64 0,.int .i64 0,.int .i64 0,.str [],.str [],.str [],.ae]:=rfl
 have f2:fl zL [(0,13,.agg [.int .i64 8,.int .i64 ((d-48:Nat):Int),.int .i64 0,.int .i64 0,.int .i64 0,.int .i64 0,.int .i64 0,.int .i64 0,.int .i64 0,.str [],.str [],.str [],.ae])]=some (lc ((d-48:Nat):Int)):=rfl
 obtain⟨nP,p1,p2,p3,p4⟩:=eJ lE zL 41 0 (by simp)
 obtain⟨AA,t1,t2,t3,t4⟩:=jf (n:=14) (v := .agg (lc ((d-48:Nat):Int))) p2 (by decide) rfl rfl rfl (Mn _)
 have y1:af 14 (.ptr lE.next 0) AA=some (.agg (lc ((d-48:Nat):Int))):=t2.af (n:=14) (o:=0) (by simp[lc])
 have oMn:=oM.1
 have c12:=(((n2.out m3 (by simp)).out oM (gX (by omega))).out p3 (by simp)).out t3 (gX (by omega))
 obtain⟨pM,z1,z2,z3,z4⟩:=jf (n:=14) (v := .agg (lc ((d-48:Nat):Int))) c12 (by decide) rfl rfl rfl (Mn _)
 have y2:af 14 (.ptr H.next 0) pM=some (.agg (lc ((d-48:Nat):Int))):=z2.af (n:=14) (o:=0) (by simp[lc])
 refine⟨pM,abh ?_,((((n3.trans m3).then oM fun j hj => ?_).trans p3).then t3 fun j hj => ?_).then z3 fun j hj => ?_⟩
 ·unfold Jz
  simp only[n1,uR,q2,s1,b1,b2,b3,b4,b5,b6,b7,b8,b9,m1,u1,u2,u3,u4,u5,u6,u7,u8,hl,hw,f1,f2,p1,t1,s4,l2,y1,z1,y2,aj,ak,simprocAttr]
 all_goals rw[wc] at hj;exact .inr (by omega)
theorem anp {x:AV}{H:Hp}(hx:Rw H 1 x (strs [mH])):∃ H',cK (.func (.func 12) [] []) [x] H=some (.tuple [.agg nN,.bool true],H')/\Out [] H H':=by
 obtain⟨H1,n1,n2,n3,n4⟩:=eJ H zL 41 0 (by simp)
 have qd:=hx.out n3 fun j _ q=>by cases q
 obtain⟨q,q1,q2⟩:=qd.lA (i:=0) (v := .str mH) rfl .i64
 have uR:ia 1 x (.int .i64 0)=some q:=q1
 obtain⟨x1,s1,s2,s3⟩:=Pf qd
 have b1:(mH==[116,111,108,100])=false:=rfl
 have b2:(mH==[104,105,115,116,111,114,121])=false:=rfl
 have b3:(mH==[114,101,103,105,115,116,101,114])=true:=rfl
 have l2:cJ x1=some (.int .i64 0):=s2.gV
 have f2:fl zL [(13,1,.str mH)]=some nN:=rfl
 obtain⟨pM,z1,z2,z3,z4⟩:=jf (n:=14) (v := .agg nN) n2 (by decide) rfl rfl rfl To
 have y2:af 14 (.ptr H.next 0) pM=some (.agg nN):=z2.af (n:=14) (o:=0) (by simp[nN])
 refine⟨pM,abh ?_,n3.then z3 fun j hj=>by rw[wc] at hj;exact .inr (by omega)⟩
 unfold Jz
 simp only[n1,uR,q2,s1,b1,b2,b3,l2,f2,z1,y2,aj,ak,simprocAttr]
end
open Sg kM nO jU iX
def has (m:SM)(n:List Nat):Prop:=n∈m.fs.map (·.nm)
theorem Fz {m:SM}{n:List Nat}(h:has m n):∃ f,iX.look m n=some f/\f.nm=n:=by
 obtain⟨f,hf,rfl⟩:=adj.1 h
 cases hl:iX.look m f.nm with
 | none=>
  have:=List.find?_eq_none.1 hl f hf
  simp at this
 | some g=>
  have:=List.find?_some hl
  exact⟨g,rfl,by simpa using this⟩
theorem IK {m:SM}{n:List Nat}(h:¬ has m n):iX.look m n=none:=by
 refine List.find?_eq_none.2 fun f hf => ?_
 have:f.nm≠n:=fun e=>h (adj.2 ⟨f,hf,e⟩)
 simpa using this
theorem Pc {m:SM}{n:List Nat}(ho:m.off=false)(hk:iV n=true)(h:has m n):dZ m n=0:=by
 obtain⟨f,hf,_⟩:=Fz h
 unfold dZ
 rw[ho,hk,hf];rfl
theorem Ya {m:SM}{n:List Nat}(ho:m.off=false)(hk:iV n=true)(h:¬ has m n):dZ m n=4:=by
 unfold dZ
 rw[ho,hk,IK h];rfl
theorem Zk {n:List Nat}{g:Fl}:∀ {fs:List Fl},n∉fs.map (·.nm)->ea n g fs=fs
 | [],_=>rfl
 | x::r,h=>by
  rw[ab8,yL,not_or] at h
  show (if x.nm=n then g else x)::ea n g r=_
  rw[if_neg (fun e=>h.1 e.symm),Zk h.2]
theorem K3 {n:List Nat}{g:Fl}(hg:g.nm=n):∀ fs:List Fl,(ea n g fs).map (·.nm)=fs.map (·.nm)
 | []=>rfl
 | x::r=>by
  show (if x.nm=n then g else x).nm::(ea n g r).map (·.nm)=_
  rw[K3 hg r]
  split
  ·rename_i e;rw[hg,<-e];rfl
  ·rfl
theorem IE {n:List Nat}{f g:Fl}:∀ {fs:List Fl},(fs.map (·.nm)).Nodup->fs.find? (fun f=>f.nm==n)=some f->dO (ea n g fs)+f.b.length=dO fs+g.b.length
 | [],_,h=>by cases h
 | x::r,hn,h=>by
  rw[ab8,acB] at hn
  have e:ea n g (x::r)=(if x.nm=n then g else x)::ea n g r:=rfl
  rw[e,List.find?_cons] at *
  by_cases hx:x.nm=n
  ·have hb:(x.nm==n)=true:=by simpa using hx
   rw[hb] at h
   cases h
   rw[if_pos hx,Zk (by rw[<-hx];exact hn.1),ub,ub]
   omega
  ·have hb:(x.nm==n)=false:=by simpa using hx
   rw[hb] at h
   have:=IE hn.2 h (g:=g)
   rw[if_neg hx,ub,ub]
   omega
structure sV (m:SM):Prop where
 off:m.off=false
 eC:m.eC=0
 room:m.room=65536
 nd:(m.fs.map (·.nm)).Nodup
theorem sV.MM {m:SM}(h:sV m):lQ m=true/\gy m=m:=⟨by unfold lQ;rw[h.eC];rfl,by unfold gy;rw[if_pos h.eC]⟩
theorem ajX {m:SM}{n:List Nat}(h:sV m)(hk:iV n=true)(hh:has m n):∃ m',rq m n=(0,m')/\sV m'/\m'.fs.map (·.nm)=m.fs.map (·.nm)/\dO m'.fs=dO m.fs:=by
 obtain⟨hB,hM⟩:=h.MM
 have hE:=Pc h.off hk hh
 obtain⟨f,hf,hn⟩:=Fz hh
 have hs:=IE h.nd hf (g:=⟨f.nm,f.b,f.b.length⟩)
 have hm:=K3 (n:=n) (g:=⟨f.nm,f.b,f.b.length⟩) hn m.fs
 unfold rq
 rw[if_neg (by rw[hE];decide),if_neg (by rw[hB];decide),hM,hf]
 refine⟨_,rfl,⟨h.off,h.eC,h.room,?_⟩,hm,by show dO (ea _ _ _)=_;simp only at hs;omega⟩
 show ((ea _ _ _).map _).Nodup
 rw[hm];exact h.nd
theorem SJ:∀ (ps:List (Int × Int)) {m:SM},sV m->(∀ q∈ps,iO q.1=true/\has m (dR q.1))->∃ m',rG ps m=(0,m')/\sV m'/\m'.fs.map (·.nm)=m.fs.map (·.nm)/\dO m'.fs=dO m.fs
 | [],m,h,_=>⟨m,rfl,h,rfl,rfl⟩
 | q::r,m,h,hq=>by
  obtain⟨q1,q2⟩:=hq q (.head _)
  unfold rG
  by_cases hs:(B4 m (dR q.1):Int)=q.2
  ·rw[if_pos hs]
   exact SJ r h fun z hz=>hq z (.tail _ hz)
  ·rw[if_neg hs]
   obtain⟨m1,s1,s2,s3,s4⟩:=ajX h (XM q1) q2
   rw[s1,if_pos rfl]
   obtain⟨m',t1,t2,t3,t4⟩:=SJ r s2 fun z hz=>⟨(hq z (.tail _ hz)).1,by unfold has;rw[s3];exact (hq z (.tail _ hz)).2⟩
   exact⟨m',t1,t2,t3.trans s3,t4.trans s4⟩
theorem YC {m:SM}{n b:List Nat}(h:sV m)(hk:iV n=true)(hr:dO m.fs+b.length<=65536)(hm:m.fs.length<64) :
  ∃ m',iA m n b=(0,m')/\sV m'/\m'.fs.map (·.nm)=(if n∈m.fs.map (·.nm) then m.fs.map (·.nm) else m.fs.map (·.nm)++[n])/\dO m'.fs=dO m.fs+b.length/\(n∉m.fs.map (·.nm)->m'.fs=m.fs++[⟨n,b,0⟩]):=by
 obtain⟨hB,hM⟩:=h.MM
 unfold iA
 by_cases hh:n∈m.fs.map (·.nm)
 ·have hE:=Pc h.off hk hh
  obtain⟨f,hf,hn⟩:=Fz hh
  have hs:=IE h.nd hf (g:=⟨f.nm,f.b++b,f.sure⟩)
  have As:=K3 (n:=n) (g:=⟨f.nm,f.b++b,f.sure⟩) hn m.fs
  rw[if_neg (by rw[hE];decide),if_neg (by rw[hf,h.room];simp;omega),if_neg (by rw[hB];decide),hM,hf,if_pos hh]
  refine⟨_,rfl,⟨h.off,h.eC,h.room,?_⟩,As,?_,fun q=>absurd hh q⟩
  ·show ((ea _ _ _).map _).Nodup
   rw[As];exact h.nd
  ·show dO (ea _ _ _)=_
   simp only[abz] at hs
   omega
 ·have hE:=Ya h.off hk hh
  have hl:=IK hh
  rw[if_neg (by rw[hE];decide),if_neg (by rw[hl,h.room];simp;omega),if_neg (by rw[hB];decide),hM,hl,if_neg hh]
  refine⟨_,rfl,⟨h.off,h.eC,h.room,?_⟩,by simp,by show dO (m.fs++[_])=_;rw[wD,ub];rfl,fun _=>rfl⟩
  show ((m.fs++[_]).map _).Nodup
  rw[acJ,acK]
  refine⟨h.nd,by simp,fun a ha c hc => ?_⟩
  rw[ab8,List.map_nil,wc] at hc
  exact fun e=>hh ((show a=n from e.trans hc)▸ha)
def jM:List Nat:=[111,117,114,115,45,110,101,119]
def fx:List Nat:=[111,117,114,115]
theorem RN:iV jM=true:=by kernel_rfl
theorem V7:iV fx=true:=by kernel_rfl
theorem aqS {a:Int}(h:iO a=true):∃ r,dR a=119::r:=by
 unfold dR
 rw[h]
 exact⟨_,rfl⟩
theorem amx {a:Int}(h:iO a=true):dR a≠jM/\dR a≠fx:=by
 obtain⟨r,hr⟩:=aqS h
 rw[hr]
 exact⟨fun e=>(by cases e),fun e=>(by cases e)⟩
theorem alo {n:List Nat}:∀ {fs:List Fl},n∉fs.map (·.nm)->kc n fs=fs:=fun {fs} h=>by
 unfold kc
 refine List.filter_eq_self.2 fun f hf => ?_
 have:f.nm≠n:=fun e=>h (adj.2 ⟨f,hf,e⟩)
 simpa using this
theorem aq3 {m:SM}(h:sV m){b:List Nat}(hb:b.length=1)(hf:jM∉m.fs.map (·.nm))(hr:dO m.fs+1<=65536)(hm:m.fs.length<64) :
  uw m jM=(4,m)/\∃ m1 m2,iA m jM b=(0,m1)/\sV m1/\pq m1 jM fx=(0,m2)/\sV m2/\jM∉m2.fs.map (·.nm)/\fx∈m2.fs.map (·.nm)/\(∀ n∈m.fs.map (·.nm),n∈m2.fs.map (·.nm))/\dO m2.fs<=dO m.fs+1/\m2.fs.length<=m.fs.length+(if fx∈m.fs.map (·.nm) then 0 else 1):=by
 have hE:=Ya h.off RN hf
 refine⟨by unfold uw;rw[if_pos (by rw[hE];decide),hE],?_⟩
 obtain⟨m1,a1,a2,a3,a4,a5⟩:=YC h RN (b:=b) (by omega) hm
 have e1:=a5 hf
 obtain⟨hB,hM⟩:=a2.MM
 have hh:has m1 jM:=by unfold has;rw[e1];simp
 have U0:=Pc a2.off RN hh
 obtain⟨f,f1,f2⟩:=Fz hh
 have hfb:f=⟨jM,b,0⟩:=by
  have:iX.look m1 jM=some ⟨jM,b,0⟩:=by
   unfold iX.look
   rw[e1,List.find?_append,show m.fs.find? (fun f=>f.nm==jM)=none from IK hf]
   simp
  rw[this] at f1
  exact (adz f1).symm
 have zj:kc jM m1.fs=m.fs:=by
  rw[e1]
  unfold kc
  rw[List.filter_append]
  have:=alo hf
  unfold kc at this
  rw[this]
  simp
 have Kp:pq m1 jM fx=(0,{ m1 with fs:=va ⟨fx,b,b.length⟩ m.fs }):=by
  unfold pq
  rw[if_neg (by rw[U0];decide),if_neg (by rw[V7];decide),if_neg (by rw[U0];decide),if_neg (by rw[hB];decide),f1,hM,zj,hfb]
 refine⟨m1,_,a1,a2,Kp,?_⟩
 by_cases hk:fx∈m.fs.map (·.nm)
 ·obtain⟨g,g1,g2⟩:=Fz (m:=m) hk
  have hp:va ⟨fx,b,b.length⟩ m.fs=ea fx ⟨fx,b,b.length⟩ m.fs:=by
   unfold va
   have:(m.fs.find? fun g=>g.nm==fx).isSome=true:=by
    show (iX.look m fx).isSome=true
    rw[g1];rfl
   rw[if_pos this]
  have hn:=K3 (n:=fx) (g:=⟨fx,b,b.length⟩) rfl m.fs
  have hs:=IE h.nd g1 (g:=⟨fx,b,b.length⟩)
  rw[hp]
  refine⟨⟨a2.off,a2.eC,a2.room,by show ((ea _ _ _).map _).Nodup;rw[hn];exact h.nd⟩,by show jM∉(ea _ _ _).map _;rw[hn];exact hf,by show fx∈(ea _ _ _).map _;rw[hn];exact hk,fun n vI=>by show n∈(ea _ _ _).map _;rw[hn];exact vI,?_,?_⟩
  ·show dO (ea _ _ _)<=_
   simp only at hs
   omega
  ·rw[if_pos hk]
   show (ea _ _ _).length<=_
   unfold ea
   rw[adg];omega
 ·have hp:va ⟨fx,b,b.length⟩ m.fs=m.fs++[⟨fx,b,b.length⟩]:=by
   unfold va
   have:(m.fs.find? fun g=>g.nm==fx)=none:=IK (m:=m) hk
   rw[this];rfl
  rw[hp]
  have qY:∀ n,n∈(m.fs++[(⟨fx,b,b.length⟩:Fl)]).map (·.nm)↔n∈m.fs.map (·.nm)\/n=fx:=fun n=>by rw[acJ,aal];simp
  refine⟨⟨a2.off,a2.eC,a2.room,?_⟩,fun q=>((qY _).1 q).elim hf (fun e=>(by cases e)),(qY _).2 (.inr rfl),fun n hn=>(qY _).2 (.inl hn),?_,by rw[if_neg hk];simp⟩
  ·show ((m.fs++[_]).map _).Nodup
   rw[acJ,acK]
   refine⟨h.nd,by simp,fun a ha c hc => ?_⟩
   rw[ab8,List.map_nil,wc] at hc
   exact fun e=>hk ((show a=fx from e.trans hc)▸ha)
  ·show dO (m.fs++[_])<=_
   rw[wD,ub]
   show dO m.fs+(b.length+0)<=_
   omega
def pC:Nat->List Nat->List (Nat × List Nat)
 | _,[]=>[]
 | k,e::r=>(e*17592186044416+k,[9,e])::pC (k+1) r
theorem D6:∀ (es:List Nat) (k:Nat),(pC k es).length=es.length
 | [],_=>rfl
 | e::r,k=>by rw[pC,abn,D6 r,abn]
theorem acq:∀ (es:List Nat) (k e:Nat),pC k (es++[e])=pC k es++[(e*17592186044416+(k+es.length),[9,e])]
 | [],k,e=>rfl
 | a::r,k,e=>by
  rw[ahd,pC,acq r,pC,ahd,abn]
  rw[show k+1+r.length=k+(r.length+1) by omega]
theorem N4:∀ (es:List Nat) (k j e:Nat),es[j]? = some e->(pC k es)[j]? = some (e*17592186044416+(k+j),[9,e])
 | [],k,j,e,h=>by simp at h
 | a::r,k,0,e,h=>by
  rw[nq] at h
  cases h
  rfl
 | a::r,k,j+1,e,h=>by
  rw[gk] at h
  rw[pC,gk,N4 r (k+1) j e h]
  rw[show k+1+j=k+(j+1) by omega]
theorem Q9 {es:List Nat}{k:Nat}{r:Nat × List Nat}(h:r∈pC k es):∃ j e,es[j]? = some e/\r=(e*17592186044416+(k+j),[9,e]):=by
 obtain⟨j,hj⟩:=List.mem_iff_getElem?.1 h
 have hl:=(abf.1 hj).1
 rw[D6] at hl
 obtain⟨e,he⟩:∃ e,es[j]? = some e:=⟨_,aax hl⟩
 have:=N4 es k j e he
 rw[hj] at this
 exact⟨j,e,he,adz this⟩
structure Nv (m:LM)(es:List Nat)(k:Nat):Prop where
 ei:m.ei=512
 ok:sV m.m
 cM:m.cM=pC 0 es
 first:m.first=0
 xR:∀ e∈es,1<=e/\e<=60
 up:∀ a b,es=a++b->∀ x∈a,∀ y∈b,x<=y
 len:es.length<=60
 sum:dO m.m.fs<=es.length*20+k
 Ii:jM∉m.m.fs.map (·.nm)
 Bw:∀ q∈m.parts,has m.m (dR q.1)
 files:m.m.fs.length<=m.parts.length+(if fx∈m.m.fs.map (·.nm) then 1 else 0)
 part:∀ q∈m.parts,(0<=q.1/\q.1<=60)/\0<=q.2/\q.2<=2000
 fill:(m.parts=[]/\es=[])\/(29*(m.parts.length-1)<es.length/\es.length<=29*m.parts.length/\(dS m).2=18*((es.length:Int)-29*((m.parts.length:Int)-1)))
theorem Nv.TM {m:LM}{es:List Nat}{k:Nat}(h:Nv m es k):m.parts.length<=3:=by
 have:=h.len
 rcases h.fill with⟨q,_⟩ | ⟨q,_⟩
 ·rw[q];simp
 ·omega
theorem Nv.iO {m:LM}{es:List Nat}{k:Nat}(h:Nv m es k):∀ q∈m.parts,iO q.1=true:=fun q hq=>O4 (h.part q hq).1.1 (by have:=(h.part q hq).1.2;omega)
theorem Nv.small {m:LM}{es:List Nat}{k:Nat}(h:Nv m es k):Small m where
 first:=by rw[h.first];omega
 cM:=by rw[h.cM,D6];have:=h.len;omega
 at':=fun r hr=>by
  rw[h.cM] at hr
  obtain⟨j,e,he,rfl⟩:=Q9 hr
  have:=h.xR e (acx he)
  have:=(abf.1 he).1
  have:=h.len
  show e*17592186044416+(0+j)<18446744073709551616
  omega
 parts:=by have:=h.TM;omega
 part:=fun q hq=>by have:=h.part q hq;omega
theorem Nv.gW {m:LM}{es:List Nat}{k:Nat}(h:Nv m es k):gW m=(es.length:Nat):=by
 unfold dg.gW
 rw[h.first,h.cM,D6];omega
theorem Nv.tK {m:LM}{es:List Nat}{k e:Nat}(h:Nv m es k)(he:∀ x∈es,x<=e):tK m<=(e:Nat):=by
 unfold dg.tK
 rw[h.cM]
 cases hl:(pC 0 es).getLast? with
 | none=>simp
 | some r=>
  obtain⟨j,x,hx,rfl⟩:=Q9 (List.mem_of_getLast? hl)
  have h1:=he x (acx hx)
  have h2:=(abf.1 hx).1
  have h3:=h.len
  have:(x*17592186044416+(0+j)) / 17592186044416=x:=by omega
  simp only[this]
  omega
theorem Nv.ag8 {m:LM}{es:List Nat}(h:Nv m es 0){b:List Nat}(hb:b.length=1) :
  uw m.m jM=(4,m.m)/\∃ m1 m2,iA m.m jM b=(0,m1)/\pq m1 jM fx=(0,m2)/\Nv { m with m:=m2 } es 1:=by
 have h3:=h.TM
 have hl:=h.len
 have hs:=h.sum
 have hf:=h.files
 have sH:m.m.fs.length<=4:=by
  split at hf<;>omega
 obtain⟨d,m1,m2,a1,a2,a3,a4,a5,a6,a7,a8,a9⟩:=aq3 h.ok hb h.Ii (by omega) (by omega)
 refine⟨d,m1,m2,a1,a3,⟨h.ei,a4,h.cM,h.first,h.xR,h.up,h.len,by show dO m2.fs<=_;omega,a5,fun q hq=>a7 _ (h.Bw q hq),?_,h.part,h.fill⟩⟩
 show m2.fs.length<=m.parts.length+(if fx∈m2.fs.map (·.nm) then 1 else 0)
 rw[if_pos a6]
 by_cases hk:fx∈m.m.fs.map (·.nm)
 ·rw[if_pos hk] at a9 hf;omega
 ·rw[if_neg hk] at a9 hf;omega
theorem Nv.sync {m:LM}{es:List Nat}{k:Nat}(h:Nv m es k):∃ m2,BW m=(0,m2)/\Nv m2 es k/\m2.sure=(es.length:Nat):=by
 obtain⟨m',s1,s2,s3,s4⟩:=SJ m.parts h.ok fun q hq=>⟨h.iO q hq,h.Bw q hq⟩
 have hlen:m'.fs.length=m.m.fs.length:=by
  have:=congrArg List.length s3
  simpa using this
 unfold BW
 rw[if_neg (by rw[h.ok.off];decide),s1]
 refine⟨_,rfl,⟨h.ei,s2,h.cM,h.first,h.xR,h.up,h.len,by show dO m'.fs<=_;rw[s4];exact h.sum,by show jM∉m'.fs.map _;rw[s3];exact h.Ii,fun q hq=>by show dR q.1∈m'.fs.map _;rw[s3];exact h.Bw q hq,?_,h.part,h.fill⟩,by rw[if_pos rfl];exact h.gW⟩
 show m'.fs.length<=m.parts.length+(if fx∈m'.fs.map (·.nm) then 1 else 0)
 rw[s3,hlen]
 exact h.files
theorem Nv.dS {m:LM}{es:List Nat}{k:Nat}(h:Nv m es k)(cL:m.parts≠[]):dS m∈m.parts/\m.parts[m.parts.length-1]? = some (dS m):=by
 have hl:m.parts.length-1<m.parts.length:=by
  have:m.parts.length≠0:=fun e=>cL (List.length_eq_zero_iff.1 e)
  omega
 have:m.parts[m.parts.length-1]? = some (dg.dS m):=by
  unfold dg.dS
  rw[aiE,aax hl]
  rfl
 exact⟨acx this,this⟩
theorem Nv.app {m:LM}{es:List Nat}{e:Nat}(h:Nv m es 1)(he:1<=e/\e<=60)(hu:∀ x∈es,x<=e)(hl:es.length<60) :
  wO m (e*17592186044416+es.length) [9,e]=(0,rj m (e*17592186044416+es.length) [9,e])/\Nv (rj m (e*17592186044416+es.length) [9,e]) (es++[e]) 0:=by
 have h3:=h.TM
 have hs:=h.sum
 have hf:=h.files
 have sH:m.m.fs.length<=4:=by split at hf<;>omega
 have hE:=h.gW
 have Qk:(fr (e*17592186044416+es.length) [9,e]).length=18:=by rw[QN];rfl
 generalize hA:e*17592186044416+es.length=a at *
 have up:∀ x y,es++[e]=x++y->∀ u∈x,∀ v∈y,u<=v:=by
  intro x y wz u jE v hv
  rcases List.eq_nil_or_concat y with rfl | ⟨y',z,rfl⟩
  ·cases hv
  ·rw[List.concat_eq_append] at wz hv
   rw[<-adY] at wz
   obtain⟨h1,h2⟩:=List.append_inj' wz rfl
   cases h2
   rcases aal.1 hv with hv | hv
   ·exact h.up x y' h1 u jE v hv
   ·rw[wc] at hv
    subst hv
    exact hu u (by rw[h1];exact aaI _ jE)
 have ZN:∀ x∈es++[e],1<=x/\x<=60:=fun x hx=>(aal.1 hx).elim (h.xR x) fun q=>by rw[wc] at q;subst q;exact he
 have XG:m.cM++[(a,[9,e])]=pC 0 (es++[e]):=by rw[acq,h.cM,yS,<-hA]
 have key:∀ f:Int,kM.iO f=true->∃ m',iA m.m (dR f) (fr a [9,e])=(0,m')/\sV m'/\dO m'.fs=dO m.m.fs+18/\(∀ n∈m.m.fs.map (·.nm),n∈m'.fs.map (·.nm))/\dR f∈m'.fs.map (·.nm)/\jM∉m'.fs.map (·.nm)/\(fx∈m'.fs.map (·.nm)↔fx∈m.m.fs.map (·.nm))/\m'.fs.length<=m.m.fs.length+(if dR f∈m.m.fs.map (·.nm) then 0 else 1):=by
  intro f hf
  obtain⟨q1,q2⟩:=amx hf
  obtain⟨m',a1,a2,a3,a4,a5⟩:=YC h.ok (XM hf) (b:=fr a [9,e]) (by rw[Qk];omega) (by omega)
  have hlen:=congrArg List.length a3
  rw[adg] at hlen
  refine⟨m',a1,a2,by rw[a4,Qk],?_⟩
  by_cases hh:dR f∈m.m.fs.map (·.nm)
  ·rw[if_pos hh] at a3 hlen
   rw[adg] at hlen
   rw[a3,if_pos hh]
   exact⟨fun _ q=>q,hh,h.Ii,Iff.rfl,by omega⟩
  ·rw[if_neg hh] at a3 hlen
   rw[abz,adg] at hlen
   rw[a3,if_neg hh]
   refine⟨fun _ q=>aaI _ q,by simp,fun q => ?_,⟨fun q => ?_,fun q=>aaI _ q⟩,by simp at hlen;omega⟩
   ·rcases aal.1 q with q | q
    ·exact h.Ii q
    ·rw[wc] at q;exact q1 q.symm
   ·rcases aal.1 q with q | q
    ·exact q
    ·rw[wc] at q;exact absurd q.symm q2
 have Li:∀ {fs':List Fl},(fx∈fs'.map (·.nm)↔fx∈m.m.fs.map (·.nm))->(if fx∈fs'.map (·.nm) then 1 else 0)=(if fx∈m.m.fs.map (·.nm) then 1 else 0):=fun hi=>by
  by_cases q:fx∈m.m.fs.map (·.nm)
  ·rw[if_pos q,if_pos (hi.2 q)]
  ·rw[if_neg q,if_neg (fun z=>q (hi.1 z))]
 by_cases ji:m.parts=[]\/m.ei<=(dg.dS m).2
 ·obtain⟨m',a1,a2,a3,a4,a5,a6,a7,a8⟩:=key (dg.gW m) (by rw[hE];exact O4 (by omega) (by omega))
  have hS:vz m a [9,e]=(0,m'):=by unfold vz;rw[if_pos ji,a1]
  have hM:rj m a [9,e]={ m with m:=m',parts:=m.parts++[(dg.gW m,0+((16 + [9,e].length:Nat):Int))],cM:=m.cM++[(a,[9,e])] }:=by unfold rj;rw[if_pos ji,a1]
  have an6:es.length=29*m.parts.length:=by
   rcases h.fill with⟨q1,q2⟩ | ⟨q1,q2,q3⟩
   ·rw[q1,q2];rfl
   ·rcases ji with q | q
    ·rw[q] at q1 q2 ⊢;simp at q2 ⊢;exact q2
    ·rw[h.ei,q3] at q
     omega
  refine⟨by unfold wO;rw[hS,if_pos rfl],?_⟩
  rw[hM]
  refine⟨h.ei,a2,XG,h.first,ZN,up,by simp;omega,by show dO m'.fs<=_;simp;omega,a6,fun q hq => ?_,?_,fun q hq => ?_,.inr ?_⟩
  ·rcases aal.1 hq with hq | hq
   ·exact a4 _ (h.Bw q hq)
   ·rw[wc] at hq;subst hq;exact a5
  ·show m'.fs.length<=(m.parts++[_]).length+_
   have e7:=Li a7
   rw[abz]
   show m'.fs.length<=m.parts.length+1+(if fx∈m'.fs.map (·.nm) then 1 else 0)
   rw[e7]
   have:(if dR (dg.gW m)∈m.m.fs.map (·.nm) then 0 else 1)<=1:=by split<;>omega
   omega
  ·rcases aal.1 hq with hq | hq
   ·exact h.part q hq
   ·rw[wc] at hq;subst hq;rw[hE];simp;omega
  ·have Ew:dg.dS { m with m:=m',parts:=m.parts++[(dg.gW m,0+((16 + [9,e].length:Nat):Int))],cM:=m.cM++[(a,[9,e])] }=(dg.gW m,0+((16 + [9,e].length:Nat):Int)):=by
    unfold dg.dS
    simp
   rw[Ew]
   simp only[abz,abn,abY]
   refine⟨by omega,by omega,?_⟩
   rw[an6]
   simp
   omega
 ·have cL:m.parts≠[]:=fun q=>ji (.inl q)
  obtain⟨l1,l2⟩:=h.dS cL
  have oV:1<=m.parts.length:=by
   have:m.parts.length≠0:=fun e=>cL (List.length_eq_zero_iff.1 e)
   omega
  have hp:=h.part _ l1
  have gH:=h.iO _ l1
  obtain⟨m',a1,a2,a3,a4,a5,a6,a7,a8⟩:=key (dg.dS m).1 gH
  rw[if_pos (show dR (dg.dS m).1∈m.m.fs.map (·.nm) from h.Bw _ l1)] at a8
  have hS:vz m a [9,e]=(0,m'):=by unfold vz;rw[if_neg ji,a1]
  have hM:rj m a [9,e]={ m with m:=m',parts:=m.parts.set (m.parts.length-1) ((dg.dS m).1,(dg.dS m).2+((16 + [9,e].length:Nat):Int)),cM:=m.cM++[(a,[9,e])] }:=by unfold rj;rw[if_neg ji,a1]
  have OJ:¬ m.ei<=(dg.dS m).2:=fun q=>ji (.inr q)
  rw[h.ei] at OJ
  have aqL:29*(m.parts.length-1)<es.length/\es.length<=29*m.parts.length/\(dg.dS m).2=18*((es.length:Int)-29*((m.parts.length:Int)-1)):=by
   rcases h.fill with⟨q,_⟩ | q
   ·exact absurd q cL
   ·exact q
  obtain⟨f1,f2,f3⟩:=aqL
  refine⟨by unfold wO;rw[hS,if_pos rfl],?_⟩
  rw[hM]
  refine⟨h.ei,a2,XG,h.first,ZN,up,by simp;omega,by show dO m'.fs<=_;simp;omega,a6,fun q hq => ?_,?_,fun q hq => ?_,.inr ?_⟩
  ·rcases List.mem_or_eq_of_mem_set hq with hq | rfl
   ·exact a4 _ (h.Bw q hq)
   ·exact a5
  ·show m'.fs.length<=(m.parts.set _ _).length+(if fx∈m'.fs.map (·.nm) then 1 else 0)
   rw[ahm,Li a7]
   omega
  ·rcases List.mem_or_eq_of_mem_set hq with hq | rfl
   ·exact h.part q hq
   ·refine⟨hp.1,?_,?_⟩
    ·simp;omega
    ·simp;omega
  ·have Ew:dg.dS { m with m:=m',parts:=m.parts.set (m.parts.length-1) ((dg.dS m).1,(dg.dS m).2+((16 + [9,e].length:Nat):Int)),cM:=m.cM++[(a,[9,e])] }=((dg.dS m).1,(dg.dS m).2+((16 + [9,e].length:Nat):Int)):=by
    show (((m.parts.set _ _).getLast?).getD _:Int × Int)=_
    rw[aiE,ahm,List.getElem?_set_self (by omega)]
    rfl
   rw[Ew]
   simp only[abz,ahm,abn,abY]
   refine⟨by omega,by omega,?_⟩
   simp only[f3]
   omega
end
open Sg kM nO jU iX
def zR (r:Nat)(ei:Int):LM:=⟨ei,⟨r,false,0,[],[]⟩,[],[],0,0⟩
theorem ZU (r:Nat)(ei:Int):Small (zR r ei):=⟨⟨Int.le_refl _,by show (0:Int)<=17592186040000;decide⟩,adf _,(fun r h=>by cases h),adf _,(fun q h=>by cases h)⟩
theorem aeC {H:Hp}{p r:Nat}{L:Lay}(h:St H p ⟨r,false,0,[],[]⟩ L)(hT:ez H dN)(hn:11<=H.next){ei:Int}(h1:64<=ei)(h2:ei<=1048576) :
  ∃ lp l H',cK (.func (.func 42) [] []) [.ptr p 0,.int .i64 ei] H=some (.tuple [.ptr lp 0,.int .i64 0],H')/\Lg H' lp p (zR r ei) l/\Out [] H H'/\(∀ j∈lf lp p l,H.next<=j\/j∈dL p L)/\l.ys=[]:=by
 have d1:decide (ei<64)=false:=decide_eq_false (by omega)
 have d2:decide (1048576<ei)=false:=decide_eq_false (by omega)
 have e1:=iX.CX h
 simp only at e1
 have hf:fl [.aC,(.int .i64 0),.ae,.ae,(.int .i64 0),(.int .i64 0)] [(0,1,AV.ptr p 0),(1,1,AV.int .i64 ei)]=some [.ptr p 0,.int .i64 ei,.ae,.ae,.int .i64 0,.int .i64 0]:=rfl
 obtain⟨H1,b1,b2,b3,b4⟩:=jP H 147 (.agg [.ptr p 0,.int .i64 ei,.ae,.ae,.int .i64 0,.int .i64 0]) _ rfl (by simp)
 have Bc:=h.out b3 fun j _ q=>by cases q
 obtain⟨x,H2,n1,n2,n3,n4,n5⟩:=Yv Bc
 have Qv:Rw H2 1 x (jU.strs []):=n2
 have o2:Out [] H H2:=b3.trans n3
 obtain⟨y,H3,p1,p2,p3,p4⟩:=am4 Qv (ly hT hn o2) (abS hn o2.1) (by simp) (fun s hs=>by cases hs)
 rw[ark] at p3
 have yl:=p3.rw.gV
 have yl:cJ y=some (.int .i64 0):=yl
 have o3:Out [] H H3:=o2.trans p2
 have SL:=(b2.out n3 fun q=>by cases q).out p2 fun q=>by cases q
 have Ew:H.next∉dL p L:=fun q=>by have:=h.lt _ q;omega
 have g3:Lg H3 H.next p (zR r ei) ⟨L,.ae,.ae,[]⟩:=⟨⟨_,SL⟩,h.out o3 (fun j _ q=>by cases q),OL.nil _ _ _,Jh _,LI h.nd (fun q=>by cases q) (fun q=>by cases q) Ew (fun j hj=>by cases hj) (fun j hj=>by cases hj) (fun j hj=>by cases hj),(fun y hy=>by cases hy)⟩
 have e2:=yq g3 (ZU r ei)
 have e0:gW (zR r ei)=0:=rfl
 rw[e0] at e2
 obtain⟨H4,s1,s2,s3,s4⟩:=g3.head.st (o:=5) (v := .int .i64 0) (by simp) rfl
 have l32:=g3.head.ld (o:=2) rfl
 have o4:Out [] H H4:=o3.then s3 fun j hj=>by rw[wc] at hj;exact .inr (by omega)
 have rd:cK (.func (.func 64) [] []) [.ptr H.next 0,y] H3=some (.int .i64 0,H3):=by
  refine ajE ?_
  unfold Qw
  simp only[yl,Int.natCast_zero,show (((0:Nat):Int))=0 from rfl,aj,ak,simprocAttr]
  rw[ai5]
  simp only[NK,aj,ak,simprocAttr]
 refine⟨H.next,⟨L,.ae,.ae,[]⟩,H4,adT ?_,⟨s2,g3.st.out s3 (fun j hj q=>Ew (by rw[wc] at q;exact q▸hj)),OL.nil _ _ _,Jh _,g3.nd,(fun y hy=>by cases hy)⟩,o4,fun j hj => ?_,rfl⟩
 ·unfold Py
  simp only[d1,d2,e1,hf,b1,n1,p1,rd,l32,aj,ak,simprocAttr]
  rw[aoW]
  simp only[Pd,e2,s1,aj,ak,simprocAttr]
 ·rcases GS hj with rfl | hj | hj | hj
  ·exact .inl (aar _)
  ·cases hj
  ·cases hj
  ·exact .inr hj
theorem YV:Nv (zR 65536 512) [] 0 where
 ei:=rfl
 ok:=⟨rfl,rfl,rfl,.nil⟩
 cM:=rfl
 first:=rfl
 xR:=fun e h=>by cases h
 up:=fun a b h x hx=>by rw[List.append_eq_nil_iff.1 h.symm |>.1] at hx;cases hx
 len:=adf _
 sum:=adf _
 Ii:=fun h=>by cases h
 Bw:=fun q h=>by cases h
 files:=adf _
 part:=fun q h=>by cases h
 fill := .inl ⟨rfl,rfl⟩
theorem afF {H:Hp}{p:Nat}{y:AV}(h:C0 H p [y,.bool false])(r:Rw H 1 y (bs [])) :
  ∃ H',cK (.func (.func 72) [] []) [.ptr p 0] H=some (.int .u64 0,H')/\C0 H' p [.ae,.bool true]/\Out [p] H H':=by
 have l0:=h.ld (o:=0) rfl
 have l1:=h.ld (o:=1) rfl
 have hlen:cJ y=some (.int .i64 0):=r.gV
 obtain⟨H1,t1,t2,t3,t4⟩:=h.st (o:=1) (v := .bool true) (by simp) rfl
 obtain⟨H2,u1,u2,u3,u4⟩:=t2.st (o:=0) (v := .ae) (by simp) rfl
 have hf:cK (.func (.func 124) [] []) [.ptr p 0] H=some (.tuple [],H2):=by
  refine aej ?_
  unfold WE
  simp only[t1,u1,aj,ak,simprocAttr]
 refine⟨H2,YT ?_,u2,t3.trans u3⟩
 unfold IT
 simp only[aj,ak,simprocAttr]
 rw[Vv]
 simp only[J0,l0,l1,hlen,hf,aj,ak,simprocAttr]
theorem adP {H:Hp}{p:Nat}{y:AV}(h:C0 H p [y,.bool true]):cK (.func (.func 73) [] []) [.ptr p 0] H=some (.bool false,H):=by
 have l1:=h.ld (o:=1) rfl
 refine Vf ?_
 unfold QM
 simp only[l1,aj,ak,simprocAttr]
theorem alV {H:Hp}{p:Nat}{m:SM}{L:Lay}(h:St H p m L)(hr:G1 m fx=[]) :
  ∃ H',cK (.func (.func 44) [] []) [.ptr p 0] H=some (.int .i64 0,H')/\Out [] H H':=by
 obtain⟨x,H1,r1,r2,r3,r4⟩:=Xj h fx
 rw[hr] at r2
 have Hc:cK (.func (.func 71) [] []) [.ptr p 0,.str [111,117,114,115]] H=some (.tuple [x,.int .i64 (dZ m fx)],H1):=r1
 have hx:=r2.one
 have f1:fl [.ae,(.bool false)] [(0,1,x)]=some [x,.bool false]:=by
  simp(disch:=first|exact zqz|fail)only[WW,List.set_cons_zero,hx]<;>rfl
 obtain⟨H2,n1,n2,n3,n4⟩:=eJ H1 [.ae,.bool false] 158 0 (by simp)
 obtain⟨H3,t1,t2,t3,t4⟩:=jf (n:=2) (v := .agg [x,.bool false]) (cs:=[x,.bool false]) n2 (by decide) rfl rfl rfl (fun v hv=>by
  simp only[yL,aeB,or_false] at hv
  rcases hv with rfl | rfl
  ·exact hx
  ·rfl)
 have xj:=r2.lt
 have r3':=(r2.out n3 fun j _ q=>by cases q).out t3 fun j hj q=>by
  rw[wc] at q
  have:=xj j hj
  omega
 obtain⟨H4,u1,u2,u3⟩:=afF ⟨_,t2⟩ r3'
 have e1:=adP u2
 have o4:Out [] H H4:=((r3.trans n3).then t3 fun j hj => ?_).then u3 fun j hj => ?_
 ·refine⟨H4,ael ?_,o4⟩
  unfold abG
  simp only[Hc,f1,n1,t1,u1,e1,aj,ak,simprocAttr]
 ·rw[wc] at hj;have:=r3.1;exact .inr (by omega)
 ·rw[wc] at hj;have:=r3.1;exact .inr (by omega)
structure NV where
 np:Nat
 lp:Nat
 p:Nat
 l:LP
 m:LM
 w:Int
 ou:Nat
 ld:Bool
 f:AV
 sw:Int
 se:Int
 sn:Int
def xK (n:NV):List AV:=[.ptr n.lp 0,.int .i64 n.w,.int .i64 (n.ou:Nat),.bool n.ld,.bool false,n.f,.int .i64 n.sw,.int .i64 n.se,.int .i64 n.sn,.int .i64 0,.int .i64 0,.ae]
def iG (n:NV):List Nat:=n.np::lf n.lp n.p n.l
structure Nd (H:Hp)(n:NV):Prop where
 head:C0 H n.np (xK n)
 log:Lg H n.lp n.p n.m n.l
 nd:n.np∉lf n.lp n.p n.l
 row:∀ y∈n.l.ys,n.np∉aa y
theorem Nd.out {H H':Hp}{n:NV}{S:List Nat}(h:Nd H n)(k:Out S H H')(hs:∀ j∈iG n,j∉S)(hy:∀ y∈n.l.ys,∀ i∈aa y,i∉S):Nd H' n:=
 ⟨h.head.out k (hs _ (.head _)),h.log.out k (fun j hj=>hs j (.tail _ hj)) hy,h.nd,h.row⟩
theorem Nd.eR {H H':Hp}{n:NV}(h:Nd H n)(k:Out [] H H'):Nd H' n:=h.out k (fun _ _ q=>by cases q) (fun _ _ _ _ q=>by cases q)
theorem Nd.lt {H:Hp}{n:NV}(h:Nd H n):∀ j∈iG n,j<H.next:=fun j hj=>by
 rcases yL.1 hj with rfl | hj
 ·exact h.head.lt
 ·exact h.log.lt j hj
structure Ng (H:Hp)(n:NV)(H':Hp)(n':NV):Prop where
 out:Out (iG n) H H'
 ft:∀ j∈iG n',j∈iG n\/H.next<=j
 ys:∀ y∈n'.l.ys,∀ i∈aa y,(∃ z∈n.l.ys,i∈aa z)\/H.next<=i
theorem Ng.trans {H H' rv:Hp}{n n' Zl:NV}(h:Ng H n H' n')(k:Ng H' n' rv Zl):Ng H n rv Zl:=
 ⟨h.out.then k.out h.ft,fun j hj=>(k.ft j hj).elim (h.ft j) fun q => .inr (abS h.out.1 q),fun y hy i hi=>(k.ys y hy i hi).elim (fun⟨z,hz,q⟩=>h.ys z hz i q) fun q => .inr (abS h.out.1 q)⟩
theorem Ng.tP {H H':Hp}{n:NV}(h:Out [] H H'):Ng H n H' n:=⟨h.mono (fun j hj=>by cases hj),fun j hj => .inl hj,fun y hy i hi => .inl ⟨y,hy,hi⟩⟩
theorem eT.LN {lp p i:Nat}{H H':Hp}{l l':LP}(g:eT lp p H l H' l')(h:i∉lf lp p l)(hi:i<H.next):i∉lf lp p l':=fun q=>(g.2 i q).elim h fun z=>by omega
theorem WI {H:Hp}{p:Nat}{L:Lay}(h:St H p ⟨65536,false,0,[],[]⟩ L)(hT:ez H dN)(hn:11<=H.next){w:Int}(hw:w=0\/w=1) :
  ∃ n H',cK (.func (.func 25) [] []) [.int .i64 w,.ptr p 0] H=some (.tuple [.ptr n.np 0,.int .i64 0],H')/\Nd H' n/\n.p=p/\n.m=zR 65536 512/\n.w=w/\n.ou=0/\n.ld=false/\n.l.ys=[]/\Out [] H H'/\∀ j∈iG n,H.next<=j\/j∈dL p L:=by
 obtain⟨lp,l,H1,o1,o2,o3,o4,o5⟩:=aeC h hT hn (ei:=512) (by decide) (by decide)
 have e1:=X0 o2 (ZU 65536 512)
 have e2:tK (zR 65536 512)=0:=rfl
 rw[e2] at e1
 obtain⟨H2,a1,a2⟩:=alV (m:=⟨65536,false,0,[],[]⟩) (h.out o3 fun j _ q=>by cases q) (by
  have hk:iV fx=true:=V7
  unfold G1 dZ iX.look
  rw[hk]
  rfl)
 have hm:eP P .max #[2,2] [.int .i64 0,.int .i64 0] H2=some (.int .i64 0,H2):=by rw[JL];rfl
 have f1:fl [.aC,(.int .i64 0),(.int .i64 0),(.bool false),(.bool false),.aC,(.int .i64 0),(.int .i64 0),(.int .i64 0),(.int .i64 0),(.int .i64 0),.ae] [(0,1,.ptr lp 0),(1,1,.int .i64 w),(2,1,.int .i64 0)]=some [.ptr lp 0,.int .i64 w,.int .i64 0,.bool false,.bool false,.aC,.int .i64 0,.int .i64 0,.int .i64 0,.int .i64 0,.int .i64 0,.ae]:=rfl
 obtain⟨H3,b1,b2,b3,b4⟩:=jP H2 117 (.agg [.ptr lp 0,.int .i64 w,.int .i64 0,.bool false,.bool false,.aC,.int .i64 0,.int .i64 0,.int .i64 0,.int .i64 0,.int .i64 0,.ae]) [.ptr lp 0,.int .i64 w,.int .i64 0,.bool false,.bool false,.aC,.int .i64 0,.int .i64 0,.int .i64 0,.int .i64 0,.int .i64 0,.ae] rfl (by simp)
 have g2:=(o2.eR a2).eR b3
 have ah:=(o2.eR a2).lt
 have oo:=(o3.trans a2).trans b3
 refine⟨⟨H2.next,lp,p,l,zR 65536 512,w,0,false,.aC,0,0,0⟩,H3,af3 ?_,⟨⟨_,b2⟩,g2,fun q => ?_,fun y hy => ?_⟩,rfl,rfl,rfl,rfl,rfl,o5,oo,fun j hj => ?_⟩
 ·unfold M3
  rcases hw with rfl | rfl
  ·simp only[o1,e1,a1,hm,f1,b1,aj,ak,simprocAttr]
  ·simp only[o1,e1,a1,hm,f1,b1,aj,ak,simprocAttr]
 ·have:=ah _ q
  exact absurd this (Nat.lt_irrefl _)
 ·have De:y∈l.ys:=hy
  rw[o5] at De
  cases De
 ·rcases yL.1 hj with rfl | hj
  ·exact .inl (abS o3.1 a2.1)
  ·exact o4 j hj
end
open Sg kM nO jU iX
theorem anD {H:Hp}{n:NV}{es:List Nat}(hN:Nd H n)(hv:Nv n.m es 0){e:Nat}(mE:1<=e)(kI:e<128) :
  ∃ m2 L2 H',cK (.func (.func 150) [] []) [.ptr n.np 0,.int .i64 (e:Nat)] H=some (.int .i64 0,H')/\Nd H' { n with m:={ n.m with m:=m2 },l:={ n.l with L:=L2 },ou:=e }/\Nv { n.m with m:=m2 } es 1/\Ng H n H' { n with m:={ n.m with m:=m2 },l:={ n.l with L:=L2 },ou:=e }:=by
 obtain⟨d1,m1,m2,a1,a3,cQ⟩:=hv.ag8 (b:=[e]) rfl
 have l0:ld (.ptr n.np 0) H=some (.ptr n.lp 0):=hN.head.ld rfl
 have l1:ld (.ptr n.lp 0) H=some (.ptr n.p 0):=hN.log.head.ld rfl
 obtain⟨H1,L1,r1,r2,r3⟩:=aq0 hN.log.st jM
 rw[d1] at r1 r2
 have Hc:cK (.func (.func 171) [] []) [.ptr n.p 0,.str [111,117,114,115,45,110,101,119]] H=some (.int .i64 4,H1):=r1
 obtain⟨g1,Rf⟩:=hN.log.Ei r2 r3
 have ah:=hN.head.lt
 have c1:=hN.head.out Rf.1 hN.nd
 obtain⟨H2,n1,n2,n3,n4⟩:=eJ H1 [.ae] 282 0 (by simp)
 have ob:Ob H2 H1.next .ae []:=⟨⟨_,n2⟩,.nil,fun q=>by cases q⟩
 have Aw:IntKind.wrap .u64 ((e:Nat):Int)=((e:Nat):Int):=qw rfl (by show e<18446744073709551616;omega)
 obtain⟨x3,H3,u1,u2,u3,u4⟩:=Np ob (v:=e) kI (by simp)
 have Dp:Out [] H1 H3:=n3.then u3 fun j hj=>by
  rcases yL.1 hj with rfl | hj
  ·exact .inr (aar _)
  ·cases hj
 have g3:=g1.eR Dp
 have c3:=c1.out Dp (by simp)
 have l45:ld (.ptr H1.next 0) H3=some x3:=u2.h.ld rfl
 have HM:ld (.ptr n.np 0) H3=some (.ptr n.lp 0):=c3.ld rfl
 have AJ:ld (.ptr n.lp 0) H3=some (.ptr n.p 0):=g3.head.ld rfl
 have u2r:Rw H3 1 x3 (bs [e]):=u2.r.rw
 have alx:=g1.st.lt
 obtain⟨H4,L4,s1,s2,s3⟩:=Tx g3.st jM (b:=[e]) u2r (fun c hc=>by rw[wc] at hc;omega) (fun j hj q=>by
  have h1:=alx j q
  rcases u4 j hj with z | z
  ·cases z
  ·omega)
 have B5:iA ({ n.m with m:=n.m.m }:LM).m jM [e]=(0,m1):=a1
 rw[B5] at s1 s2
 have HQ:cK (.func (.func 203) [] []) [.ptr n.p 0,.str [111,117,114,115,45,110,101,119],x3] H3=some (.int .i64 0,H4):=s1
 obtain⟨g4,Pj⟩:=g3.Ei s2 s3
 have Ug:n.np∉lf n.lp n.p { n.l with L:=L1 }:=Rf.LN hN.nd ah
 have c4:=c3.out Pj.1 Ug
 have Qo:ld (.ptr n.np 0) H4=some (.ptr n.lp 0):=c4.ld rfl
 have afw:ld (.ptr n.lp 0) H4=some (.ptr n.p 0):=g4.head.ld rfl
 obtain⟨H5,L5,t1,t2,t3⟩:=alU g4.st jM fx
 have a3':pq ({ n.m with m:=m1 }:LM).m jM fx=(0,m2):=a3
 rw[a3'] at t1 t2
 have Rc:cK (.func (.func 204) [] []) [.ptr n.p 0,.str [111,117,114,115,45,110,101,119],.str [111,117,114,115]] H4=some (.int .i64 0,H5):=t1
 obtain⟨g5,Rg⟩:=g4.Ei t2 t3
 have UD:=Pj.LN Ug c3.lt
 have c5:=c4.out Rg.1 UD
 have np5:=Rg.LN UD c4.lt
 obtain⟨H6,v1,v2,v3,v4⟩:=c5.st (o:=2) (v := .int .i64 ((e:Nat):Int)) (by simp[xK]) rfl
 have g6:=g5.out v3 (fun j hj q=>np5 (by rw[wc] at q;exact q▸hj)) (fun y hy i hi q=>hN.row y hy (by rw[wc] at q;exact q▸hi))
 have gg:eT n.lp n.p H n.l H5 { n.l with L:=L5 }:=((Rf.trans ⟨Dp.mono (fun j hj=>by cases hj),fun j hj => .inl hj⟩).trans Pj).trans Rg
 refine⟨m2,L5,H6,aeL ?_,⟨v2,g6,np5,hN.row⟩,cQ,?_⟩
 ·unfold Sv
  simp only[l0,l1,Hc,n1,Aw,u1,l45,HM,AJ,HQ,Qo,afw,Rc,v1,aj,ak,simprocAttr]
 ·refine⟨(gg.1.mono fun j hj => .tail _ hj).trans (v3.mono fun j hj=>by rw[wc.1 hj];exact .head _),fun j hj => ?_,fun y hy i hi => .inl ⟨y,hy,hi⟩⟩
  rcases yL.1 hj with rfl | hj
  ·exact .inl (.head _)
  ·exact (gg.2 j hj).imp (fun q => .tail _ q) id
theorem ajS {H:Hp}{lp p:Nat}{m:LM}{l:LP}(h:Lg H lp p m l):cK (.func (.func 127) [] []) [.ptr lp 0] H=some (.int .i64 m.first,H):=by
 have l4:=h.head.ld (o:=4) rfl
 refine ai8 ?_
 unfold X5
 simp only[l4,aj,ak,simprocAttr]
theorem anf {H:Hp}{lp p:Nat}{m:LM}{l:LP}(h:Lg H lp p m l):cK (.func (.func 128) [] []) [.ptr lp 0] H=some (.int .i64 m.sure,H):=by
 have l5:=h.head.ld (o:=5) rfl
 refine an4 ?_
 unfold YW
 simp only[l5,aj,ak,simprocAttr]
theorem ap6 {H:Hp}{n:NV}{es:List Nat}{k:Nat}(hN:Nd H n)(hv:Nv n.m es k):∃ x ys H',cK (.func (.func 205) [] []) [.ptr n.np 0] H=some (x,H')/\Out [] H H'/\Rs H' x (pC 0 es) ys:=by
 have l0:ld (.ptr n.np 0) H=some (.ptr n.lp 0):=hN.head.ld rfl
 have e1:=ajS hN.log
 have e2:=yq hN.log hv.small
 rw[hv.gW] at e2
 rw[hv.first] at e1
 have hlen:=hv.len
 have w:IntKind.wrap .i64 (((es.length:Nat):Int)-0)=((es.length:Nat):Int):=by rw[wrap_i64 (by omega) (by omega)];omega
 obtain⟨x,ys,H',k1,k2,k3,k4⟩:=akA hN.log hv.small (fun r hr=>by
  rw[hv.cM] at hr
  obtain⟨j,e,_,rfl⟩:=Q9 hr
  show[9,e].length<=_
  simp) 0 ((es.length:Nat):Int)
 refine⟨x,ys,H',arT ?_,k3,?_⟩
 ·unfold W4
  simp only[l0,e1,e2,w,k1,abA,aj,ak,simprocAttr]
 ·have e:(n.m.cM.drop ((if (0:Int)<n.m.first then n.m.first else 0)-n.m.first).toNat).take (((es.length:Nat):Int)).toNat=pC 0 es:=by
   rw[hv.first,if_neg (by decide),hv.cM]
   show (List.drop 0 _).take _=_
   rw[afO,aea (by rw[D6];omega)]
  rw[<-e]
  exact k4
theorem Z7 {H0:Hp}{es:List Nat}{x:AV}{ys:List AV}(dC:∀ e∈es,1<=e/\e<=60)(hl:es.length<=60)(hR:Rs H0 x (pC 0 es) ys):∀ (r i:Nat) (z:AV) (H:Hp),es.length=i+r->Out [] H0 H->OL H 130 8 z ((es.take i).map ec)->(∀ j∈aa z,H0.next<=j)->
  ∃ z' H',(∀ k:K.Fn 1,HV JN GO cK k z x (.int .i64 (es.length:Nat)) (.int .i64 (i:Nat)) H=k z' H')/\OL H' 130 8 z' (es.map ec)/\Out [] H0 H'
 | 0,i,z,H,hm,ho,hz,hd=>by
  have d:decide (((i:Nat):Int)<((es.length:Nat):Int))=false:=decide_eq_false (by omega)
  refine⟨z,H,fun k => ?_,by rw[aea (by omega)] at hz;exact hz,ho⟩
  rw[abC]
  simp only[L8,d,aj,ak,simprocAttr]
 | r+1,i,z,H,hm,ho,hz,hd=>by
  have d:decide (((i:Nat):Int)<((es.length:Nat):Int))=true:=decide_eq_true (by omega)
  have mC:i<es.length:=by omega
  obtain⟨e,he⟩:∃ e,es[i]? = some e:=⟨_,aax mC⟩
  have hj:=N4 es 0 i e he
  rw[yS] at hj
  obtain⟨mE,kI⟩:=dC e (acx he)
  have cH:=hR.out ho
  obtain⟨b,o,y,a1,a2,a3,a4,a5,a6⟩:=cH.af hj
  have B5:=a1 .i64
  have uh:=a5.lt
  obtain⟨H1,n1,n2,n3,n4⟩:=eJ H [.int .u64 0,.ae] 128 0 (by simp)
  obtain⟨H2,t1,t2,t3,t4⟩:=jf (n:=2) n2 (by omega) (By a5 ((e*17592186044416+i:Nat):Int)) rfl rfl (fun v hv=>by
   rcases yL.1 hv with rfl | hv
   ·rfl
   ·rcases yL.1 hv with rfl | hv
    ·exact Kv a5
    ·cases hv)
  have l1:ld (.ptr H.next 1) H2=some y:=t2.ld rfl
  have y2:=(a5.out n3 fun j _ q=>by cases q).out t3 fun j hj q=>by
   rw[wc] at q
   have:=uh j hj
   omega
  obtain⟨H3,g1,g2⟩:=anw mE (by omega) y2
  obtain⟨H4,p1,p2,p3,p4⟩:=eJ H3 zE 130 0 (by simp)
  obtain⟨H5,q1,q2,q3,q4⟩:=jf (n:=8) p2 (by decide) (wx e) rfl rfl (Io e)
  have y1:af 8 (.ptr H3.next 0) H5=some (.agg (ec e)):=q2.af (n:=8) (o:=0) (by simp[ec])
  have f1:fl zE [(0,8,.agg (ec e))]=some (ec e):=rfl
  have o5:Out [] H H5:=(((n3.then t3 fun j hj => ?_).trans g2).trans p3).then q3 fun j hj => ?_
  ·have Cb:=hz.1.rw.lt
   obtain⟨H6,z',H7,m1,m2,m3,m4,m5,m6⟩:=OL.I7 (mD:=130) (z:=zE) (vs:=ec e) (hz.out o5 fun j _ q=>by cases q) (Io e) rfl (by decide) (by decide) (by simp;omega)
   have hz7:OL H7 130 8 z' ((es.take (i+1)).map ec):=by
    rw[List.take_add_one,he]
    simpa using m3
   have o7:Out [] H0 H7:=(ho.trans o5).then m5 fun j hj => .inr (hd j hj)
   obtain⟨z9,H9,k1,k2,k3⟩:=Z7 dC hl hR r (i+1) z' H7 (by omega) o7 hz7 fun j hj=>(m6 j hj).elim (hd j) fun q=>abS (ho.trans o5).1 q
   have w:IntKind.wrap .i64 (((i:Nat):Int)+1)=((i+1:Nat):Int):=by rw[wrap_i64 (by omega) (by omega)];omega
   refine⟨z9,H9,fun k => ?_,k2,k3⟩
   rw[abC]
   simp only[L8,d,B5,a2,n1,t1,l1,g1,p1,q1,y1,f1,m1,m2,w,aj,ak,simprocAttr]
   exact k1 k
  ·rw[wc] at hj;exact .inr (by omega)
  ·rw[wc] at hj;have:=n3.1;have:=t3.1;have:=g2.1;exact .inr (by omega)
theorem MR {H:Hp}{n:NV}{es:List Nat}{k:Nat}(hN:Nd H n)(hv:Nv n.m es k):∃ f H',cK (.func (.func 151) [] []) [.ptr n.np 0] H=some (.ptr f 0,H')/\Out [] H H':=by
 obtain⟨x,ys,H1,a1,a2,a3⟩:=ap6 hN hv
 have hlen:=a3.G6
 rw[D6] at hlen
 have hl:=hv.len
 obtain⟨z,H2,k1,k2,k3⟩:=Z7 hv.xR hv.len a3 es.length 0 .ae H1 (by omega) (Out.refl _ _) (OL.nil _ _ _) fun j hj=>by cases hj
 obtain⟨f,H3,f1,f2⟩:=amQ (by omega) (fun e he=>by have:=hv.xR e he;omega) k2.rl
 refine⟨f,H3,ah2 ?_,(a2.trans k3).trans f2⟩
 unfold TL
 simp only[a1,hlen,show ((0:Nat):Int)=0 from rfl,aj,ak,simprocAttr]
 rw[show (0:Int)=((0:Nat):Int) from rfl,k1]
 simp only[f1,aj,ak,simprocAttr]
theorem Yj {H H':Hp}{n n':NV}(hT:ez H dN)(hn:11<=H.next)(kZ:∀ j∈iG n,11<=j)(g:Ng H n H' n'):ez H' dN/\11<=H'.next/\∀ j∈iG n',11<=j:=by
 refine⟨?_,abS hn g.out.1,fun j hj=>(g.ft j hj).elim (kZ j) fun q=>by omega⟩
 obtain⟨el,hh⟩:=hT
 refine⟨el,fun q l' hg => ?_⟩
 have hb:=Ah q l' hg
 rw[g.out.2 q (by omega) fun z=>by have:=kZ q z;omega]
 exact hh q l' hg
theorem VS {H H':Hp}{n:NV}{m':LM}{l':LP}(g:eT n.lp n.p H n.l H' l')(hy:∀ y∈l'.ys,y∈n.l.ys\/∀ i∈aa y,H.next<=i):Ng H n H' { n with m:=m',l:=l' }:=
 ⟨g.1.mono fun j hj => .tail _ hj,fun j hj=>by
  rcases yL.1 hj with rfl | hj
  ·exact .inl (.head _)
  ·exact (g.2 j hj).imp (fun q => .tail _ q) id,fun y h i hi=>(hy y h).elim (fun q => .inl ⟨y,q,hi⟩) fun q => .inr (q i hi)⟩
theorem Zv {H H':Hp}{n:NV}{m':LM}{l':LP}(hN:Nd H n)(g:eT n.lp n.p H n.l H' l')(h':Lg H' n.lp n.p m' l')(hy:∀ y∈l'.ys,y∈n.l.ys\/∀ i∈aa y,H.next<=i):Nd H' { n with m:=m',l:=l' }:=
 ⟨hN.head.out g.1 hN.nd,h',g.LN hN.nd hN.head.lt,fun y h q=>(hy y h).elim (fun z=>hN.row y z q) fun z=>by have h1:H.next<=n.np:=z _ q;have:=hN.head.lt;omega⟩
theorem aph {H:Hp}{n:NV}{es:List Nat}(hN:Nd H n)(hv:Nv n.m es 1){e:Nat}(he:1<=e/\e<=60)(hu:∀ x∈es,x<=e)(hl:es.length<60)(NX:n.ou=e)(hT:ez H dN)(hn:11<=H.next)(kZ:∀ j∈iG n,11<=j) :
  ∃ m' l' H',cK (.func (.func 152) [] []) [.ptr n.np 0,.agg (ec e)] H=some (.int .i64 0,H')/\Nd H' { n with m:=m',l:=l' }/\Nv m' (es++[e]) 0/\Ng H n H' { n with m:=m',l:=l' }:=by
 obtain⟨H1,b1,b2,b3,b4⟩:=jP H 130 (.agg (ec e)) (ec e) (wx e) (by simp[ec])
 have PT:=hN.eR b3
 have l0:ld (.ptr n.np 0) H1=some (.ptr n.lp 0):=PT.head.ld rfl
 have l2:ld (.ptr n.np 2) H1=some (.int .i64 (e:Nat)):=by rw[<-NX];exact PT.head.ld rfl
 have x1:af 8 (.ptr H.next 0) H1=some (.agg (ec e)):=b2.af (n:=8) (o:=0) (by simp[ec])
 obtain⟨x,H2,p1,p2,p3,p4⟩:=ahf he.1 (by omega) H1
 have o2:=b3.trans p3
 have Kb:=PT.eR p3
 have HM:ld (.ptr n.np 0) H2=some (.ptr n.lp 0):=Kb.head.ld rfl
 have PU:ld (.ptr n.np 2) H2=some (.int .i64 (e:Nat)):=by rw[<-NX];exact Kb.head.ld rfl
 obtain⟨ax,av⟩:=hv.app he hu hl
 have hlen:=hv.len
 obtain⟨H3,l3,s1,s2,s3,s4⟩:=akX Kb.log hv.small (ly hT hn o2) (abS hn o2.1) (ep:=e) (E:=es.length) p2.rw (fun v hv=>by
  simp only[yL,aeB,or_false] at hv
  rcases hv with rfl | rfl<;>omega) (by simp) (hv.tK hu) (by omega) hv.gW (by omega) hv.iO
 rw[ax] at s1 s2
 have HQ:cK (.func (.func 207) [] []) [.ptr n.lp 0,.int .i64 (e:Nat),x] H2=some (.tuple [.int .u64 ((e*17592186044416+es.length:Nat):Int),.int .i64 0],H3):=by
  rw[s1];rfl
 have s4':∀ y∈l3.ys,y∈n.l.ys\/∀ i∈aa y,H2.next<=i:=s4
 have C5:=Zv Kb s3 s2 s4'
 have ng3:=VS (m':=rj n.m (e*17592186044416+es.length) [9,e]) s3 s4'
 have aaa:=(Ng.tP (n:=n) o2).trans ng3
 obtain⟨B8,xF,ahz⟩:=Yj hT hn kZ aaa
 have Qo:ld (.ptr n.np 0) H3=some (.ptr n.lp 0):=C5.head.ld rfl
 obtain⟨H4,l4,k1,k2,k3,k4⟩:=akO C5.log av.small B8 xF (fun j hj=>ahz j (.tail _ hj)) av.iO
 obtain⟨m2,y1,y2,y3⟩:=av.sync
 have rz:cK (.func (.func 209) [] []) [.ptr n.lp 0] H3=some (.int .i64 0,H4):=by
  have:=k1
  rw[show BW (NV.m _)=(0,m2) from y1] at this
  exact this
 have J2:Lg H4 n.lp n.p m2 l4:=by
  have:=k2
  rw[show BW (NV.m _)=(0,m2) from y1] at this
  exact this
 have Y6:∀ y∈l4.ys,y∈l3.ys\/∀ i∈aa y,H3.next<=i:=fun y hy => .inl (by rw[k4] at hy;exact hy)
 have hN4:=Zv C5 k3 J2 Y6
 have ng4:=aaa.trans (VS (m':=m2) k3 Y6)
 refine⟨m2,l4,H4,alw ?_,hN4,y2,ng4⟩
 unfold Vt
 simp only[b1,l0,l2,x1,p1,HQ,HM,PU,abA,F8,Qo,rz,aj,ak,simprocAttr]
theorem aki {H:Hp}{i n o:Nat}{l cs:List AV}{el fl:Nat}{v:AV}(h:Cs H i l el fl)(hf:fl<=1)(hv:jX v=some cs)(hl:cs.length=n)(hn:o+n<=l.length)(ho:∀ v∈cs,db v=true) :
  ∃ H',st n (.ptr i o) v H=some H'/\Cs H' i (l.take o++cs++l.drop (o+n)) el fl/\Out [i] H H'/\H'.next=H.next:=by
 obtain⟨hi,c,hc,hg⟩:=h
 obtain⟨H',c',q1,q2,q3,q4,q5⟩:=BP cs H i o c 0 l.length el fl hc hf (adf _) (by omega) (fun k hk=>by
  have lJ:o+k<l.length:=by omega
  rw[hg (o+k) l[o+k] (aax lJ)];rfl) ho
 have hlen:(l.take o++cs++l.drop (o+n)).length=l.length:=by
  simp only[abz,afi,aef];omega
 refine⟨H',?_,⟨by omega,c',by rw[q3,hlen],fun k w hk => ?_⟩,⟨by omega,fun j hj hn=>q4 j (by simpa using hn)⟩,q2⟩
 ·unfold st
  simp only[hv]
  rw[show Nat.beq n cs.length=true by rw[hl];exact agU n]
  exact q1
 ·rw[q5 k]
  rw[adY] at hk
  by_cases h1:k<o
  ·rw[if_neg (by omega)]
   rw[abU (by simp;omega),List.getElem?_take_of_lt h1] at hk
   exact hg k w hk
  ·by_cases h2:k<o+cs.length
   ·rw[if_pos (by omega)]
    rw[acs (by simp;omega),abU (by simp;omega)] at hk
    rw[afi,aiK (by omega)] at hk
    exact hk
   ·rw[if_neg (by omega)]
    rw[acs (by simp;omega),acs (by simp;omega),adG] at hk
    rw[afi,aiK (by omega),show o+n+(k-o-cs.length)=k by omega] at hk
    exact hg k w hk
theorem ajo {H:Hp}{n:NV}{es:List Nat}{a k:Nat}{x:AV}{L:List SS}{s:SS}(hN:Nd H n)(hv:Nv n.m es 0)(hw:n.w=0\/n.w=1)(hA:Ab H a x (L++[s]))(hL:L.length<=1000)(hs:s.so=false)(hk:s.ep=(k:Nat))(asg:k<60)(hu:∀ e∈es,e<=k)(hl:es.length<60)(NX:n.ou<=k)
  (hd:∀ j∈a::aa x,j∉iG n/\∀ y∈n.l.ys,j∉aa y) (hT:ez H dN) (hn:11<=H.next) (kZ:∀ j∈iG n,11<=j) (Qy:∀ j∈a::aa x,11<=j) :
  ∃ n' x' H',cK (.func (.func 94) [] []) [.ptr n.np 0,.ptr a 0] H=some (.int .i64 0,H')/\Nd H' n'/\Nv n'.m (es++[k+1]) 0/\n'.np=n.np/\n'.p=n.p/\n'.w=n.w/\n'.ou=k+1/\Ab H' a x' (L++[s]++[⟨((k+1:Nat):Int),n.w,false,s.fl⟩])/\
   Out (iG n++(a::aa x)) H H'/\(∀ j∈iG n',j∈iG n\/H.next<=j)/\(∀ y∈n'.l.ys,∀ i∈aa y,(∃ z∈n.l.ys,i∈aa z)\/H.next<=i)/\(∀ j∈aa x',j∈aa x\/H.next<=j)/\∀ j∈a::aa x',j∉iG n'/\∀ y∈n'.l.ys,j∉aa y:=by
 have l0:ld (.ptr n.np 0) H=some (.ptr n.lp 0):=hN.head.ld rfl
 have l1:ld (.ptr n.lp 0) H=some (.ptr n.p 0):=hN.log.head.ld rfl
 have e1:=iX.CX hN.log.st
 rw[hv.ok.off] at e1
 obtain⟨H1,a1,a2⟩:=PH hA (by omega)
 obtain⟨H2,n1,n2,n3,n4⟩:=eJ H1 [.int .i64 0,.int .i64 0,.bool false,.int .i64 0] 97 0 (by simp)
 obtain⟨H3,t1,t2,t3,t4⟩:=jf (n:=4) n2 (by omega) (xL s) rfl rfl (zQ s)
 have o3:Out [] H H3:=(a2.trans n3).then t3 fun j hj=>by rw[wc] at hj;have:=a2.1;exact .inr (by omega)
 have x1:af 4 (.ptr H1.next 0) H3=some (.agg (sc s)):=t2.af (n:=4) (o:=0) (by simp[sc])
 have C5:=hN.eR o3
 have yz:ld (.ptr n.np 1) H3=some (.int .i64 n.w):=C5.head.ld rfl
 obtain⟨H4,b1,b2⟩:=ags (s:=s) hw hs (by omega) (by omega) H3
 have eS:(⟨s.ep+1,n.w,false,s.fl⟩:SS)=⟨((k+1:Nat):Int),n.w,false,s.fl⟩:=by rw[hk];rfl
 rw[eS] at b1
 generalize hS:(⟨((k+1:Nat):Int),n.w,false,s.fl⟩:SS)=s' at *
 have sep:s'.ep=((k+1:Nat):Int):=by rw[<-hS]
 have sso:s'.so=false:=by rw[<-hS]
 obtain⟨H5,p1,p2,p3,p4⟩:=eJ H4 [.int .i64 0,.int .i64 0,.bool false,.int .i64 0] 97 0 (by simp)
 obtain⟨H6,q1,q2,q3,q4⟩:=jf (n:=4) p2 (by omega) (xL s') rfl rfl (zQ s')
 have Bk:Out [] H3 H6:=(b2.trans p3).then q3 fun j hj=>by rw[wc] at hj;have:=b2.1;exact .inr (by omega)
 have Yq:=C5.eR Bk
 have t2':=t2.out Bk (by simp)
 have x6:af 4 (.ptr H1.next 0) H6=some (.agg (sc s)):=t2'.af (n:=4) (o:=0) (by simp[sc])
 have x6':af 4 (.ptr H4.next 0) H6=some (.agg (sc s')):=q2.af (n:=4) (o:=0) (by simp[sc])
 have l06:ld (.ptr H4.next 0) H6=some (.int .i64 ((k+1:Nat):Int)):=by rw[<-sep];exact q2.ld rfl
 have SP:ld (.ptr n.np 2) H6=some (.int .i64 (n.ou:Nat)):=Yq.head.ld rfl
 have d1:decide (((k+1:Nat):Int)<=((n.ou:Nat):Int))=false:=decide_eq_false (by omega)
 have GU:=o3.trans Bk
 have hA6:=hA.out GU (by simp) (fun j _ q=>by cases q)
 obtain⟨x',H7,r1,r2,r3,r4⟩:=apa hA6 (by omega) s'
 have Jp:=q2.out r3 fun q=>by
  rcases yL.1 q with q | q
  ·have:=hA.head.lt;have:=o3.1;have:=b2.1;omega
  ·have:=hA.row.1.rw.lt _ q;have:=o3.1;have:=b2.1;omega
 have WG:Nd H7 n:=Yq.out r3 (fun j hj q=>(hd j q).1 hj) fun y hy i hi q=>(hd i q).2 y hy hi
 have l27:ld (.ptr H4.next 2) H7=some (.bool false):=by rw[<-sso];exact Jp.ld rfl
 obtain⟨H8,c1,c2,c3,c4⟩:=WG.head.st (o:=4) (v := .bool false) (by simp[xK]) rfl
 obtain⟨H9,d2,d3,d4,d5⟩:=c2.st (o:=11) (v := .ae) (by simp[xK]) rfl
 obtain⟨lE,f1,f2,f3,f4⟩:=d3.st (o:=3) (v := .bool false) (by simp[xK]) rfl
 have E3:=(c3.trans d4).trans f3
 let nA:NV:={ n with ld:=false }
 have hNA:Nd lE nA:=by
  have hh:=WG.log.out E3 (fun j hj q=>hN.nd (by rw[wc] at q;exact q▸hj)) (fun y hy i hi q=>hN.row y hy (by rw[wc] at q;exact q▸hi))
  exact⟨f2,hh,hN.nd,hN.row⟩
 have alL:n.np≠H4.next:=by have:=hN.head.lt;have:=o3.1;have:=b2.1;omega
 have q10:=Jp.out E3 fun q=>by rw[wc] at q;exact alL q.symm
 have agB:ld (.ptr H4.next 0) lE=some (.int .i64 ((k+1:Nat):Int)):=by rw[<-sep];exact q10.ld rfl
 obtain⟨m2,L2,nP,g1,g2,g3,g4⟩:=anD hNA hv (e:=k+1) (by omega) (by omega)
 have Q0:cK (.func (.func 150) [] []) [.ptr n.np 0,.int .i64 ((k+1:Nat):Int)] lE=some (.int .i64 0,nP):=g1
 let nB:NV:={ nA with m:={ n.m with m:=m2 },l:={ n.l with L:=L2 },ou:=k+1 }
 have Us:Nd nP nB:=g2
 have TS:Ng lE nA nP nB:=g4
 obtain⟨f,AA,i1,i2⟩:=MR Us g3
 have sJ:cK (.func (.func 151) [] []) [.ptr n.np 0] nP=some (.ptr f 0,AA):=i1
 have Ef:=Us.eR i2
 obtain⟨pM,j1,j2,j3,j4⟩:=Ef.head.st (o:=5) (v := .ptr f 0) (by simp[xK]) rfl
 have j1':st 1 (.ptr n.np 5) (.ptr f 0) AA=some pM:=j1
 let nC:NV:={ nB with f := .ptr f 0 }
 have hNC:Nd pM nC:=⟨j2,Ef.log.out j3 (fun j hj q=>Ef.nd (by rw[wc] at q;exact q▸hj)) (fun y hy i hi q=>Ef.row y hy (by rw[wc] at q;exact q▸hi)),Ef.nd,Ef.row⟩
 have IP:Out (iG n++(a::aa x)) H lE:=(GU.mono fun j hj=>by cases hj).trans ((r3.mono fun j hj=>yX _ hj).trans (E3.mono fun j hj=>by rw[wc.1 hj];exact aaI _ (.head _)))
 have Uo:Ng lE nA pM nC:=TS.trans ⟨(i2.mono fun j hj=>by cases hj).trans (j3.mono fun j hj=>by rw[wc.1 hj];exact .head _),fun j hj => .inl hj,fun y hy i hi => .inl ⟨y,hy,hi⟩⟩
 have akV:ld (.ptr n.np 2) pM=some (.int .i64 ((k+1:Nat):Int)):=hNC.head.ld rfl
 have akD:ez lE dN:=by
  obtain⟨el,hh⟩:=hT
  refine⟨el,fun q l' hg => ?_⟩
  have hb:=Ah q l' hg
  rw[IP.2 q (by omega) fun z=>by
   rcases aal.1 z with z | z
   ·have:=kZ q z;omega
   ·have:=Qy q z;omega]
  exact hh q l' hg
 have arv:11<=lE.next:=abS hn IP.1
 obtain⟨adb,aeR,aoh⟩:=Yj (n:=nA) akD arv kZ Uo
 have fev:fl [(.int .i64 0),(.int .i64 0),(.int .i64 0),(.int .i64 0),(.int .i64 0),(.str []),(.str []),(.str [])] [(0,1,(.int .i64 9)),(4,1,.int .i64 ((k+1:Nat):Int))]=some (ec (k+1)):=rfl
 obtain⟨m3,l3,tm,s1,s2,s3,s4⟩:=aph hNC g3 (e:=k+1) (by omega) (fun e he=>by have:=hu e he;omega) hl rfl adb aeR aoh
 have HQ:cK (.func (.func 152) [] []) [.ptr n.np 0,.agg (ec (k+1))] pM=some (.int .i64 0,tm):=s1
 let nD:NV:={ nC with m:=m3,l:=l3 }
 have AR:Nd tm nD:=s2
 have ngD:Ng lE nA tm nD:=Uo.trans s4
 have agk:ld (.ptr n.np 1) tm=some (.int .i64 n.w):=AR.head.ld rfl
 have ajV:ld (.ptr n.np 2) tm=some (.int .i64 ((k+1:Nat):Int)):=AR.head.ld rfl
 have ajF:ld (.ptr n.np 0) tm=some (.ptr n.lp 0):=AR.head.ld rfl
 have Uv:=yq AR.log s3.small
 rw[show gW nD.m=_ from s3.gW] at Uv
 have amA:cK (.func (.func 69) [] []) [.ptr n.lp 0] tm=some (.int .i64 (((es++[k+1]).length:Nat):Int),tm):=Uv
 have hlen:=s3.len
 obtain⟨CI,v1,v2⟩:=amB (w:=n.w) (ep:=((k+1:Nat):Int)) (en:=(((es++[k+1]).length:Nat):Int)) hw (by omega) (by omega) (by omega) (by omega) tm
 obtain⟨H16,w1,w2,w3,w4⟩:=eJ CI [.int .i64 0,.int .i64 0,.int .i64 0,.int .i64 0] 114 0 (by simp)
 have Ue:∀ v∈[AV.int .i64 n.w,.int .i64 ((k+1:Nat):Int),.int .i64 (((es++[k+1]).length:Nat):Int),.int .i64 0],db v=true:=fun v hv=>by
  simp only[yL,aeB,or_false] at hv
  rcases hv with rfl | rfl | rfl | rfl<;>rfl
 obtain⟨PF,y1,y2,y3,y4⟩:=jf (n:=4) (v := .agg [AV.int .i64 n.w,.int .i64 ((k+1:Nat):Int),.int .i64 (((es++[k+1]).length:Nat):Int),.int .i64 0]) w2 (by omega) rfl rfl rfl Ue
 have z1:af 4 (.ptr CI.next 0) PF=some (.agg [AV.int .i64 n.w,.int .i64 ((k+1:Nat):Int),.int .i64 (((es++[k+1]).length:Nat):Int),.int .i64 0]):=y2.af (n:=4) (o:=0) (by simp)
 have Zx:Out [] tm PF:=(v2.trans w3).then y3 fun j hj=>by rw[wc] at hj;have:=v2.1;exact .inr (by omega)
 have Eo:=AR.eR Zx
 obtain⟨el,aiF⟩:=Eo.head
 obtain⟨T4,u1,u2,u3,u4⟩:=aki (n:=4) (o:=6) (v := .agg [AV.int .i64 n.w,.int .i64 ((k+1:Nat):Int),.int .i64 (((es++[k+1]).length:Nat):Int),.int .i64 0]) aiF (by decide) rfl rfl (by simp[xK]) Ue
 obtain⟨GH,u5,u6,u7,u8⟩:=C0.st ⟨el,u2⟩ (o:=3) (v := .bool true) (by simp[xK]) rfl
 have Gx:st 4 (.ptr n.np 6) (.agg [AV.int .i64 n.w,.int .i64 ((k+1:Nat):Int),.int .i64 (((es++[k+1]).length:Nat):Int),.int .i64 0]) PF=some T4:=u1
 have u5':st 1 (.ptr n.np 3) (.bool true) T4=some GH:=u5
 let nE:NV:={ nD with ld:=true,sw:=n.w,se:=((k+1:Nat):Int),sn:=(((es++[k+1]).length:Nat):Int) }
 have Wy:=u3.trans u7
 have hNE:Nd GH nE:=⟨u6,Eo.log.out Wy (fun j hj q=>Eo.nd (by rw[wc] at q;exact q▸hj)) (fun y hy i hi q=>Eo.row y hy (by rw[wc] at q;exact q▸hi)),Eo.nd,Eo.row⟩
 have DE:Ng lE nA GH nE:=ngD.trans ⟨(Zx.mono fun j hj=>by cases hj).trans (Wy.mono fun j hj=>by rw[wc.1 hj];exact .head _),fun j hj => .inl hj,fun y hy i hi => .inl ⟨y,hy,hi⟩⟩
 have hx7:=r2.row.1.rw.lt
 have ha7:=r2.head.lt
 have qu:∀ j∈a::aa x',j∉iG n:=fun j hj q=>by
  rcases yL.1 hj with rfl | hj
  ·exact (hd _ (.head _)).1 q
  ·rcases r4 j hj with z | z
   ·exact (hd j (.tail _ z)).1 q
   ·have:=hN.lt j q;have:=GU.1;omega
 have EA:∀ j∈a::aa x',j<lE.next:=fun j hj=>by
  have:=E3.1
  rcases yL.1 hj with rfl | hj
  ·omega
  ·have:=hx7 j hj;omega
 have wz:∀ j∈a::aa x',∀ y∈n.l.ys,j∉aa y:=fun j hj y hy q=>by
  rcases yL.1 hj with rfl | hj
  ·exact (hd _ (.head _)).2 y hy q
  ·rcases r4 j hj with z | z
   ·exact (hd j (.tail _ z)).2 y hy q
   ·have:=hN.log.cM.uh y hy j q;have:=GU.1;omega
 have ad2:Ab GH a x' (L++[s]++[s']):=(r2.out E3 (fun q=>by rw[wc] at q;exact qu a (.head _) (q ▸ .head _)) (fun j hj q=>by rw[wc] at q;exact qu j (.tail _ hj) (q ▸ .head _))).out DE.out (qu a (.head _)) fun j hj=>qu j (.tail _ hj)
 have lP:H.next<=lE.next:=IP.1
 refine⟨nE,x',GH,amX ?_,hNE,s3,rfl,rfl,rfl,rfl,ad2,IP.trans (DE.out.mono fun j hj=>aaI _ hj),fun j hj=>(DE.ft j hj).imp id fun q=>abS lP q,fun y hy i hi=>(DE.ys y hy i hi).imp id fun q=>abS lP q,fun j hj=>(r4 j hj).imp id fun q=>abS GU.1 q,fun j hj=>⟨fun q=>(DE.ft j q).elim (qu j hj) fun z=>by have:=EA j hj;omega,fun y hy q=>(DE.ys y hy j q).elim (fun⟨z,hz,q'⟩=>wz j hj z hz q') fun z=>by have:=EA j hj;omega⟩⟩
 unfold QG
 simp only[l0,l1,e1,a1,n1,t1,x1,yz,b1,p1,q1,l06,SP,d1,x6,x6',r1,l27,c1,d2,f1,agB,Q0,sJ,j1',akV,fev,HQ,agk,ajV,ajF,amA,v1,w1,y1,F8,z1,Gx,u5',aj,ak,simprocAttr]
theorem ajw {H:Hp}{n:NV}(hN:Nd H n)(ho:n.m.m.off=false):cK (.func (.func 154) [] []) [.ptr n.np 0] H=some (.int .i64 (if n.ld then 0 else 12),H):=by
 have l0:ld (.ptr n.np 0) H=some (.ptr n.lp 0):=hN.head.ld rfl
 have l1:ld (.ptr n.lp 0) H=some (.ptr n.p 0):=hN.log.head.ld rfl
 have l3:ld (.ptr n.np 3) H=some (.bool n.ld):=hN.head.ld rfl
 have e1:=iX.CX hN.log.st
 rw[ho] at e1
 refine acG ?_
 unfold Un
 cases zu:n.ld with
 | true=>
  rw[zu] at l3
  simp only[l0,l1,e1,l3,aj,ak,simprocAttr]
 | false=>
  rw[zu] at l3
  simp only[l0,l1,e1,l3,aj,ak,simprocAttr]
theorem alP {H:Hp}{n:NV}(hN:Nd H n)(ho:n.m.m.off=false):∃ z H',cK (.func (.func 97) [] []) [.ptr n.np 0] H=some (.int .i64 z,H')/\Out [] H H':=by
 have e1:=ajw hN ho
 cases zu:n.ld with
 | false=>
  rw[zu] at e1
  have Hl:cK (.func (.func 154) [] []) [.ptr n.np 0] H=some (.int .i64 12,H):=e1
  refine⟨0,H,abm ?_,Out.refl _ _⟩
  unfold M6
  simp only[Hl,aj,ak,simprocAttr]
 | true=>
  rw[zu] at e1
  have Hl:cK (.func (.func 154) [] []) [.ptr n.np 0] H=some (.int .i64 0,H):=e1
  obtain⟨el,hc⟩:=hN.head
  have l0:ld (.ptr n.np 0) H=some (.ptr n.lp 0):=hN.head.ld rfl
  have l4:ld (.ptr n.np 4) H=some (.bool false):=hN.head.ld rfl
  have l6:af 4 (.ptr n.np 6) H=some (.agg [.int .i64 n.sw,.int .i64 n.se,.int .i64 n.sn,.int .i64 0]):=hc.af (n:=4) (o:=6) (by simp[xK])
  have e2:=anf hN.log
  have sm:same (.agg [AV.int .i64 n.sw,.int .i64 n.se,.int .i64 n.sn,.int .i64 0]) (.agg [.int .i64 n.sw,.int .i64 n.se,.int .i64 n.sn,.int .i64 0])=true:=by simp[same,mO,wG]
  have sb:same (.bool false) (.bool false)=true:=rfl
  obtain⟨H1,d1,d2⟩:=ae2 n.sw n.se n.sn 0 n.m.sure H
  refine⟨if (0:Int)<n.m.sure then 0 else n.m.sure,H1,abm ?_,d2⟩
  unfold M6
  simp only[Hl,l0,l4,l6,e2,d1,jo sm,jo sb,aj,ak,simprocAttr]
theorem WH {H:Hp}{n:NV}(hN:Nd H n)(ho:n.m.m.off=false):∃ H',cK (.func (.func 54) [] []) [.ptr n.np 0] H=some (.ae,H')/\Out [] H H':=by
 have l0:ld (.ptr n.np 0) H=some (.ptr n.lp 0):=hN.head.ld rfl
 have l1:ld (.ptr n.lp 0) H=some (.ptr n.p 0):=hN.log.head.ld rfl
 have e1:=iX.CX hN.log.st
 rw[ho] at e1
 obtain⟨z,H1,s1,s2⟩:=alP hN ho
 have l11:ld (.ptr n.np 11) H1=some .ae:=(hN.eR s2).head.ld rfl
 refine⟨H1,anz ?_,s2⟩
 unfold Na
 simp only[l0,l1,e1,s1,aj,ak,simprocAttr]
 rw[adw]
 simp only[RQ,l11,aj,ak,simprocAttr]
end Go.Proofs.YtehhgkgeldinkaaGreatDoor.dg
