/- Laws that the proof uses. -/
import Derived.Test.YtbdlbhlhnpblpaaGreatDoorAm16
import Derived.Test.YtbdlbhlhnpblpaaGreatDoorWcC
import Derived.Test.YtbdlbhlhnpblpaaGreatDoorBackW
set_option maxRecDepth 100000
set_option maxHeartbeats 8000000
set_option linter.unusedVariables false
set_option linter.unusedSimpArgs false
namespace Go.Proofs.YtbdlbhlhnpblpaaGreatDoor.Am.K
open Go
theorem aab:∀ (vs c r:List AV) (k:Nat),k+vs.length<=c.length->jN (c++r) k vs=jN c k vs++r
 | [],c,r,k,h=>rfl
 | v::vs,c,r,k,h=>by
  simp only[abg] at h
  show jN ((c++r).set k v) (k+1) vs=jN (c.set k v) (k+1) vs++r
  rw[List.set_append_left _ _ (by omega)]
  exact aab vs _ _ _ (by rw[List.length_set];omega)
theorem aag:∀ (vs a r:List AV) (k:Nat),jN (a++r) (a.length+k) vs=a++jN r k vs
 | [],a,r,k=>rfl
 | v::vs,a,r,k=>by
  show jN ((a++r).set (a.length+k) v) (a.length+k+1) vs=a++jN (r.set k v) (k+1) vs
  rw[List.set_append_right _ _ (by omega),aeN,aeh]
  exact aag vs _ _ _
theorem Xg {es:Nat}{vs:List AV}{k:Nat}(hk:k+vs.length<=es):∀ {L:List (List AV)} {i:Nat} {c:List AV},(∀ c∈L,c.length=es)->L[i]? = some c->(L.set i (jN c k vs)).flatten=jN L.flatten (i*es+k) vs
 | [],i,c,_,h=>by simp at h
 | a::L,0,c,hl,h=>by
  simp only[nq,acf] at h
  subst h
  have:=hl a (.head _)
  rw[aeT,wc]
  show jN a k vs++L.flatten=jN (a++L.flatten) k vs
  rw[aab _ _ _ _ (by omega)]
 | a::L,i+1,c,hl,h=>by
  simp only[gk] at h
  have ha:=hl a (.head _)
  show a++(L.set i (jN c k vs)).flatten=jN (a++L.flatten) ((i+1)*es+k) vs
  rw[Xg hk (fun d hd=>hl d (.tail _ hd)) h,adC,ag0,show i*es+es+k=a.length+(i*es+k) by omega,aag]
theorem OL.ahL {H:Hp}{el es:Nat}{x:AV}{L:List (List AV)}(h:OL H el es x L){i k b o:Nat}{c vs:List AV}(hi:L[i]? = some c)(Lw:∀ kd,ia es x (.int kd i)=some (.ptr b o))(hv:∀ v∈vs,dF v=true)(hk:k+vs.length<=es)(di:0<es) :
  ∃ H',setCells H b (o+k) vs=some H'/\OL H' el es x (L.set i (jN c k vs))/\Out (aa x) H H'/\H'.next=H.next:=by
 obtain⟨ho,hl⟩:=h
 have B8:=(aaL.1 hi).1
 have mK:=A2 hl
 have gP:=Xg hk hl hi
 have hc:=hl c (abY hi)
 have Bw:i*es+es<=L.flatten.length:=by
  rw[mK]
  have:=ac2 es (show i+1<=L.length by omega)
  rw[adC,ag0] at this
  exact this
 have Po:∀ d∈L.set i (jN c k vs),d.length=es:=fun d hd=>by
  rcases List.mem_or_eq_of_mem_set hd with hd | rfl
  ·exact hl d hd
  ·rw[Ta];exact hc
 generalize hF:L.flatten=F at *
 cases ho with
 | nil=>simp at Bw;omega
 | emp=>simp at Bw;omega
 | @mk i0 off n cap ex _ ct lo tv fl eG hg hf ec eg eh hn eO hs h1 he=>
  have ea:i<n:=by
   rw[mK] at hn
   exact agC di hn▸B8
  have e:=Lw .i64
  rw[xt ea] at e
  injection e with e
  injection e with eb eo
  subst eb
  subst eo
  have WA:n*es<=cap*es:=ac2 _ eh
  obtain⟨H',c',q1,q2,q3,q4,q5⟩:=CC vs H i0 (off+i*es+k) ct lo tv el fl hg hf (by omega) (by omega) (fun m hm=>by
   have:=hs (i*es+k+m) (by omega)
   rw[show off+i*es+k+m=off+(i*es+k+m) by omega]
   exact this) hv
  refine⟨H',q1,⟨?_,Po⟩,⟨by omega,fun j hj wG=>q4 j fun e=>wG (by subst e;rw[pH he];exact .head _)⟩,q2⟩
  rw[gP]
  refine .mk (by omega) q3 hf ec eg eh (by rw[Ta];exact hn) (fun m w hm => ?_) (fun m hm => ?_) (fun w hw => ?_) he
  ·rw[q5]
   rw[NW _ _ _ _ (by omega)] at hm
   split at hm
   ·rw[if_pos (by omega),show off+m-(off+i*es+k)=m-(i*es+k) by omega];exact hm
   ·rw[if_neg (by omega)];exact eO m w hm
  ·rw[q5]
   split
   ·rename_i hb
    rw[abb (by omega)];rfl
   ·exact hs m hm
  ·obtain⟨m,hm⟩:=List.getElem?_of_mem hw
   rw[NW _ _ _ _ (by omega)] at hm
   split at hm
   ·exact hv w (abY hm)
   ·exact h1 w (abY hm)
theorem OL.DM {H:Hp}{el es:Nat}{x:AV}{L:List (List AV)}(h:OL H el es x L){i k b o:Nat}{c:List AV}{v:AV}(hi:L[i]? = some c)(Lw:∀ kd,ia es x (.int kd i)=some (.ptr b o))(hv:dF v=true)(hk:k<es) :
  ∃ H',st 1 (.ptr b (o+k)) v H=some H'/\OL H' el es x (L.set i (c.set k v))/\Out (aa x) H H'/\H'.next=H.next:=by
 obtain⟨H',h1,h2⟩:=h.ahL (k:=k) (vs:=[v]) hi Lw (fun u hu=>by rw[yX] at hu;subst hu;exact hv) (by simp only[abg,abQ];omega) (by omega)
 refine⟨H',?_,h2⟩
 unfold st
 simp only[acW hv]
 exact h1
end Go.Proofs.YtbdlbhlhnpblpaaGreatDoor.Am.K
namespace Go.Proofs.YtbdlbhlhnpblpaaGreatDoor.fX
open Go Am Am.K eU du
theorem Rs.pF {H H':Hp}{x:AV}{rs:List (Nat × List Nat)}{ys:List AV}{S:List Nat}(h:Rs H x rs ys)(k:Out S H H')(hx:∀ j∈aa x,j∉S)(hy:∀ y∈ys,∀ j∈aa y,j∉S):Rs H' x rs ys:=
 ⟨h.own.out k hx,h.len,fun j y r h1 h2=>(h.row j y r h1 h2).out k (hy y (abY h1)),h.sep⟩
theorem Rs.tk {H:Hp}{x:AV}{rs:List (Nat × List Nat)}{ys:List AV}(h:Rs H x rs ys):∀ y∈ys,∀ i∈aa y,i<H.next:=by
 intro y hy i hi
 obtain⟨j,hj⟩:=agh.1 hy
 have nW:=(aaL.1 hj).1
 exact (h.row j y _ hj (abb (by rw[<-h.len];exact nW))).lt i hi
theorem Rs.push {H:Hp}{s y:AV}{rs:List (Nat × List Nat)}{ys:List AV}{a:Nat}{b:List Nat}(h:Rs H s rs ys)(hy:Rw H 1 y (bs b))(hd:∀ i∈aa y,i∉aa s)(hl:rs.length<=100000) :
  ∃ H1 s' H2,cP H [.int .u64 (a:Nat),y] 37 0=some (H.next,H1)/\fQ 37 2 [.int .u64 0,.ae] false s (.slice H.next 0 1 1 true 2) H1=some (s',H2)/\
   Rs H2 s' (rs++[(a,b)]) (ys++[y])/\Out (aa s) H H2/\(∀ j∈aa s',j∈aa s\/H.next<=j):=by
 obtain⟨H4,m1,m2,m3,m4⟩:=iI H [.int .u64 ((a:Nat):Int),y] 37 0 (by simp)
 have gV:Rw H4 2 (.slice H.next 0 1 1 true 2) [.int .u64 ((a:Nat):Int),y] := .mk m2.ro rfl (zf _) rfl
 have Dg:=h.out m3
 have mN:=h.own.rw.lt
 obtain⟨s',H5,a1,a2,a3,a4⟩:=tJ (z:=[.int .u64 0,.ae]) Dg.own gV (by
  intro v hv
  rcases aap.1 hv with rfl | hv
  ·rfl
  ·rcases aap.1 hv with rfl | hv
   ·exact vK hy
   ·cases hv) (by omega) (by rw[wg _ _ h.len];simp only[abg,abQ];omega)
 have yo:Rw H4 1 y (bs b):=hy.out m3 fun j _ q=>by cases q
 have fS:=hy.lt
 have RD:∀ j∈aa s',j∈aa s\/H.next<=j:=fun j hj=>(a4 j hj).imp id fun q=>abl m3.1 q
 refine⟨H4,s',H5,m1,a1,⟨by rw[P3 _ _ _ _ h.len];exact a2,by simp[h.len],?_,?_⟩,(m3.mono fun j hj=>by cases hj).trans a3,RD⟩
 ·intro j z r h3 h4
  by_cases hj:j<ys.length
  ·rw[abi hj] at h3
   rw[abi (by rw[<-h.len];exact hj)] at h4
   exact (Dg.row j z r h3 h4).out a3 (h.sep z (abY h3))
  ·rw[abM (by omega)] at h3
   rw[abM (by rw[<-h.len];omega),<-h.len] at h4
   obtain⟨e1,rfl⟩:j-ys.length=0/\z=y:=by
    cases hq:j-ys.length with
    | zero=>rw[hq] at h3;simp at h3;exact⟨rfl,h3.symm⟩
    | succ q=>rw[hq] at h3;simp at h3
   rw[e1] at h4
   simp at h4
   subst h4
   exact yo.out a3 hd
 ·intro z hz i hi q
  rcases aac.1 hz with hz | hz
  ·rcases RD i q with q | q
   ·exact h.sep z hz i hi q
   ·have:=h.tk z hz i hi;omega
  ·rw[yX] at hz
   subst hz
   rcases RD i q with q | q
   ·exact hd i hi q
   ·have:=fS i hi;omega
end Go.Proofs.YtbdlbhlhnpblpaaGreatDoor.fX
namespace Go.Proofs.YtbdlbhlhnpblpaaGreatDoor.du
open Go Am Am.K eU Sg gM iR fX cS
section
def pc (q:Int × Int):List AV:=[.int .i64 q.1,.int .i64 q.2]
def Ji (lp:Nat)(xp xr:AV)(p:Nat)(L:Lay):List Nat:=lp::(aa xp++(aa xr++cB p L))
structure LM where
 cN:Int
 m:SM
 parts:List (Int × Int)
 ab:List (Nat × List Nat)
 first:Int
 sure:Int
structure LP where
 L:Lay
 xp:AV
 xr:AV
 ys:List AV
abbrev lf (lp p:Nat)(l:LP):List Nat:=Ji lp l.xp l.xr p l.L
structure Lg (H:Hp)(lp p:Nat)(m:LM)(l:LP):Prop where
 head:C0 H lp [.ptr p 0,.int .i64 m.cN,l.xp,l.xr,.int .i64 m.first,.int .i64 m.sure]
 st:St H p m.m l.L
 parts:OL H 66 2 l.xp (m.parts.map pc)
 ab:Rs H l.xr m.ab l.ys
 nd:(lf lp p l).Nodup
 row:∀ y∈l.ys,∀ i∈aa y,i∉lf lp p l
def cG (lp p:Nat)(H:Hp)(l:LP)(H':Hp)(l':LP):Prop:=Out (lf lp p l) H H'/\∀ j∈lf lp p l',j∈lf lp p l\/H.next<=j
theorem cG.refl (lp p:Nat)(H:Hp)(l:LP):cG lp p H l H l:=⟨Out.refl _ _,fun _ h => .inl h⟩
theorem cG.trans {lp p:Nat}{H H' sC:Hp}{l l' XX:LP}(h:cG lp p H l H' l')(k:cG lp p H' l' sC XX):cG lp p H l sC XX:=
 ⟨h.1.then k.1 h.2,fun j hj=>(k.2 j hj).elim (fun q=>h.2 j q) (fun q => .inr (abl h.1.1 q))⟩
section
variable {H:Hp}{lp p:Nat}{m:LM}{l:LP}
theorem og:lp∈lf lp p l := .head _
theorem qH {j:Nat}(h:j∈aa l.xp):j∈lf lp p l := .tail _ (aaz _ h)
theorem vw {j:Nat}(h:j∈aa l.xr):j∈lf lp p l := .tail _ (No _ (aaz _ h))
theorem kV {j:Nat}(h:j∈cB p l.L):j∈lf lp p l := .tail _ (No _ (No _ h))
theorem F8 {j:Nat}(h:j∈lf lp p l):j=lp\/j∈aa l.xp\/j∈aa l.xr\/j∈cB p l.L:=by
 rcases aap.1 h with h | h
 ·exact .inl h
 rcases aac.1 h with h | h
 ·exact .inr (.inl h)
 rcases aac.1 h with h | h
 ·exact .inr (.inr (.inl h))
 ·exact .inr (.inr (.inr h))
theorem Lg.lt (h:Lg H lp p m l):∀ j∈lf lp p l,j<H.next:=by
 intro j hj
 rcases F8 hj with rfl | hj | hj | hj
 ·exact h.head.lt
 ·exact h.parts.1.rw.lt j hj
 ·exact h.ab.own.rw.lt j hj
 ·exact h.st.lt j hj
theorem Lg.out {H':Hp}{S:List Nat}(h:Lg H lp p m l)(k:Out S H H')(hs:∀ j∈lf lp p l,j∉S)(hy:∀ y∈l.ys,∀ i∈aa y,i∉S):Lg H' lp p m l:=
 ⟨h.head.out k (hs _ og),h.st.out k fun j hj=>hs _ (kV hj),h.parts.out k fun j hj=>hs _ (qH hj),h.ab.pF k (fun j hj=>hs _ (vw hj)) hy,h.nd,h.row⟩
theorem Lg.gR {H':Hp}(h:Lg H lp p m l)(k:Out [] H H'):Lg H' lp p m l:=h.out k (fun _ _ q=>by cases q) (fun _ _ _ _ q=>by cases q)
theorem Lg.apart (h:Lg H lp p m l):(lp∉aa l.xp/\lp∉aa l.xr/\lp∉cB p l.L)/\(∀ j∈aa l.xp,j∉aa l.xr/\j∉cB p l.L)/\(∀ j∈aa l.xr,j∉cB p l.L):=by
 have hn:=h.nd
 unfold lf Ji at hn
 rw[ab0,acd,acd] at hn
 obtain⟨n1,n2,⟨n3,n4,n5⟩,n6⟩:=hn
 refine⟨⟨fun q=>n1 (aaz _ q),fun q=>n1 (No _ (aaz _ q)),fun q=>n1 (No _ (No _ q))⟩,fun j hj=>⟨fun q=>n6 j hj j (aaz _ q) rfl,fun q=>n6 j hj j (No _ q) rfl⟩,fun j hj q=>n5 j hj j q rfl⟩
theorem KS {xp xr:AV}{L:Lay}(hL:(cB p L).Nodup)(a1:lp∉aa xp)(a2:lp∉aa xr)(a3:lp∉cB p L)(b1:∀ j∈aa xp,j∉aa xr)(b2:∀ j∈aa xp,j∉cB p L)(b3:∀ j∈aa xr,j∉cB p L):(Ji lp xp xr p L).Nodup:=by
 unfold Ji
 rw[ab0,acd,acd]
 refine⟨fun q => ?_,tX _,⟨tX _,hL,fun a ha b hb e=>b3 a ha (e▸hb)⟩,fun a ha b hb e => ?_⟩
 ·rcases aac.1 q with q | q
  ·exact a1 q
  rcases aac.1 q with q | q
  ·exact a2 q
  ·exact a3 q
 ·subst e
  rcases aac.1 hb with q | q
  ·exact b1 a ha q
  ·exact b2 a ha q
theorem Lg.wi {H':Hp}{m':SM}{L':Lay}(h:Lg H lp p m l)(hs:St H' p m' L')(hg:fC p H l.L H' L'):Lg H' lp p { m with m:=m' } { l with L:=L' }/\cG lp p H l H' { l with L:=L' }:=by
 obtain⟨⟨a1,a2,a3⟩,b,b3⟩:=h.apart
 have bW:=h.lt
 have new:∀ j,j<H.next->j∉cB p l.L->j∉cB p L':=fun j hj hn q=>(hg.2 j q).elim hn fun q=>by omega
 have hf:∀ j∈lf lp p { l with L:=L' },j∈lf lp p l\/H.next<=j:=by
  intro j hj
  rcases F8 hj with rfl | hj | hj | hj
  ·exact .inl og
  ·exact .inl (qH hj)
  ·exact .inl (vw hj)
  ·exact (hg.2 j hj).imp kV id
 refine⟨⟨h.head.out hg.1 a3,hs,h.parts.out hg.1 fun j hj=>(b j hj).2,h.ab.pF hg.1 b3 fun y hy i hi q=>h.row y hy i hi (kV q),?_,fun y hy i hi q => ?_⟩,hg.1.mono fun j hj=>kV hj,hf⟩
 ·exact KS hs.nd a1 a2 (new _ (bW _ og) a3) (fun j hj=>(b j hj).1) (fun j hj=>new j (bW _ (qH hj)) (b j hj).2) fun j hj=>new j (bW _ (vw hj)) (b3 j hj)
 ·rcases hf i q with q | q
  ·exact h.row y hy i hi q
  ·have:=h.ab.tk y hy i hi;omega
theorem Lg.PI {H1:Hp}{xp:AV}{ps:List (Int × Int)}(h:Lg H lp p m l)(ho:OL H1 66 2 xp (ps.map pc))(hg:Out (aa l.xp) H H1)(hr:∀ j∈aa xp,j∈aa l.xp\/H.next<=j) :
  ∃ H2,K.st 1 (.ptr lp 2) xp H1=some H2/\Lg H2 lp p { m with parts:=ps } { l with xp:=xp }/\cG lp p H l H2 { l with xp:=xp }:=by
 obtain⟨⟨a1,a2,a3⟩,b,b3⟩:=h.apart
 have bW:=h.lt
 obtain⟨H2,s1,s2,s3,s4⟩:=(h.head.out hg a1).st (o:=2) (v:=xp) (by simp) ho.1.rw.one
 have n2:∀ j,j≠lp->j∉[lp]:=fun j hj q=>hj (yX.1 q)
 have new:∀ j,j<H.next->j∉aa l.xp->j∉aa xp:=fun j hj hn q=>(hr j q).elim hn fun q=>by omega
 have hf:∀ j∈lf lp p { l with xp:=xp },j∈lf lp p l\/H.next<=j:=by
  intro j hj
  rcases F8 hj with rfl | hj | hj | hj
  ·exact .inl og
  ·exact (hr j hj).imp qH id
  ·exact .inl (vw hj)
  ·exact .inl (kV hj)
 have wB:lp∉aa xp:=new _ (bW _ og) a1
 refine⟨H2,s1,⟨s2,(h.st.out hg fun j hj q=>(b j q).2 hj).out s3 fun j hj=>n2 j fun q=>a3 (q▸hj),ho.out s3 fun j hj=>n2 j fun q=>wB (q▸hj),(h.ab.pF hg (fun j hj q=>(b j q).1 hj) fun y hy i hi q=>h.row y hy i hi (qH q)).pF s3 (fun j hj=>n2 j fun q=>a2 (q▸hj)) (fun y hy i hi=>n2 i fun q=>h.row y hy i hi (q▸og)),?_,fun y hy i hi q => ?_⟩,(hg.mono fun j hj=>qH hj).trans (s3.mono fun j hj=>by rw[yX.1 hj];exact og),hf⟩
 ·exact KS h.st.nd wB a2 a3 (fun j hj=>(hr j hj).elim (fun q=>(b j q).1) fun q e=>by have:=bW j (vw e);omega) (fun j hj=>(hr j hj).elim (fun q=>(b j q).2) fun q e=>by have:=bW j (kV e);omega) b3
 ·rcases hf i q with q | q
  ·exact h.row y hy i hi q
  ·have:=h.ab.tk y hy i hi;omega
theorem Lg.Zn {H1:Hp}{ps:List (Int × Int)}(h:Lg H lp p m l)(ho:OL H1 66 2 l.xp (ps.map pc))(hg:Out (aa l.xp) H H1):Lg H1 lp p { m with parts:=ps } l/\cG lp p H l H1 l:=by
 obtain⟨⟨a1,a2,a3⟩,b,b3⟩:=h.apart
 exact⟨⟨h.head.out hg a1,h.st.out hg fun j hj q=>(b j q).2 hj,ho,h.ab.pF hg (fun j hj q=>(b j q).1 hj) fun y hy i hi q=>h.row y hy i hi (qH q),h.nd,h.row⟩,hg.mono fun j hj=>qH hj,fun j hj => .inl hj⟩
theorem Lg.MT {H1:Hp}{xr:AV}{rs:List (Nat × List Nat)}{ys:List AV}(h:Lg H lp p m l)(ho:Rs H1 xr rs ys)(hg:Out (aa l.xr) H H1)(hr:∀ j∈aa xr,j∈aa l.xr\/H.next<=j)(hy:∀ y∈ys,∀ i∈aa y,i∉lf lp p l/\i<H.next) :
  ∃ H2,K.st 1 (.ptr lp 3) xr H1=some H2/\Lg H2 lp p { m with ab:=rs } { l with xr:=xr,ys:=ys }/\cG lp p H l H2 { l with xr:=xr,ys:=ys }:=by
 obtain⟨⟨a1,a2,a3⟩,b,b3⟩:=h.apart
 have bW:=h.lt
 obtain⟨H2,s1,s2,s3,s4⟩:=(h.head.out hg a2).st (o:=3) (v:=xr) (by simp) ho.own.rw.one
 have n2:∀ j,j≠lp->j∉[lp]:=fun j hj q=>hj (yX.1 q)
 have new:∀ j,j<H.next->j∉aa l.xr->j∉aa xr:=fun j hj hn q=>(hr j q).elim hn fun q=>by omega
 have hf:∀ j∈lf lp p { l with xr:=xr,ys:=ys },j∈lf lp p l\/H.next<=j:=by
  intro j hj
  rcases F8 hj with rfl | hj | hj | hj
  ·exact .inl og
  ·exact .inl (qH hj)
  ·exact (hr j hj).imp vw id
  ·exact .inl (kV hj)
 have wB:lp∉aa xr:=new _ (bW _ og) a2
 refine⟨H2,s1,⟨s2,(h.st.out hg fun j hj q=>b3 j q hj).out s3 fun j hj=>n2 j fun q=>a3 (q▸hj),(h.parts.out hg fun j hj=>(b j hj).1).out s3 fun j hj=>n2 j fun q=>a1 (q▸hj),ho.pF s3 (fun j hj=>n2 j fun q=>wB (q▸hj)) (fun y B7 i hi=>n2 i fun q=>(hy y B7 i hi).1 (q▸og)),?_,fun y B7 i hi q => ?_⟩,(hg.mono fun j hj=>vw hj).trans (s3.mono fun j hj=>by rw[yX.1 hj];exact og),hf⟩
 ·exact KS h.st.nd a1 wB a3 (fun j hj q=>(hr j q).elim (fun q=>(b j hj).1 q) fun q=>by have:=bW j (qH hj);omega) (fun j hj=>(b j hj).2) (fun j hj=>(hr j hj).elim (fun q=>b3 j q) fun q e=>by have:=bW j (kV e);omega)
 ·obtain⟨e1,e2⟩:=hy y B7 i hi
  rcases hf i q with q | q
  ·exact e1 q
  ·omega
end
end
theorem OL.Vu {H:Hp}{el es lx:Nat}{z:List AV}{s:AV}{L:List (List AV)}{vs:List AV}(h:OL H el es s L)(hv:∀ v∈vs,dF v=true)(hn:vs.length=es)(di:0<es)(hk:es<=1000)(hlen:(L.length+1)*es<=16777216) :
  ∃ H1 s' H2,cP H vs lx 0=some (H.next,H1)/\fQ el es z false s (.slice H.next 0 1 1 true es) H1=some (s',H2)/\OL H2 el es s' (L++[vs])/\Out [] H H1/\Out (aa s) H H2/\(∀ j∈aa s',j∈aa s\/H.next<=j):=by
 obtain⟨H1,m1,m2,m3,m4⟩:=iI H vs lx 0 (by omega)
 have gV:Rw H1 es (.slice H.next 0 1 1 true es) vs := .mk m2.ro (by omega) (zf _) rfl
 obtain⟨s',H2,a1,a2,a3,a4⟩:=tJ (z:=z) (h.1.out m3 fun j _ q=>by cases q) gV hv di (by
  rw[A2 h.2,hn]
  rw[adC,ag0] at hlen
  exact hlen)
 refine⟨H1,s',H2,m1,a1,⟨by rw[List.flatten_append];simpa using a2,fun c hc => ?_⟩,m3,(m3.mono fun j hj=>by cases hj).trans a3,fun j hj=>(a4 j hj).imp id fun q=>abl m3.1 q⟩
 rcases aac.1 hc with hc | hc
 ·exact h.2 c hc
 ·rw[yX] at hc;subst hc;exact hn
theorem DZ {H:Hp}{b o n:Nat}{c:List AV}(h:cU H b o n=some c):cn n (.ptr b o) H=some (.agg c):=by
 unfold cn
 simp only[h]
 rfl
theorem Dw {H:Hp}{b o:Nat}{v:AV}(h:cellAt H b o=some v):ld (.ptr b o) H=some v:=h
end Go.Proofs.YtbdlbhlhnpblpaaGreatDoor.du
namespace Go.Proofs.YtbdlbhlhnpblpaaGreatDoor.fX
open Go Am Am.K eU du
theorem Rs.cn {H:Hp}{x:AV}{rs:List (Nat × List Nat)}{ys:List AV}(h:Rs H x rs ys){j:Nat}{r:Nat × List Nat}(hj:rs[j]? = some r) :
  ∃ i o y,(∀ k,ia 2 x (.int k j)=some (.ptr i o))/\K.cn 2 (.ptr i o) H=some (.agg [.int .u64 (r.1:Nat),y])/\ld (.ptr i (o+0)) H=some (.int .u64 (r.1:Nat))/\ld (.ptr i (o+1)) H=some y/\Rw H 1 y (bs r.2)/\y∈ys:=by
 have bW:=(aaL.1 hj).1
 obtain⟨y0,hy⟩:∃ y0,ys[j]? = some y0:=⟨_,abb (by rw[h.len];exact bW)⟩
 obtain⟨g0,g1⟩:=LN rs ys j r _ hj hy
 obtain⟨b,o,h1,h2,h3,h4,h5⟩:=h.own.rw.ia (wg _ _ h.len) (by decide) bW
 have hc:((jh rs ys).drop (j*2)).take 2=[.int .u64 (r.1:Nat),y0]:=by
  apply List.ext_getElem?
  intro k
  match k with
  | 0=>rw[ac1,if_pos (by decide),acL];exact g0
  | 1=>rw[ac1,if_pos (by decide),acL];exact g1
  | k+2=>rw[ac1,if_neg (by omega)];simp
 rw[hc] at h5
 refine⟨b,o,y0,h1,DZ h5,?_,?_,h.row j _ r hy hj,abY hy⟩
 ·exact Dw (h4 0 _ g0 (by decide))
 ·exact Dw (h4 1 _ g1 (by decide))
end Go.Proofs.YtbdlbhlhnpblpaaGreatDoor.fX
namespace Go.Proofs.YtbdlbhlhnpblpaaGreatDoor.du
open Go Am Am.K eU Sg gM iR fX cS
section
section
section
section
section
section
section
variable {H:Hp}{lp p:Nat}{m:LM}{l:LP}
def cJ (m:LM):Int:=m.first+m.ab.length
def jK (m:LM):Int:=match m.ab.getLast? with | none=>0 | some r=>((r.1 / 17592186044416:Nat):Int)
structure Small (m:LM):Prop where
 first:0<=m.first/\m.first<=17592186040000
 ab:m.ab.length<=1000
 at':∀ r∈m.ab,r.1<18446744073709551616
 parts:m.parts.length<=1000
 part:∀ q∈m.parts,0<=q.2/\q.2<=1000000000
theorem mr (h:Lg H lp p m l)(hs:Small m):cK (.func (.func 16) [] []) [.ptr lp 0] H=some (.int .i64 (cJ m),H):=by
 refine alP ?_
 unfold ZJ cJ
 have l4:=h.head.ld (o:=4) rfl
 have l3:=h.head.ld (o:=3) rfl
 have hl:=h.ab.nX
 have h1:=hs.first
 have h2:=hs.ab
 have w:IntKind.wrap .i64 (m.first+(m.ab.length:Nat))=m.first+(m.ab.length:Nat):=wrap_i64 (by omega) (by omega)
 simp only[l4,l3,hl,w,az,bd,aw,av,bG,aH,au,ak,aK,aA,aP,bK,aE,bO,bC,aR,bu,ay,bF,aT,aC,bq,aU,bI,bM,ba,aI,aW,aQ,ar,aV,a7,bS,aF,aO,bt,bJ,aN,aM,aD,bB,br,aY,bQ,bT,bk,bH,af,bp,ag,bP,ah,aB,aG,bw,bA,bR,aL,bN,bD,bo,aj,bh,bg,aq,ai,aS,a8,aZ,bE,aJ,nq,gk,wc,yL,yB,decide_true,decide_false,Int.reduceBEq,Int.reduceBNe,Int.reduceLT,Int.reduceLE,Int.reduceGT,Int.reduceGE,Int.reduceNeg,aaJ,bne_self_eq_false,ge_iff_le,gt_iff_lt]
theorem XO (h:Lg H lp p m l)(hs:Small m):cK (.func (.func 22) [] []) [.ptr lp 0] H=some (.int .i64 (jK m),H):=by
 refine abU ?_
 unfold YL
 have l3:=h.head.ld (o:=3) rfl
 have hl:=h.ab.nX
 have h2:=hs.ab
 rcases List.eq_nil_or_concat m.ab with he | ⟨rs,r,he⟩
 ·have hm:jK m=0:=by unfold jK;rw[he];rfl
  rw[he] at hl
  rw[hm]
  simp only[l3,hl,abQ,Int.natCast_zero,show (((0:Nat):Int))=0 from rfl,az,bd,aw,av,bG,aH,au,ak,aK,aA,aP,bK,aE,bO,bC,aR,bu,ay,bF,aT,aC,bq,aU,bI,bM,ba,aI,aW,aQ,ar,aV,a7,bS,aF,aO,bt,bJ,aN,aM,aD,bB,br,aY,bQ,bT,bk,bH,af,bp,ag,bP,ah,aB,aG,bw,bA,bR,aL,bN,bD,bo,aj,bh,bg,aq,ai,aS,a8,aZ,bE,aJ,nq,gk,wc,yL,yB,decide_true,decide_false,Int.reduceBEq,Int.reduceBNe,Int.reduceLT,Int.reduceLE,Int.reduceGT,Int.reduceGE,Int.reduceNeg,aaJ,bne_self_eq_false,ge_iff_le,gt_iff_lt]
 ·rw[List.concat_eq_append] at he
  have hm:jK m=((r.1 / 17592186044416:Nat):Int):=by unfold jK;rw[he];simp
  have hn:m.ab.length=rs.length+1:=by rw[he];simp
  have hj:m.ab[rs.length]? = some r:=by rw[he];simp
  obtain⟨i,o,y,a1,a2,a3,a4,a5,a6⟩:=h.ab.cn hj
  have d:((((m.ab.length:Nat):Int))==0)=false:=by rw[beq_eq_false_iff_ne];omega
  have w:IntKind.wrap .i64 ((m.ab.length:Nat)-1)=((rs.length:Nat):Int):=by rw[wrap_i64 (by omega) (by omega)];omega
  have e:=R7 (H:=H) r.1 (hs.at' r (abY hj))
  have Gq:=a1 .i64
  rw[hm]
  rw[acJ] at a3
  simp only[l3,hl,d,w,Gq,a3,e,acJ,az,bd,aw,av,bG,aH,au,ak,aK,aA,aP,bK,aE,bO,bC,aR,bu,ay,bF,aT,aC,bq,aU,bI,bM,ba,aI,aW,aQ,ar,aV,a7,bS,aF,aO,bt,bJ,aN,aM,aD,bB,br,aY,bQ,bT,bk,bH,af,bp,ag,bP,ah,aB,aG,bw,bA,bR,aL,bN,bD,bo,aj,bh,bg,aq,ai,aS,a8,aZ,bE,aJ,nq,gk,wc,yL,yB,decide_true,decide_false,Int.reduceBEq,Int.reduceBNe,Int.reduceLT,Int.reduceLE,Int.reduceGT,Int.reduceGE,Int.reduceNeg,aaJ,bne_self_eq_false,ge_iff_le,gt_iff_lt]
theorem vh {H:Hp}(hT:fY H dL)(hn:11<=H.next){f:Int}(s:Int)(hf:eP f=true) :
  ∃ H',cK (.func (.func 28) [] []) [.agg [.int .i64 f,.int .i64 s]] H=some (.str (bU f),H')/\Out [] H H':=by
 obtain⟨H1,b1,b2,b3,b4⟩:=xC H 66 (.agg [.int .i64 f,.int .i64 s]) [.int .i64 f,.int .i64 s] rfl (by simp)
 have l0:ld (.ptr H.next 0) H1=some (.int .i64 f):=b2.ld rfl
 have jj:=SJ an (Uc (ma hT hn b3)) f
 refine⟨H1,ahK ?_,b3⟩
 unfold Yz
 simp only[b1,l0,jj,az,bd,aw,av,bG,aH,au,ak,aK,aA,aP,bK,aE,bO,bC,aR,bu,ay,bF,aT,aC,bq,aU,bI,bM,ba,aI,aW,aQ,ar,aV,a7,bS,aF,aO,bt,bJ,aN,aM,aD,bB,br,aY,bQ,bT,bk,bH,af,bp,ag,bP,ah,aB,aG,bw,bA,bR,aL,bN,bD,bo,aj,bh,bg,aq,ai,aS,a8,aZ,bE,aJ,nq,gk,wc,yL,yB,decide_true,decide_false,Int.reduceBEq,Int.reduceBNe,Int.reduceLT,Int.reduceLE,Int.reduceGT,Int.reduceGE,Int.reduceNeg,aaJ,bne_self_eq_false,ge_iff_le,gt_iff_lt]
end
end
def dH (m:LM):Int × Int:=(m.parts.getLast?).getD (0,0)
noncomputable def pO (m:LM)(a:Nat)(b:List Nat):LM:=
 if m.parts=[]\/m.cN<=(dH m).2 then { m with m:=(ff m.m (bU (cJ m)) (fr a b)).2,parts:=m.parts++[(cJ m,0+((16+b.length:Nat):Int))],ab:=m.ab++[(a,b)] }
 else { m with m:=(ff m.m (bU (dH m).1) (fr a b)).2,parts:=m.parts.set (m.parts.length-1) ((dH m).1,(dH m).2+((16+b.length:Nat):Int)),ab:=m.ab++[(a,b)] }
theorem AI (q:Int × Int):∀ v∈pc q,dF v=true:=by
 intro v hv
 unfold pc at hv
 rcases aap.1 hv with rfl | hv
 ·rfl
 ·rcases aap.1 hv with rfl | hv
  ·rfl
  ·cases hv
theorem acp {a:Nat}{b:List Nat}(hb:∀ v∈b,v<256):∀ v∈fr a b,v<256:=by
 intro v h
 rcases aac.1 h with h | h
 ·rcases aac.1 h with h | h
  ·exact abt _ _ v h
  ·exact J3 _ _ v h
 ·exact hb v h
section
variable {H:Hp}{lp p:Nat}{m:LM}{l:LP}
theorem ZE (h:Lg H lp p m l){i t fl' a:Nat}{x':AV}{b:List Nat}(box:Cs H i [.int .u64 (a:Nat),x'] t fl')(hi:i∉lf lp p l)(hx:Rw H 1 x' (bs b))(lF:∀ j∈aa x',j∉lf lp p l)(hr:m.ab.length<=1000)
  {k:Nat} {f s:Int} (hq:m.parts[k]? = some (f,s)) (hs:0<=s/\s<=1000000000) {n:Nat} (hn:n<=1000000) :
  ∃ bb o H1 H2 s' H3 H4,ia 2 l.xp (.int .i64 (k:Nat))=some (.ptr bb o)/\ld (.ptr bb (o+1)) H=some (.int .i64 s)/\df (.int .i64 s) (.int .i64 (n:Nat))=some (.int .i64 (s+n))/\st 1 (.ptr bb (o+1)) (.int .i64 (s+n)) H=some H1/\
   ld (.ptr lp 2) H=some l.xp/\ld (.ptr lp 3) H1=some l.xr/\cn 2 (.ptr i 0) H1=some (.agg [.int .u64 (a:Nat),x'])/\fl [.int .u64 0,.ae] [(0,2,.agg [.int .u64 (a:Nat),x'])]=some [.int .u64 (a:Nat),x']/\
   cP H1 [.int .u64 (a:Nat),x'] 37 0=some (H1.next,H2)/\fQ 37 2 [.int .u64 0,.ae] false l.xr (.slice H1.next 0 1 1 true 2) H2=some (s',H3)/\st 1 (.ptr lp 3) s' H3=some H4/\ld (.ptr lp 3) H2=some l.xr/\same l.xr l.xr=true/\
   Lg H4 lp p { m with parts:=m.parts.set k (f,s+n),ab:=m.ab++[(a,b)] } { l with xr:=s',ys:=l.ys++[x'] }/\cG lp p H l H4 { l with xr:=s',ys:=l.ys++[x'] }:=by
 have py:(m.parts.map pc)[k]? = some (pc (f,s)):=by rw[acD,hq];rfl
 obtain⟨bb,o,r1,r2,r3,r4,r5⟩:=h.parts.rl.at (by decide) py
 have tM:ld (.ptr bb (o+1)) H=some (.int .i64 s):=Dw (r5 1 _ rfl)
 obtain⟨H1,s1,s2,s3,s4⟩:=h.parts.DM (k:=1) py r1 (v := .int .i64 (s+n)) rfl (by decide)
 have e:(m.parts.map pc).set k ((pc (f,s)).set 1 (.int .i64 (s+n)))=(m.parts.set k (f,s+n)).map pc:=by rw[List.map_set];rfl
 rw[e] at s2
 obtain⟨g1,g2⟩:=h.Zn s2 s3
 have xo:∀ j∈aa x',j∉aa l.xp:=fun j hj q=>lF j hj (qH q)
 have kZ:=hx.out s3 xo
 have af5:=box.out s3 fun q=>hi (qH q)
 obtain⟨H2,s',H3,m1,m2,m3,m4,m5⟩:=g1.ab.push (a:=a) kZ (fun j hj q=>lF j hj (vw q)) (by show m.ab.length<=100000;omega)
 have m0:Out [] H1 H2:=by
  obtain⟨Hq,z1,z2,z3,z4⟩:=iI H1 [.int .u64 ((a:Nat):Int),x'] 37 0 (by simp)
  rw[m1] at z1
  cases z1
  exact z3
 obtain⟨H4,k1,k2,k3⟩:=g1.MT m3 m4 m5 (fun y hy j hj=>by
  rcases aac.1 hy with hy | hy
  ·exact⟨h.row y hy j hj,g1.ab.tk y hy j hj⟩
  ·rw[yX] at hy
   subst hy
   exact⟨lF j hj,kZ.lt j hj⟩)
 have w:IntKind.wrap .i64 (s+(n:Int))=s+n:=wrap_i64 (by omega) (by omega)
 refine⟨bb,o,H1,H2,s',H3,H4,r1 .i64,tM,by rw[af,w],s1,h.head.ld (o:=2) rfl,g1.head.ld (o:=3) rfl,af5.cn (n:=2) (o:=0) (by simp),?_,m1,m2,k1,(g1.gR m0).head.ld (o:=3) rfl,Bu h.ab.own.rw,k2,g2.trans k3⟩
 have cr:=oU hx ((a:Nat):Int)
 simp[fl,cr]
end
end
theorem cG.mL {lp p:Nat}{H H':Hp}{l:LP}(h:Out [] H H'):cG lp p H l H' l:=⟨h.mono (fun j hj=>by cases hj),fun j hj => .inl hj⟩
noncomputable def rL (m:LM)(a:Nat)(b:List Nat):Int × SM:=ff m.m (bU (if m.parts=[]\/m.cN<=(dH m).2 then cJ m else (dH m).1)) (fr a b)
noncomputable def lH (m:LM)(a:Nat)(b:List Nat):Int × LM:=((rL m a b).1,if (rL m a b).1=0 then pO m a b else { m with m:=(rL m a b).2 })
section
variable {H:Hp}{lp p:Nat}{m:LM}{l:LP}
theorem ahD (h:Lg H lp p m l)(hs:Small m)(hT:fY H dL)(hn:11<=H.next){ep E:Nat}{y:AV}{b:List Nat}(hy:Rw H 1 y (bs b))(hb:∀ v∈b,v<256)(hlen:b.length<=1024)
  (mi:jK m<=ep) (jP:ep<=1048575) (hE:cJ m=(E:Nat)) (hE2:E<=17592186044415) (ea:∀ q∈m.parts,eP q.1=true) :
  ∃ H' l',cK (.func (.func 8) [] []) [.ptr lp 0,.int .i64 ep,y] H=some (.tuple [.int .u64 (if (lH m (ep*17592186044416+E) b).1=0 then ((ep*17592186044416+E:Nat):Int) else 0),.int .i64 (lH m (ep*17592186044416+E) b).1],H')/\Lg H' lp p (lH m (ep*17592186044416+E) b).2 l'/\cG lp p H l H' l'/\∀ y∈l'.ys,y∈l.ys\/∀ i∈aa y,H.next<=i:=by
 have e1:=XO h hs
 have d1:decide (((ep:Nat):Int)<jK m)=false:=decide_eq_false (by omega)
 have d2:decide ((1048575:Int)<((ep:Nat):Int))=false:=decide_eq_false (by omega)
 have e2:=mr h hs
 rw[hE] at e2
 have e3:=alo (H:=H) ep E jP hE2
 have ha:ep*17592186044416+E<18446744073709551616:=by omega
 have aeS:eP (cJ m)=true:=by rw[hE];exact xx (by omega) (by omega)
 generalize hA:ep*17592186044416+E=a at *
 have DY:=hy.lt
 have bW:=h.lt
 obtain⟨x',H1,c1,c2,c3,c4⟩:=fX.Pn hy (by omega)
 have f1:=M1 c2.rw ((a:Nat):Int)
 obtain⟨H2,n1,n2,n3,n4⟩:=iI H1 [.int .u64 0,.ae] 37 0 (by simp)
 obtain⟨H3,t1,t2,t3,t4⟩:=qo (n:=2) n2 (by omega) (oU c2.rw ((a:Nat):Int)) rfl rfl (by
  intro v hv
  rcases aap.1 hv with rfl | hv
  ·rfl
  ·rcases aap.1 hv with rfl | hv
   ·exact vK c2.rw
   ·cases hv)
 have t5:cn 2 (.ptr H1.next 0) H3=some (.agg [.int .u64 ((a:Nat):Int),x']):=t2.cn (n:=2) (o:=0) (by simp)
 have aes:=c2.rw.lt
 have Zp:Rw H3 1 x' (bs b):=(c2.rw.out n3 fun j _ q=>by cases q).out t3 fun j hj q=>by
  have:=aes j hj
  rw[yX] at q
  omega
 obtain⟨z,H4,p1,p2,p3,p4⟩:=akj (x := .ae) (l:=[]) .nil Zp ha hb hlen (by simp)
 rw[adt] at p3
 have zl:=p3.rw.il
 rw[gu,pj] at zl
 have o3:Out [] H H3:=(c3.trans n3).then t3 fun j hj=>by
  rw[yX] at hj
  have:=c3.1
  exact .inr (by omega)
 have o4:Out [] H H4:=o3.trans p2
 have h4:=h.gR o4
 have Vy:=t2.out p2 fun q=>by cases q
 have JC:=Zp.out p2 fun j _ q=>by cases q
 have lF:∀ j∈aa x',j∉lf lp p l:=fun j hj q=>by have:=c4 j hj;have:=bW j q;omega
 have hid:H1.next∉lf lp p l:=fun q=>by have:=bW _ q;have:=c3.1;omega
 have V1:∀ j∈aa z,j∉lf lp p l:=fun j hj q=>by have:=p4 j hj;have:=bW j q;have:=o3.1;omega
 have tB:=h4.parts.rl.len (by decide)
 rw[acs] at tB
 have Cv:=h4.head.ld (o:=2) rfl
 have JZ:=h4.head.ld (o:=1) rfl
 have l7:=h4.head.ld (o:=0) rfl
 have hZ:=hs.parts
 have w1:IntKind.wrap .i64 (((m.parts.length:Nat):Int)-1)=((m.parts.length:Nat):Int)-1:=wrap_i64 (by omega) (by omega)
 have w2:IntKind.wrap .i64 (((m.parts.length:Nat):Int)-1+1)=((m.parts.length:Nat):Int):=by rw[wrap_i64 (by omega) (by omega)];omega
 have Vz:=ma hT hn o4
 have Ry:11<=H4.next:=abl hn o4.1
 have frb:=acp (a:=a) hb
 have FA:=pj a b
 by_cases jg:m.parts=[]\/m.cN<=(dH m).2
 ·have aok:∀ (K1:Bool->R),(∀ c:Bool,c=true->K1 c=K1 true)->True:=fun _ _=>trivial
  have DP:=mr h4 hs
  rw[hE] at DP
  obtain⟨H5,u1,u2,u3,u4⟩:=iI H4 [.int .i64 0,.int .i64 0] 66 0 (by simp)
  obtain⟨H6,v1,v2,v3,v4⟩:=qo (n:=2) (v := .agg [.int .i64 (E:Nat),.int .i64 0]) (cs:=[.int .i64 (E:Nat),.int .i64 0]) u2 (by omega) rfl rfl rfl (AI ((E:Nat),0))
  have v5:cn 2 (.ptr H4.next 0) H6=some (.agg [.int .i64 (E:Nat),.int .i64 0]):=v2.cn (n:=2) (o:=0) (by simp)
  have o6:Out [] H4 H6:=u3.then v3 fun j hj=>by rw[yX] at hj;exact .inr (by omega)
  obtain⟨H7,q1,q2⟩:=vh (ma Vz Ry o6) (abl Ry o6.1) 0 aeS
  rw[hE] at q1
  have o7:Out [] H4 H7:=o6.trans q2
  have h6:=h4.gR o6
  have h7:=h4.gR o7
  have Ku:=h6.head.ld (o:=0) rfl
  have zP:=h7.head.ld (o:=0) rfl
  obtain⟨H8,L',r1,r2,r3⟩:=aa0 h7.st (bU (E:Nat)) (p3.rw.out o7 fun j _ q=>by cases q) frb fun j hj q=>V1 j hj (kV q)
  have hS:rL m a b=ff m.m (bU (E:Nat)) (fr a b):=by unfold rL;rw[if_pos jg,hE]
  obtain⟨m',lL⟩:∃ m',m'=(ff m.m (bU (E:Nat)) (fr a b)).2:=⟨_,rfl⟩
  have hX:lH m a b=((ff m.m (bU (E:Nat)) (fr a b)).1,if (ff m.m (bU (E:Nat)) (fr a b)).1=0 then pO m a b else { m with m:=m' }):=by unfold lH;rw[hS,lL]
  rw[hX]
  rw[<-lL] at r2
  obtain⟨h8,g8⟩:=h7.wi r2 r3
  generalize ei:(ff m.m (bU (E:Nat)) (fr a b)).1=q at *
  have fq:fl [(.int .i64 0),(.int .i64 0)] [(0,1,AV.int .i64 (E:Nat))]=some [.int .i64 (E:Nat),.int .i64 0]:=rfl
  by_cases sn:q=0
  case neg=>
   refine⟨H8,_,Kh ?_,by rw[if_neg sn];exact h8,(cG.mL o4:cG lp p H l H4 l).trans ((cG.mL o7:cG lp p H4 l H7 l).trans g8),fun y hy => .inl hy⟩
   rw[if_neg sn]
   have JI:(q != 0)=true:=by simpa using sn
   by_cases lA:m.parts=[]
   ·have d3:decide (((m.parts.length:Nat):Int)-1<0)=true:=decide_eq_true (by rw[lA];decide)
    unfold xD
    simp only[e1,d1,d2,e2,e3,c1,f1,n1,t1,t5,p1,Cv,tB,w1,d3,DP,fq,u1,v1,Ku,v5,q1,zP,eX (show same (.ptr p 0) (.ptr p 0)=true by simp[same,nb]),r1,JI,az,bd,aw,av,bG,aH,au,ak,aK,aA,aP,bK,aE,bO,bC,aR,bu,ay,bF,aT,aC,bq,aU,bI,bM,ba,aI,aW,aQ,ar,aV,a7,bS,aF,aO,bt,bJ,aN,aM,aD,bB,br,aY,bQ,bT,bk,bH,af,bp,ag,bP,ah,aB,aG,bw,bA,bR,aL,bN,bD,bo,aj,bh,bg,aq,ai,aS,a8,aZ,bE,aJ,nq,gk,wc,yL,yB,decide_true,decide_false,simprocAttr,aaJ,bne_self_eq_false,ge_iff_le,gt_iff_lt]
   ·have cx:1<=m.parts.length:=by
     cases hq:m.parts with
     | nil=>exact absurd hq lA
     | cons q r=>simp
    have d3:decide (((m.parts.length:Nat):Int)-1<0)=false:=decide_eq_false (by omega)
    have mY:m.parts[m.parts.length-1]? = some (dH m):=by
     unfold dH
     rw[List.getLast?_eq_getElem?,abb (by omega)]
     rfl
    obtain⟨b9,o9,z1,z2,z3,z4,z5⟩:=h4.parts.rl.at (by decide) (show (m.parts.map pc)[m.parts.length-1]? = some (pc (dH m)) by rw[acD,mY];rfl)
    have z6:ld (.ptr b9 (o9+1)) H4=some (.int .i64 (dH m).2):=Dw (z5 1 _ rfl)
    have z7:=z1 .i64
    rw[show (((m.parts.length-1:Nat):Int))=((m.parts.length:Nat):Int)-1 by omega] at z7
    have d4:decide (m.cN<=(dH m).2)=true:=decide_eq_true (jg.resolve_left lA)
    unfold xD
    simp only[e1,d1,d2,e2,e3,c1,f1,n1,t1,t5,p1,Cv,JZ,tB,w1,d3,z7,z6,d4,DP,fq,u1,v1,Ku,v5,q1,zP,eX (show same (.ptr p 0) (.ptr p 0)=true by simp[same,nb]),r1,JI,az,bd,aw,av,bG,aH,au,ak,aK,aA,aP,bK,aE,bO,bC,aR,bu,ay,bF,aT,aC,bq,aU,bI,bM,ba,aI,aW,aQ,ar,aV,a7,bS,aF,aO,bt,bJ,aN,aM,aD,bB,br,aY,bQ,bT,bk,bH,af,bp,ag,bP,ah,aB,aG,bw,bA,bR,aL,bN,bD,bo,aj,bh,bg,aq,ai,aS,a8,aZ,bE,aJ,nq,gk,wc,yL,yB,decide_true,decide_false,simprocAttr,aaJ,bne_self_eq_false,ge_iff_le,gt_iff_lt]
  subst sn
  rw[if_pos rfl,if_pos rfl]
  have ya:=h8.head.ld (o:=2) rfl
  have Fv:∀ j∈cB p l.L,j<H.next:=fun j hj=>bW j (kV hj)
  have v8:cn 2 (.ptr H4.next 0) H8=some (.agg [.int .i64 (E:Nat),.int .i64 0]):=((v2.out q2 fun q=>by cases q).out r3.1 fun q=>by have:=Fv _ q;have:=o4.1;omega).cn (n:=2) (o:=0) (by simp)
  obtain⟨H9,sp,CZ,i1,i2,i3,i4,i5,i6⟩:=OL.Vu (lx:=66) (z:=[.int .i64 0,.int .i64 0]) (vs:=pc ((E:Nat),0)) h8.parts (AI _) rfl (by decide) (by decide) (by rw[acs];show (m.parts.length+1)*2<=16777216;omega)
  have L8:OL CZ 66 2 sp ((m.parts++[((E:Int),(0:Int))]).map pc):=by rw[abz];exact i3
  obtain⟨Iw,k1,gZ,g11⟩:=h8.PI L8 i5 i6
  have Kr:=(h8.gR i4).head.ld (o:=2) rfl
  have oA:cG lp p H4 l Iw { l with L:=L',xp:=sp }:=(cG.mL o7:cG lp p H4 l H7 l).trans (g8.trans g11)
  have ie:∀ j,j<H4.next->j∉lf lp p l->j∉lf lp p { l with L:=L',xp:=sp }:=fun j h1 h2 q=>(oA.2 j q).elim h2 fun q=>by omega
  have OD:=JC.lt
  have MB:H1.next<H4.next:=by have:=p2.1;have:=t3.1;omega
  obtain⟨bb,o,HI,Cm,s',UJ,DS,y1,y2,y3,y4,y5,y6,y7,y8,y9,xE,uY,lU,I4,RZ,R3⟩:=ZE gZ (Vy.out oA.1 hid) (ie _ MB hid) (JC.out oA.1 lF) (fun j hj=>ie j (OD j hj) (lF j hj)) hs.ab (k:=m.parts.length) (f:=(E:Nat)) (s:=0) (by simp) (by omega) (n:=16+b.length) (by omega)
  refine⟨DS,_,Kh ?_,?_,(cG.mL o4:cG lp p H l H4 l).trans (oA.trans R3),fun y hy=>(aac.1 hy).imp id fun q=>by rw[yX] at q;subst q;exact c4⟩
  ·have fq:fl [(.int .i64 0),(.int .i64 0)] [(0,1,AV.int .i64 (E:Nat))]=some [.int .i64 (E:Nat),.int .i64 0]:=rfl
   have V9:fl [(.int .i64 0),(.int .i64 0)] [(0,2,AV.agg [.int .i64 (E:Nat),.int .i64 0])]=some [.int .i64 (E:Nat),.int .i64 0]:=rfl
   have sx:same l.xp l.xp=true:=Bu h.parts.1.rw
   unfold pc at i1
   by_cases lA:m.parts=[]
   ·have d3:decide (((m.parts.length:Nat):Int)-1<0)=true:=decide_eq_true (by rw[lA];decide)
    unfold xD
    simp only[e1,d1,d2,e2,e3,c1,f1,n1,t1,t5,p1,Cv,tB,w1,d3,DP,fq,u1,v1,Ku,v5,q1,zP,eX (show same (.ptr p 0) (.ptr p 0)=true by simp[same,nb]),r1,ya,v8,V9,i1,i2,k1,Kr,eX sx,w2,y1,y2,y3,y4,y5,y6,y7,y8,y9,xE,uY,lU,eX I4,zl,az,bd,aw,av,bG,aH,au,ak,aK,aA,aP,bK,aE,bO,bC,aR,bu,ay,bF,aT,aC,bq,aU,bI,bM,ba,aI,aW,aQ,ar,aV,a7,bS,aF,aO,bt,bJ,aN,aM,aD,bB,br,aY,bQ,bT,bk,bH,af,bp,ag,bP,ah,aB,aG,bw,bA,bR,aL,bN,bD,bo,aj,bh,bg,aq,ai,aS,a8,aZ,bE,aJ,nq,gk,wc,yL,yB,decide_true,decide_false,simprocAttr,aaJ,bne_self_eq_false,ge_iff_le,gt_iff_lt]
   ·have cx:1<=m.parts.length:=by
     cases hq:m.parts with
     | nil=>exact absurd hq lA
     | cons q r=>simp
    have d3:decide (((m.parts.length:Nat):Int)-1<0)=false:=decide_eq_false (by omega)
    have mY:m.parts[m.parts.length-1]? = some (dH m):=by
     unfold dH
     rw[List.getLast?_eq_getElem?,abb (by omega)]
     rfl
    obtain⟨b9,o9,z1,z2,z3,z4,z5⟩:=h4.parts.rl.at (by decide) (show (m.parts.map pc)[m.parts.length-1]? = some (pc (dH m)) by rw[acD,mY];rfl)
    have z6:ld (.ptr b9 (o9+1)) H4=some (.int .i64 (dH m).2):=Dw (z5 1 _ rfl)
    have z7:=z1 .i64
    rw[show (((m.parts.length-1:Nat):Int))=((m.parts.length:Nat):Int)-1 by omega] at z7
    have d4:decide (m.cN<=(dH m).2)=true:=decide_eq_true (jg.resolve_left lA)
    unfold xD
    simp only[e1,d1,d2,e2,e3,c1,f1,n1,t1,t5,p1,Cv,JZ,tB,w1,d3,z7,z6,d4,DP,fq,u1,v1,Ku,v5,q1,zP,eX (show same (.ptr p 0) (.ptr p 0)=true by simp[same,nb]),r1,ya,v8,V9,i1,i2,k1,Kr,eX sx,w2,y1,y2,y3,y4,y5,y6,y7,y8,y9,xE,uY,lU,eX I4,zl,az,bd,aw,av,bG,aH,au,ak,aK,aA,aP,bK,aE,bO,bC,aR,bu,ay,bF,aT,aC,bq,aU,bI,bM,ba,aI,aW,aQ,ar,aV,a7,bS,aF,aO,bt,bJ,aN,aM,aD,bB,br,aY,bQ,bT,bk,bH,af,bp,ag,bP,ah,aB,aG,bw,bA,bR,aL,bN,bD,bo,aj,bh,bg,aq,ai,aS,a8,aZ,bE,aJ,nq,gk,wc,yL,yB,decide_true,decide_false,simprocAttr,aaJ,bne_self_eq_false,ge_iff_le,gt_iff_lt]
  ·have:pO m a b={ m with m:=m',parts:=(m.parts++[((E:Int),(0:Int))]).set m.parts.length ((E:Int),0+((16+b.length:Nat):Int)),ab:=m.ab++[(a,b)] }:=by
    unfold pO
    rw[if_pos jg,lL,hE]
    simp
   rw[this]
   exact RZ
 ·have lA:m.parts≠[]:=fun q=>jg (.inl q)
  have cx:1<=m.parts.length:=by
   cases hq:m.parts with
   | nil=>exact absurd hq lA
   | cons q r=>simp
  have d3:decide (((m.parts.length:Nat):Int)-1<0)=false:=decide_eq_false (by omega)
  have mY:m.parts[m.parts.length-1]? = some (dH m):=by
   unfold dH
   rw[List.getLast?_eq_getElem?,abb (by omega)]
   rfl
  obtain⟨b9,o9,z1,z2,z3,z4,z5⟩:=h4.parts.rl.at (by decide) (show (m.parts.map pc)[m.parts.length-1]? = some (pc (dH m)) by rw[acD,mY];rfl)
  have z6:ld (.ptr b9 (o9+1)) H4=some (.int .i64 (dH m).2):=Dw (z5 1 _ rfl)
  have z7:=z1 .i64
  rw[show (((m.parts.length-1:Nat):Int))=((m.parts.length:Nat):Int)-1 by omega] at z7
  have z8:cn 2 (.ptr b9 o9) H4=some (.agg [.int .i64 (dH m).1,.int .i64 (dH m).2]):=DZ z4
  have d4:decide (m.cN<=(dH m).2)=false:=decide_eq_false fun q=>jg (.inr q)
  have ajO:eP (dH m).1=true:=ea _ (abY mY)
  obtain⟨H7,q1,q2⟩:=vh Vz Ry (dH m).2 ajO
  have o7:Out [] H4 H7:=q2
  have h7:=h4.gR o7
  have zP:=h7.head.ld (o:=0) rfl
  obtain⟨H8,L',r1,r2,r3⟩:=aa0 h7.st (bU (dH m).1) (p3.rw.out o7 fun j _ q=>by cases q) frb fun j hj q=>V1 j hj (kV q)
  have hS:rL m a b=ff m.m (bU (dH m).1) (fr a b):=by unfold rL;rw[if_neg jg]
  obtain⟨m',lL⟩:∃ m',m'=(ff m.m (bU (dH m).1) (fr a b)).2:=⟨_,rfl⟩
  have hX:lH m a b=((ff m.m (bU (dH m).1) (fr a b)).1,if (ff m.m (bU (dH m).1) (fr a b)).1=0 then pO m a b else { m with m:=m' }):=by unfold lH;rw[hS,lL]
  rw[hX]
  rw[<-lL] at r2
  obtain⟨h8,g8⟩:=h7.wi r2 r3
  generalize ei:(ff m.m (bU (dH m).1) (fr a b)).1=q at *
  by_cases sn:q=0
  case neg=>
   refine⟨H8,_,Kh ?_,by rw[if_neg sn];exact h8,(cG.mL o4:cG lp p H l H4 l).trans ((cG.mL o7:cG lp p H4 l H7 l).trans g8),fun y hy => .inl hy⟩
   rw[if_neg sn]
   have JI:(q != 0)=true:=by simpa using sn
   unfold xD
   simp only[e1,d1,d2,e2,e3,c1,f1,n1,t1,t5,p1,Cv,JZ,l7,tB,w1,d3,z7,z6,z8,d4,q1,zP,eX (show same (.ptr p 0) (.ptr p 0)=true by simp[same,nb]),r1,JI,az,bd,aw,av,bG,aH,au,ak,aK,aA,aP,bK,aE,bO,bC,aR,bu,ay,bF,aT,aC,bq,aU,bI,bM,ba,aI,aW,aQ,ar,aV,a7,bS,aF,aO,bt,bJ,aN,aM,aD,bB,br,aY,bQ,bT,bk,bH,af,bp,ag,bP,ah,aB,aG,bw,bA,bR,aL,bN,bD,bo,aj,bh,bg,aq,ai,aS,a8,aZ,bE,aJ,nq,gk,wc,yL,yB,decide_true,decide_false,simprocAttr,aaJ,bne_self_eq_false,ge_iff_le,gt_iff_lt]
  subst sn
  rw[if_pos rfl,if_pos rfl]
  have oA:cG lp p H4 l H8 { l with L:=L' }:=(cG.mL o7:cG lp p H4 l H7 l).trans g8
  have ie:∀ j,j<H4.next->j∉lf lp p l->j∉lf lp p { l with L:=L' }:=fun j h1 h2 q=>(oA.2 j q).elim h2 fun q=>by omega
  have OD:=JC.lt
  have MB:H1.next<H4.next:=by have:=p2.1;have:=t3.1;omega
  obtain⟨bb,o,HI,Cm,s',UJ,DS,y1,y2,y3,y4,y5,y6,y7,y8,y9,xE,uY,lU,I4,RZ,R3⟩:=ZE h8 (Vy.out oA.1 hid) (ie _ MB hid) (JC.out oA.1 lF) (fun j hj=>ie j (OD j hj) (lF j hj)) hs.ab (k:=m.parts.length-1) mY (hs.part _ (abY mY)) (n:=16+b.length) (by omega)
  rw[show (((m.parts.length-1:Nat):Int))=((m.parts.length:Nat):Int)-1 by omega] at y1
  obtain⟨rfl,rfl⟩:b9=bb/\o9=o:=by have:=z7.symm.trans y1;simpa using this
  refine⟨DS,_,Kh ?_,?_,(cG.mL o4:cG lp p H l H4 l).trans (oA.trans R3),fun y hy=>(aac.1 hy).imp id fun q=>by rw[yX] at q;subst q;exact c4⟩
  ·unfold xD
   simp only[e1,d1,d2,e2,e3,c1,f1,n1,t1,t5,p1,Cv,JZ,l7,tB,w1,d3,z7,z6,z8,d4,q1,zP,eX (show same (.ptr p 0) (.ptr p 0)=true by simp[same,nb]),r1,w2,y1,y2,y3,y4,y5,y6,y7,y8,y9,xE,uY,lU,eX I4,zl,az,bd,aw,av,bG,aH,au,ak,aK,aA,aP,bK,aE,bO,bC,aR,bu,ay,bF,aT,aC,bq,aU,bI,bM,ba,aI,aW,aQ,ar,aV,a7,bS,aF,aO,bt,bJ,aN,aM,aD,bB,br,aY,bQ,bT,bk,bH,af,bp,ag,bP,ah,aB,aG,bw,bA,bR,aL,bN,bD,bo,aj,bh,bg,aq,ai,aS,a8,aZ,bE,aJ,nq,gk,wc,yL,yB,decide_true,decide_false,simprocAttr,aaJ,bne_self_eq_false,ge_iff_le,gt_iff_lt]
  ·have:pO m a b={ m with m:=m',parts:=m.parts.set (m.parts.length-1) ((dH m).1,(dH m).2+((16+b.length:Nat):Int)),ab:=m.ab++[(a,b)] }:=by
    unfold pO
    rw[if_neg jg,lL]
   rw[this]
   exact RZ
end
end
noncomputable def jM:List (Int × Int)->SM->Int × SM
 | [],m=>(0,m)
 | q::r,m=>if (yd m (bU q.1):Int)=q.2 then jM r m else if (iV m (bU q.1)).1=0 then jM r (iV m (bU q.1)).2 else iV m (bU q.1)
noncomputable def pt (m:LM):Int × LM:=if m.m.off=true then (11,m) else
 ((jM m.parts m.m).1,{ m with m:=(jM m.parts m.m).2,sure:=if (jM m.parts m.m).1=0 then cJ m else m.sure })
section
variable {H:Hp}{lp p:Nat}{m:LM}{l:LP}
theorem AF (hT:fY H dL)(hn:11<=H.next){H':Hp}{l':LP}(dR:∀ j∈lf lp p l,11<=j)(g:cG lp p H l H' l'):fY H' dL/\11<=H'.next/\∀ j∈lf lp p l',11<=j:=by
 refine⟨?_,abl hn g.1.1,fun j hj=>(g.2 j hj).elim (dR j) fun q=>by omega⟩
 obtain⟨el,hh⟩:=hT
 refine⟨el,fun q l' hg => ?_⟩
 have hb:=RU q l' hg
 rw[g.1.2 q (by omega) fun z=>by have:=dR q z;omega]
 exact hh q l' hg
theorem Lg.Kt (h:Lg H lp p m l)(v:Int):∃ H2,K.st 1 (.ptr lp 5) (.int .i64 v) H=some H2/\Lg H2 lp p { m with sure:=v } l/\cG lp p H l H2 l:=by
 obtain⟨⟨a1,a2,a3⟩,b,b3⟩:=h.apart
 obtain⟨H2,s1,s2,s3,s4⟩:=h.head.st (o:=5) (v := .int .i64 v) (by simp) rfl
 have n2:∀ j,j≠lp->j∉[lp]:=fun j hj q=>hj (yX.1 q)
 refine⟨H2,s1,⟨s2,h.st.out s3 (fun j hj=>n2 j fun q=>a3 (q▸hj)),h.parts.out s3 (fun j hj=>n2 j fun q=>a1 (q▸hj)),h.ab.pF s3 (fun j hj=>n2 j fun q=>a2 (q▸hj)) (fun y hy i hi=>n2 i fun q=>h.row y hy i hi (q▸og)),h.nd,h.row⟩,s3.mono fun j hj=>by rw[yX.1 hj];exact og,fun j hj => .inl hj⟩
theorem Qg {ps:List (Int × Int)}(ea:∀ q∈ps,eP q.1=true)(hlen:ps.length<=1000):∀ (r a:List (Int × Int)) (H1:Hp) (m:LM) (l:LP),ps=a++r->fY H1 dL->11<=H1.next->Lg H1 lp p m l->m.parts=ps->(∀ j∈lf lp p l,11<=j)->
  ∃ H' l',(∀ k:K.Fn 1,Hj JN GO cK k (.ptr lp 0) l.xp (.int .i64 (ps.length:Nat)) (.int .i64 (a.length:Nat)) H1=if (jM r m.m).1=0 then k (.ptr lp 0) H' else some (.int .i64 (jM r m.m).1,H'))/\
   Lg H' lp p { m with m:=(jM r m.m).2 } l'/\cG lp p H1 l H' l'/\l'.xp=l.xp/\l'.ys=l.ys
 | [],a,H1,m,l,hA,hT,hn,h,gO,dR=>by
  rw[aeD] at hA
  subst hA
  have d:decide (((ps.length:Nat):Int)<((ps.length:Nat):Int))=false:=decide_eq_false (by omega)
  refine⟨H1,l,fun k => ?_,h,cG.refl _ _ _ _,rfl,rfl⟩
  rw[Ju,jM,if_pos rfl]
  simp only[Dm,d,az,bd,aw,av,bG,aH,au,ak,aK,aA,aP,bK,aE,bO,bC,aR,bu,ay,bF,aT,aC,bq,aU,bI,bM,ba,aI,aW,aQ,ar,aV,a7,bS,aF,aO,bt,bJ,aN,aM,aD,bB,br,aY,bQ,bT,bk,bH,af,bp,ag,bP,ah,aB,aG,bw,bA,bR,aL,bN,bD,bo,aj,bh,bg,aq,ai,aS,a8,aZ,bE,aJ,nq,gk,wc,yL,yB,decide_true,decide_false,simprocAttr,aaJ,bne_self_eq_false,ge_iff_le,gt_iff_lt]
 | s::r,a,H1,m,l,hA,hT,hn,h,gO,dR=>by
  have Wz:a.length<ps.length:=by rw[hA];simp
  have d:decide (((a.length:Nat):Int)<((ps.length:Nat):Int))=true:=decide_eq_true (by omega)
  have hq:(m.parts.map pc)[a.length]? = some (pc s):=by rw[gO,hA];simp
  obtain⟨b,o,z1,z2,z3,z4,z5⟩:=h.parts.rl.at (by decide) hq
  have nE:=z1 .i64
  obtain⟨f,sz⟩:=s
  have z6:cn 2 (.ptr b o) H1=some (.agg [.int .i64 f,.int .i64 sz]):=DZ z4
  have wJ:eP f=true:=ea (f,sz) (by rw[hA];simp)
  obtain⟨H2,u1,u2,u3,u4⟩:=iI H1 [.int .i64 0,.int .i64 0] 66 0 (by simp)
  obtain⟨H3,v1,v2,v3,v4⟩:=qo (n:=2) (v := .agg [.int .i64 f,.int .i64 sz]) (cs:=[.int .i64 f,.int .i64 sz]) u2 (by omega) rfl rfl rfl (AI (f,sz))
  have o3:Out [] H1 H3:=u3.then v3 fun j hj=>by rw[yX] at hj;exact .inr (by omega)
  have v5:cn 2 (.ptr H1.next 0) H3=some (.agg [.int .i64 f,.int .i64 sz]):=v2.cn (n:=2) (o:=0) (by simp)
  have v6:ld (.ptr H1.next 1) H3=some (.int .i64 sz):=v2.ld rfl
  obtain⟨H4,q1,q2⟩:=vh (ma hT hn o3) (abl hn o3.1) sz wJ
  have o4:=o3.trans q2
  have w2:=v2.out q2 fun q=>by cases q
  have w6:ld (.ptr H1.next 1) H4=some (.int .i64 sz):=w2.ld rfl
  have h3:=h.gR o3
  have h4:=h.gR o4
  have Bk:=h3.head.ld (o:=0) rfl
  have l7:=h4.head.ld (o:=0) rfl
  have qN:=ad5 h4.st (bU f)
  have sp:same (.ptr p 0) (.ptr p 0)=true:=by simp[same,nb]
  have sl:=B4 .i64 sz
  have IU:ps=(a++[(f,sz)])++r:=by rw[hA];simp
  have e3:IntKind.wrap .i64 (((a.length:Nat):Int)+1)=(((a++[(f,sz)]).length:Nat):Int):=by
   rw[wrap_i64 (by omega) (by omega)];simp
  rw[jM]
  by_cases cC:(yd m.m (bU f):Int)=sz
  ·have d2:((((yd m.m (bU f):Nat):Int))==sz)=true:=by rw[beq_iff_eq];exact cC
   rw[if_pos cC]
   obtain⟨H',l',k1,k2,k3,k4⟩:=Qg ea hlen r (a++[(f,sz)]) H4 m l IU (ma hT hn o4) (abl hn o4.1) h4 gO dR
   refine⟨H',l',fun k => ?_,k2,(cG.mL o4).trans k3,k4⟩
   have qW:=k1 k
   rw[Ju]
   simp only[Dm,d,nE,z6,u1,v1,v5,v6,q1,Bk,l7,qN,w6,d2,eX sp,eX sl,e3,az,bd,aw,av,bG,aH,au,ak,aK,aA,aP,bK,aE,bO,bC,aR,bu,ay,bF,aT,aC,bq,aU,bI,bM,ba,aI,aW,aQ,ar,aV,a7,bS,aF,aO,bt,bJ,aN,aM,aD,bB,br,aY,bQ,bT,bk,bH,af,bp,ag,bP,ah,aB,aG,bw,bA,bR,aL,bN,bD,bo,aj,bh,bg,aq,ai,aS,a8,aZ,bE,aJ,nq,gk,wc,yL,yB,decide_true,decide_false,simprocAttr,aaJ,bne_self_eq_false,ge_iff_le,gt_iff_lt]
   exact qW
  ·have d2:((((yd m.m (bU f):Nat):Int))==sz)=false:=by rw[beq_eq_false_iff_ne];exact cC
   rw[if_neg cC]
   have Uh:cn 2 (.ptr H1.next 0) H4=some (.agg [.int .i64 f,.int .i64 sz]):=w2.cn (n:=2) (o:=0) (by simp)
   obtain⟨H5,q3,q4⟩:=vh (ma hT hn o4) (abl hn o4.1) sz wJ
   have o5:=o4.trans q4
   have h5:=h.gR o5
   have wh:=h5.head.ld (o:=0) rfl
   obtain⟨H6,L',r1,r2,r3⟩:=Yw h5.st (bU f)
   obtain⟨h6,g6⟩:=h5.wi r2 r3
   have o6:cG lp p H1 l H6 { l with L:=L' }:=(cG.mL o5).trans g6
   generalize iV m.m (bU f)=sy at *
   by_cases hz:sy.1=0
   ·rw[if_pos hz]
    have eF:(sy.1 != 0)=false:=by rw[hz];rfl
    obtain⟨QT,Oc,O5⟩:=AF hT hn dR o6
    obtain⟨H',l',k1,k2,k3,k4⟩:=Qg ea hlen r (a++[(f,sz)]) H6 _ _ IU QT Oc h6 gO O5
    refine⟨H',l',fun k => ?_,k2,o6.trans k3,k4⟩
    have qW:=k1 k
    rw[Ju]
    simp only[Dm,d,nE,z6,u1,v1,v5,v6,q1,Bk,l7,qN,w6,d2,eX sp,eX sl,Uh,q3,wh,r1,e3,eF,az,bd,aw,av,bG,aH,au,ak,aK,aA,aP,bK,aE,bO,bC,aR,bu,ay,bF,aT,aC,bq,aU,bI,bM,ba,aI,aW,aQ,ar,aV,a7,bS,aF,aO,bt,bJ,aN,aM,aD,bB,br,aY,bQ,bT,bk,bH,af,bp,ag,bP,ah,aB,aG,bw,bA,bR,aL,bN,bD,bo,aj,bh,bg,aq,ai,aS,a8,aZ,bE,aJ,nq,gk,wc,yL,yB,decide_true,decide_false,simprocAttr,aaJ,bne_self_eq_false,ge_iff_le,gt_iff_lt]
    exact qW
   ·rw[if_neg hz]
    have eF:(sy.1 != 0)=true:=by simpa using hz
    refine⟨H6,_,fun k => ?_,h6,o6,rfl,rfl⟩
    rw[Ju,if_neg hz]
    simp only[Dm,d,nE,z6,u1,v1,v5,v6,q1,Bk,l7,qN,w6,d2,eX sp,eX sl,Uh,q3,wh,r1,e3,eF,az,bd,aw,av,bG,aH,au,ak,aK,aA,aP,bK,aE,bO,bC,aR,bu,ay,bF,aT,aC,bq,aU,bI,bM,ba,aI,aW,aQ,ar,aV,a7,bS,aF,aO,bt,bJ,aN,aM,aD,bB,br,aY,bQ,bT,bk,bH,af,bp,ag,bP,ah,aB,aG,bw,bA,bR,aL,bN,bD,bo,aj,bh,bg,aq,ai,aS,a8,aZ,bE,aJ,nq,gk,wc,yL,yB,decide_true,decide_false,simprocAttr,aaJ,bne_self_eq_false,ge_iff_le,gt_iff_lt]
theorem aht (h:Lg H lp p m l)(hs:Small m)(hT:fY H dL)(hn:11<=H.next)(dR:∀ j∈lf lp p l,11<=j)(ea:∀ q∈m.parts,eP q.1=true) :
  ∃ H' l',cK (.func (.func 12) [] []) [.ptr lp 0] H=some (.int .i64 (pt m).1,H')/\Lg H' lp p (pt m).2 l'/\cG lp p H l H' l'/\l'.ys=l.ys:=by
 have l0:=h.head.ld (o:=0) rfl
 have l2:=h.head.ld (o:=2) rfl
 have e1:=cS.BQ h.st
 have tB:=h.parts.rl.len (by decide)
 rw[acs] at tB
 unfold pt
 cases ho:m.m.off with
 | true=>
  rw[ho] at e1
  rw[if_pos rfl]
  refine⟨H,l,Tw ?_,h,cG.refl _ _ _ _,rfl⟩
  unfold ET
  simp only[l0,e1,az,bd,aw,av,bG,aH,au,ak,aK,aA,aP,bK,aE,bO,bC,aR,bu,ay,bF,aT,aC,bq,aU,bI,bM,ba,aI,aW,aQ,ar,aV,a7,bS,aF,aO,bt,bJ,aN,aM,aD,bB,br,aY,bQ,bT,bk,bH,af,bp,ag,bP,ah,aB,aG,bw,bA,bR,aL,bN,bD,bo,aj,bh,bg,aq,ai,aS,a8,aZ,bE,aJ,nq,gk,wc,yL,yB,decide_true,decide_false,simprocAttr,aaJ,bne_self_eq_false,ge_iff_le,gt_iff_lt]
 | false=>
  rw[ho] at e1
  rw[if_neg (by decide)]
  obtain⟨H1,l1,k1,k2,k3,k4⟩:=Qg ea hs.parts m.parts [] H m l rfl hT hn h rfl dR
  by_cases hz:(jM m.parts m.m).1=0
  ·have e2:=mr k2 ⟨hs.first,hs.ab,hs.at',hs.parts,hs.part⟩
   obtain⟨H2,t1,t2,t3⟩:=k2.Kt (cJ m)
   refine⟨H2,l1,Tw ?_,by rw[if_pos hz];exact t2,k3.trans t3,k4.2⟩
   have ee:cJ { m with m:=(jM m.parts m.m).2 }=cJ m:=rfl
   rw[ee] at e2
   unfold ET
   rw[hz]
   have qW:=fun k=>k1 k
   simp only[hz,if_true,show ((([]:List (Int × Int)).length:Nat):Int)=0 from rfl] at qW
   simp only[l0,l2,e1,tB,qW,e2,t1,az,bd,aw,av,bG,aH,au,ak,aK,aA,aP,bK,aE,bO,bC,aR,bu,ay,bF,aT,aC,bq,aU,bI,bM,ba,aI,aW,aQ,ar,aV,a7,bS,aF,aO,bt,bJ,aN,aM,aD,bB,br,aY,bQ,bT,bk,bH,af,bp,ag,bP,ah,aB,aG,bw,bA,bR,aL,bN,bD,bo,aj,bh,bg,aq,ai,aS,a8,aZ,bE,aJ,nq,gk,wc,yL,yB,decide_true,decide_false,simprocAttr,aaJ,bne_self_eq_false,ge_iff_le,gt_iff_lt]
  ·refine⟨H1,l1,Tw ?_,by rw[if_neg hz];exact k2,k3,k4.2⟩
   unfold ET
   have qW:=fun k=>k1 k
   simp only[hz,if_false,show ((([]:List (Int × Int)).length:Nat):Int)=0 from rfl] at qW
   simp only[l0,l2,e1,tB,qW,az,bd,aw,av,bG,aH,au,ak,aK,aA,aP,bK,aE,bO,bC,aR,bu,ay,bF,aT,aC,bq,aU,bI,bM,ba,aI,aW,aQ,ar,aV,a7,bS,aF,aO,bt,bJ,aN,aM,aD,bB,br,aY,bQ,bT,bk,bH,af,bp,ag,bP,ah,aB,aG,bw,bA,bR,aL,bN,bD,bo,aj,bh,bg,aq,ai,aS,a8,aZ,bE,aJ,nq,gk,wc,yL,yB,decide_true,decide_false,simprocAttr,aaJ,bne_self_eq_false,ge_iff_le,gt_iff_lt]
end
end
structure Sm where
 first:Nat
 rs:List (Nat × List Nat)
 sure:Nat
def fb:List (Nat × List Nat)->List Nat
 | []=>[]
 | r::rs=>fr r.1 r.2++fb rs
theorem PQ:∀ (a b:List (Nat × List Nat)),fb (a++b)=fb a++fb b
 | [],b=>rfl
 | r::a,b=>by rw[aew,fb,fb,PQ a b,adf]
def sP (s:Sm):Int × Int:=((s.first:Nat),((fb s.rs).length:Nat))
def sF (s:Sm):Fl:=⟨bU (s.first:Nat),fb s.rs,s.sure⟩
theorem yz (s:Sm):(sF s).nm=bU (s.first:Nat):=by simp only[sF]
def b8 (ss:List Sm):List (Nat × List Nat):=ss.flatMap (·.rs)
def chain:Nat->List Sm->Prop
 | _,[]=>True
 | e,s::r=>s.first=e/\(r≠[]->s.rs≠[])/\chain (e+s.rs.length) r
def jC (s:Sm):Sm:={ s with sure:=(fb s.rs).length }
theorem aeH {a b:List Fl}{f:Fl}(hn:((a++f::b).map (·.nm)).Nodup):(a++f::b).find? (fun g=>g.nm==f.nm)=some f:=by
 rw[abz,abc,acd] at hn
 obtain⟨n1,n2,n3⟩:=hn
 rw[List.find?_append]
 have:a.find? (fun g=>g.nm==f.nm)=none:=by
  rw[List.find?_eq_none]
  intro g hg q
  have e:g.nm=f.nm:=by simpa using q
  exact n3 _ (abn.2 ⟨g,hg,rfl⟩) _ (.head _) e
 rw[this]
 simp
theorem ajh {a b:List Fl}{f g:Fl}(hn:((a++f::b).map (·.nm)).Nodup):fM f.nm g (a++f::b)=a++g::b:=by
 rw[abz,abc,acd,ab0] at hn
 obtain⟨n1,⟨n2,n4⟩,n3⟩:=hn
 unfold fM
 rw[abz,abc,if_pos rfl]
 congr 1
 ·refine (afu fun y hy=>if_neg fun q => ?_).trans (List.map_id _)
  exact n3 _ (abn.2 ⟨y,hy,rfl⟩) _ (.head _) q
 ·congr 1
  refine (afu fun y hy=>if_neg fun q => ?_).trans (List.map_id _)
  exact n2 (abn.2 ⟨y,hy,q⟩)
theorem ad4 {a b:List Fl}{f:Fl}(hn:((a++f::b).map (·.nm)).Nodup):ri f.nm (a++f::b)=a++b:=by
 rw[abz,abc,acd,ab0] at hn
 obtain⟨n1,⟨n2,n4⟩,n3⟩:=hn
 unfold ri
 rw[List.filter_append,List.filter_cons]
 have h1:(!(f.nm==f.nm))=false:=by simp
 have hf:∀ l:List Fl,(∀ y∈l,y.nm≠f.nm)->l.filter (fun g => !(g.nm==f.nm))=l:=fun l hl=>List.filter_eq_self.2 fun y hy=>by simpa using hl y hy
 rw[h1,hf a fun y hy q=>n3 _ (abn.2 ⟨y,hy,rfl⟩) _ (.head _) q,hf b fun y hy q=>n2 (abn.2 ⟨y,hy,q⟩)]
 rfl
theorem ahM {m:SM}{a b:List Fl}{f:Fl}(h:m.fs=a++f::b)(hn:(m.fs.map (·.nm)).Nodup)(ho:m.off=false)(hk:jB f.nm=true):cw m f.nm=0/\cS.look m f.nm=some f:=by
 have hl:cS.look m f.nm=some f:=by unfold cS.look;rw[h] at hn ⊢;exact aeH hn
 refine⟨?_,hl⟩
 unfold cw
 rw[hl,ho,hk]
 rfl
theorem abB:∀ (a:Nat) (rs:List (Nat × List Nat)) (ys:List AV),ys.length=rs.length->(jh rs ys).drop (a*2)=jh (rs.drop a) (ys.drop a)
 | 0,rs,ys,h=>by simp
 | a+1,[],[],h=>by simp[jh]
 | a+1,r::rs,y::ys,h=>by
  have:=abB a rs ys (by simpa using h)
  rw[show (a+1)*2=a*2+1+1 by omega]
  exact this
theorem YJ:∀ (a:Nat) (rs:List (Nat × List Nat)) (ys:List AV),ys.length=rs.length->(jh rs ys).take (a*2)=jh (rs.take a) (ys.take a)
 | 0,rs,ys,h=>by simp[jh]
 | a+1,[],[],h=>by simp[jh]
 | a+1,r::rs,y::ys,h=>by
  have:=YJ a rs ys (by simpa using h)
  rw[show (a+1)*2=a*2+1+1 by omega]
  show _::_::(jh rs ys).take (a*2)=_
  rw[this];rfl
theorem JR {H:Hp}{x:AV}{rs:List (Nat × List Nat)}{ys:List AV}(h:Rs H x rs ys){a b:Nat}(qO:a<=b)(hb:b<=rs.length){lo hi:Option AV}(ec:Bd lo a 0)(eg:Bd hi b rs.length) :
  ∃ x',dC 2 x lo hi none=some x'/\Rs H x' ((rs.drop a).take (b-a)) ((ys.drop a).take (b-a))/\∀ j∈aa x',j∈aa x:=by
 obtain⟨x',h1,h2,h3⟩:=DA h.own (wg _ _ h.len) (by decide) qO hb ec eg
 rw[abB a rs ys h.len,YJ _ _ _ (by simp[h.len])] at h2
 refine⟨x',h1,⟨h2,by simp[h.len],fun j y r q1 q2 => ?_,fun y hy i hi q=>h.sep y (agl (adb hy)) i hi (h3 i q)⟩,h3⟩
 rw[ac1] at q1 q2
 split at q1
 ·rename_i hj
  rw[if_pos hj,acL] at q2
  rw[acL] at q1
  exact h.row _ y r q1 q2
 ·cases q1
theorem afc {H:Hp}{a:Nat}{y:AV}{b:List Nat}(hy:Rw H 1 y (bs b))(hl:b.length<=100000):∃ H',cK (.func (.func 47) [] []) [.agg [.int .u64 (a:Nat),y]] H=some (.int .i64 ((16+b.length:Nat):Int),H')/\Out [] H H':=by
 obtain⟨H1,b1,b2,b3,b4⟩:=xC H 37 _ _ (oU hy ((a:Nat):Int)) (by simp)
 have l1:ld (.ptr H.next 1) H1=some y:=b2.ld rfl
 have fS:=hy.il
 rw[gu] at fS
 have w:IntKind.wrap .i64 (16+((b.length:Nat):Int))=((16+b.length:Nat):Int):=by rw[wrap_i64 (by omega) (by omega)];omega
 refine⟨H1,ahz ?_,b3⟩
 unfold aaj
 simp only[b1,l1,fS,w,az,bd,aw,av,bG,aH,au,ak,aK,aA,aP,bK,aE,bO,bC,aR,bu,ay,bF,aT,aC,bq,aU,bI,bM,ba,aI,aW,aQ,ar,aV,a7,bS,aF,aO,bt,bJ,aN,aM,aD,bB,br,aY,bQ,bT,bk,bH,af,bp,ag,bP,ah,aB,aG,bw,bA,bR,aL,bN,bD,bo,aj,bh,bg,aq,ai,aS,a8,aZ,bE,aJ,nq,gk,wc,yL,yB,decide_true,decide_false,simprocAttr,aaJ,bne_self_eq_false,ge_iff_le,gt_iff_lt]
theorem Wg {x:AV}{rs:List (Nat × List Nat)}{ys:List AV}(hr:∀ r∈rs,r.2.length<=100000)(hlen:rs.length<=1000):∀ (r:List (Nat × List Nat)) (i s:Nat) (H:Hp),rs.drop i=r->Rs H x rs ys->s<=i*1000000->
  ∃ H',(∀ k:K.Fn 1,Ez JN GO cK k (.int .i64 (s:Nat)) x (.int .i64 (rs.length:Nat)) (.int .i64 (i:Nat)) H=k (.int .i64 ((s+(fb r).length:Nat):Int)) H')/\Out [] H H'
 | [],i,s,H,hd,hx,hs=>by
  have:rs.length<=i:=by simpa using hd
  have d:decide (((i:Nat):Int)<((rs.length:Nat):Int))=false:=decide_eq_false (by omega)
  refine⟨H,fun k => ?_,Out.refl _ _⟩
  rw[abf]
  simp only[Oh,d,fb,abQ,acJ,az,bd,aw,av,bG,aH,au,ak,aK,aA,aP,bK,aE,bO,bC,aR,bu,ay,bF,aT,aC,bq,aU,bI,bM,ba,aI,aW,aQ,ar,aV,a7,bS,aF,aO,bt,bJ,aN,aM,aD,bB,br,aY,bQ,bT,bk,bH,af,bp,ag,bP,ah,aB,aG,bw,bA,bR,aL,bN,bD,bo,aj,bh,bg,aq,ai,aS,a8,aZ,bE,aJ,nq,gk,wc,yL,yB,decide_true,decide_false,simprocAttr,aaJ,bne_self_eq_false,ge_iff_le,gt_iff_lt]
 | r::rr,i,s,H,hd,hx,hs=>by
  obtain⟨hi,hj,eQ⟩:=K.xq hd
  have d:decide (((i:Nat):Int)<((rs.length:Nat):Int))=true:=decide_eq_true (by omega)
  have iH:=hr r (abY hj)
  obtain⟨b,o,y,u1,u2,u3,u4,u5,u6⟩:=hx.cn hj
  have P4:=u1 .i64
  obtain⟨H2,n1,n2,n3,n4⟩:=iI H [.int .u64 0,.ae] 37 0 (by simp)
  obtain⟨H3,t1,t2,t3,t4⟩:=qo (n:=2) n2 (by omega) (oU u5 ((r.1:Nat):Int)) rfl rfl (by
   intro v hv
   rcases aap.1 hv with rfl | hv
   ·rfl
   ·rcases aap.1 hv with rfl | hv
    ·exact vK u5
    ·cases hv)
  have o3:Out [] H H3:=n3.then t3 fun j hj=>by rw[yX] at hj;exact .inr (by omega)
  have t5:cn 2 (.ptr H.next 0) H3=some (.agg [.int .u64 ((r.1:Nat):Int),y]):=t2.cn (n:=2) (o:=0) (by simp)
  obtain⟨H4,f1,f2⟩:=afc (a:=r.1) (u5.out o3 fun j _ q=>by cases q) iH
  have w1:IntKind.wrap .i64 (((s:Nat):Int)+((16+r.2.length:Nat):Int))=((s+(16+r.2.length):Nat):Int):=by rw[wrap_i64 (by omega) (by omega)];rfl
  have e3:IntKind.wrap .i64 (((i:Nat):Int)+1)=((i+1:Nat):Int):=by rw[wrap_i64 (by omega) (by omega)];rfl
  obtain⟨H5,k1,k2⟩:=Wg hr hlen rr (i+1) (s+(16+r.2.length)) H4 eQ (hx.out (o3.trans f2)) (by omega)
  refine⟨H5,fun k => ?_,(o3.trans f2).trans k2⟩
  rw[abf]
  simp only[Oh,d,P4,u2,n1,t1,t5,f1,w1,e3,az,bd,aw,av,bG,aH,au,ak,aK,aA,aP,bK,aE,bO,bC,aR,bu,ay,bF,aT,aC,bq,aU,bI,bM,ba,aI,aW,aQ,ar,aV,a7,bS,aF,aO,bt,bJ,aN,aM,aD,bB,br,aY,bQ,bT,bk,bH,af,bp,ag,bP,ah,aB,aG,bw,bA,bR,aL,bN,bD,bo,aj,bh,bg,aq,ai,aS,a8,aZ,bE,aJ,nq,gk,wc,yL,yB,decide_true,decide_false,simprocAttr,aaJ,bne_self_eq_false,ge_iff_le,gt_iff_lt]
  rw[k1,fb,aaO,pj]
  congr 3
  omega
section
variable {H:Hp}{lp p:Nat}{m:LM}{l:LP}
theorem afI (h:Lg H lp p m l)(hs:Small m)(hf:m.first=0)(hr:∀ r∈m.ab,r.2.length<=100000){f many:Nat}(s:Int)(hb:f+many<=m.ab.length) :
  ∃ H',cK (.func (.func 30) [] []) [.ptr lp 0,.agg [.int .i64 (f:Nat),.int .i64 s],.int .i64 (many:Nat)] H=some (.int .i64 ((fb ((m.ab.drop f).take many)).length:Nat),H')/\Out [] H H':=by
 obtain⟨H1,b1,b2,b3,b4⟩:=xC H 66 (.agg [.int .i64 (f:Nat),.int .i64 s]) [.int .i64 (f:Nat),.int .i64 s] rfl (by simp)
 have l0:ld (.ptr H.next 0) H1=some (.int .i64 (f:Nat)):=b2.ld rfl
 have h1:=h.gR b3
 have l3:=h1.head.ld (o:=3) rfl
 have l4:=h1.head.ld (o:=4) rfl
 rw[hf] at l4
 have iH:=hs.ab
 have w:IntKind.wrap .i64 (((f:Nat):Int)-0)=((f:Nat):Int):=by rw[wrap_i64 (by omega) (by omega)];omega
 obtain⟨x1,u1,u2,u3⟩:=JR h1.ab (a:=f) (b:=m.ab.length) (by omega) (zf _) (lo:=some (.int .i64 (f:Nat))) (hi:=none) (Bd.yes _ _ _) (Bd.no _)
 rw[show (m.ab.drop f).take (m.ab.length-f)=m.ab.drop f from acI (by simp)] at u2
 obtain⟨x2,v1,v2,v3⟩:=JR u2 (a:=0) (b:=many) (ack _) (by simp;omega) (lo:=none) (hi:=some (.int .i64 (many:Nat))) (Bd.no _) (Bd.yes _ _ _)
 rw[adE,adD] at v2
 have qM:=v2.nX
 obtain⟨H2,k1,k2⟩:=Wg (fun r dg=>hr r (agl (adb dg))) (by simp;omega) _ 0 0 H1 rfl v2 (ack _)
 rw[show (((0:Nat):Int))=0 from rfl,wc,adE] at k1
 refine⟨H2,acq ?_,b3.trans k2⟩
 unfold aaI
 simp only[b1,l3,l0,l4,w,u1,v1,qM,k1,az,bd,aw,av,bG,aH,au,ak,aK,aA,aP,bK,aE,bO,bC,aR,bu,ay,bF,aT,aC,bq,aU,bI,bM,ba,aI,aW,aQ,ar,aV,a7,bS,aF,aO,bt,bJ,aN,aM,aD,bB,br,aY,bQ,bT,bk,bH,af,bp,ag,bP,ah,aB,aG,bw,bA,bR,aL,bN,bD,bo,aj,bh,bg,aq,ai,aS,a8,aZ,bE,aJ,nq,gk,wc,yL,yB,decide_true,decide_false,simprocAttr,aaJ,bne_self_eq_false,ge_iff_le,gt_iff_lt]
end
theorem UP {es:Nat}:∀ (L:List (List AV)) (b:Nat),(∀ c∈L,c.length=es)->L.flatten.take (b*es)=(L.take b).flatten
 | [],b,h=>by simp
 | c::L,0,h=>by simp
 | c::L,b+1,h=>by
  have hc:=h c (.head _)
  rw[ae0,afQ,ae0,adC,ag0,<-UP L b fun d hd=>h d (.tail _ hd),List.take_append,hc]
  rw[acI (by omega),show b*es+es-es=b*es by omega]
theorem acR {H:Hp}{el es:Nat}{x:AV}{L:List (List AV)}(h:OL H el es x L)(di:0<es){b:Nat}(hb:b<=L.length){hi:Option AV}(eg:Bd hi b L.length) :
  ∃ x',dC es x none hi none=some x'/\OL H el es x' (L.take b)/\∀ j∈aa x',j∈aa x:=by
 obtain⟨x',h1,h2,h3⟩:=DA h.1 (A2 h.2) di (ack _) hb (lo:=none) (Bd.no 0) eg
 rw[aeT,adE,adD,UP L b h.2] at h2
 exact⟨x',h1,⟨h2,fun c hc=>h.2 c (adb hc)⟩,h3⟩
theorem A3 (rs:List (Nat × List Nat))(n:Nat):(fb (rs.take n)).length<=(fb rs).length/\(fb rs).take (fb (rs.take n)).length=fb (rs.take n):=by
 have h:fb rs=fb (rs.take n)++fb (rs.drop n):=by rw[<-PQ,List.take_append_drop]
 constructor
 ·rw[h,aaO];omega
 ·conv=>lhs;rw[h]
  rw[aek (zf _),aia]
theorem HX:∀ (a:List Sm) (e:Nat) (s:Sm),chain e (a++[s])->s.first=e+(b8 a).length/\chain e a/\(a≠[]->b8 a≠[])
 | [],e,s,h=>⟨by simpa[b8] using h.1,trivial,fun q=>absurd rfl q⟩
 | c::a,e,s,h=>by
  obtain⟨h1,h2,h3⟩:=h
  obtain⟨q1,q2,q3⟩:=HX a _ s h3
  have hc:c.rs≠[]:=h2 (by simp)
  refine⟨?_,⟨h1,fun _=>hc,q2⟩,fun _ q => ?_⟩
  ·rw[q1]
   simp only[b8,aeY,aaO]
   omega
  ·simp only[b8,aeY,List.append_eq_nil_iff] at q
   exact hc q.1
section
variable {H:Hp}{lp p:Nat}{m:LM}{l:LP}
theorem Se (h:Lg H lp p m l)(hs:Small m){off n:Int}(hx:n<0\/cJ m<=off)(k:K.Fn 0):Aw JN GO cK k (.ptr lp 0) (.int .i64 off) (.int .i64 n) H=k H:=by
 rw[GZ]
 by_cases h1:n<0
 ·have d:decide (0<=n)=false:=decide_eq_false (by omega)
  simp only[uo,d,az,bd,aw,av,bG,aH,au,ak,aK,aA,aP,bK,aE,bO,bC,aR,bu,ay,bF,aT,aC,bq,aU,bI,bM,ba,aI,aW,aQ,ar,aV,a7,bS,aF,aO,bt,bJ,aN,aM,aD,bB,br,aY,bQ,bT,bk,bH,af,bp,ag,bP,ah,aB,aG,bw,bA,bR,aL,bN,bD,bo,aj,bh,bg,aq,ai,aS,a8,aZ,bE,aJ,nq,gk,wc,yL,yB,decide_true,decide_false,simprocAttr,aaJ,bne_self_eq_false,ge_iff_le,gt_iff_lt]
 ·have d:decide (0<=n)=true:=decide_eq_true (by omega)
  have e1:=mr h hs
  have d2:decide (off<cJ m)=false:=decide_eq_false (by omega)
  simp only[uo,d,e1,d2,az,bd,aw,av,bG,aH,au,ak,aK,aA,aP,bK,aE,bO,bC,aR,bu,ay,bF,aT,aC,bq,aU,bI,bM,ba,aI,aW,aQ,ar,aV,a7,bS,aF,aO,bt,bJ,aN,aM,aD,bB,br,aY,bQ,bT,bk,bH,af,bp,ag,bP,ah,aB,aG,bw,bA,bR,aL,bN,bD,bo,aj,bh,bg,aq,ai,aS,a8,aZ,bE,aJ,nq,gk,wc,yL,yB,decide_true,decide_false,simprocAttr,aaJ,bne_self_eq_false,ge_iff_le,gt_iff_lt]
end
end
theorem rn (a b:List Sm):b8 (a++b)=b8 a++b8 b:=by simp[b8]
section
variable {lp p:Nat}
noncomputable def jd (off : Nat) : List Sm -> SM -> Int × List Sm × SM
  | [], m => (0, [], m)
  | s :: r, m => if s.first+s.rs.length <= off then (0, s :: r, m) else if s.first<off \/ r = [] then
      (if (gT m (bU (s.first : Nat)) ((fb (s.rs.take (off-s.first))).length : Nat)).1 = 0 then (0, ⟨s.first, s.rs.take (off-s.first), min s.sure (fb (s.rs.take (off-s.first))).length⟩ :: r, (gT m (bU (s.first : Nat)) ((fb (s.rs.take (off-s.first))).length : Nat)).2)
       else ((gT m (bU (s.first : Nat)) ((fb (s.rs.take (off-s.first))).length : Nat)).1, s :: r, (gT m (bU (s.first : Nat)) ((fb (s.rs.take (off-s.first))).length : Nat)).2))
    else if (eK m (bU (s.first : Nat))).1 = 0 then jd off r (eK m (bU (s.first : Nat))).2 else ((eK m (bU (s.first : Nat))).1, s :: r, (eK m (bU (s.first : Nat))).2)
theorem XK {off:Nat}:∀ (T:List Sm) (H:Hp) (m:LM) (l:LP),Lg H lp p m l->Small m->fY H dL->11<=H.next->(∀ j∈lf lp p l,11<=j)->m.first=0->m.parts=T.reverse.map sP->m.ab=b8 T.reverse->chain 0 T.reverse->
  (∀ r∈m.ab,r.2.length<=2000)->(∀ s∈T,s.first<=1000)->off<=1000->
  ∃ H' l' m',(∀ k:K.Fn 0,Aw JN GO cK k (.ptr lp 0) (.int .i64 (off:Nat)) (.int .i64 (((T.length:Nat):Int)-1)) H=if (jd off T m.m).1=0 then k H' else some (.int .i64 (jd off T m.m).1,H'))/\
   Lg H' lp p m' l'/\cG lp p H l H' l'/\m'.m=(jd off T m.m).2.2/\m'.first=0/\m'.cN=m.cN/\((jd off T m.m).1=0->m'.parts=(jd off T m.m).2.1.reverse.map sP/\m'.ab=b8 (jd off T m.m).2.1.reverse)
 | [],H,m,l,h,hs,hT,hn,dR,hf,gO,ly,hc,hZ,AN,tQ=>⟨H,l,m,fun k=>by rw[jd,if_pos rfl];exact Se h hs (.inl (by simp)) k,h,cG.refl _ _ _ _,rfl,hf,rfl,fun _=>⟨gO,ly⟩⟩
 | s::r,H,m,l,h,hs,hT,hn,dR,hf,gO,ly,hc,hZ,AN,tQ=>by
  rw[List.reverse_cons] at gO ly hc
  obtain⟨c1,c2,c3⟩:=HX _ _ _ hc
  rw[wc] at c1
  have wk:m.ab=b8 r.reverse++s.rs:=by rw[ly,rn];simp[b8]
  have hE:cJ m=((s.first+s.rs.length:Nat):Int):=by unfold cJ;rw[hf,wk,aaO,c1];omega
  by_cases Gi:s.first+s.rs.length<=off
  ·have hcut:jd off (s::r) m.m=(0,s::r,m.m):=by rw[jd,if_pos Gi]
   rw[hcut]
   exact⟨H,l,m,fun k=>by rw[if_pos rfl];exact Se h hs (.inr (by rw[hE];omega)) k,h,cG.refl _ _ _ _,rfl,hf,rfl,fun _=>⟨by rw[List.reverse_cons];exact gO,by rw[List.reverse_cons];exact ly⟩⟩
  ·have hF:s.first<=1000:=AN s (.head _)
   have iH:=hs.ab
   have hlen:s.rs.length<=1000:=by rw[wk,aaO] at iH;omega
   have eN:(((s::r).length:Nat):Int)-1=((r.length:Nat):Int):=by simp
   rw[eN]
   have e1:=mr h hs
   rw[hE] at e1
   have d1:decide ((0:Int)<=((r.length:Nat):Int))=true:=decide_eq_true (by omega)
   have d2:decide (((off:Nat):Int)<((s.first+s.rs.length:Nat):Int))=true:=decide_eq_true (by omega)
   have l2:=h.head.ld (o:=2) rfl
   have hq:(m.parts.map pc)[r.length]? = some (pc (sP s)):=by rw[gO];simp
   obtain⟨b,o,z1,z2,z3,z4,z5⟩:=h.parts.rl.at (by decide) hq
   have nE:=z1 .i64
   have z6:cn 2 (.ptr b o) H=some (.agg [.int .i64 (s.first:Nat),.int .i64 ((fb s.rs).length:Nat)]):=DZ z4
   obtain⟨H2,u1,u2,u3,u4⟩:=iI H [.int .i64 0,.int .i64 0] 66 0 (by simp)
   obtain⟨H3,v1,v2,v3,v4⟩:=qo (n:=2) (v := .agg [.int .i64 (s.first:Nat),.int .i64 ((fb s.rs).length:Nat)]) (cs:=[.int .i64 (s.first:Nat),.int .i64 ((fb s.rs).length:Nat)]) u2 (by omega) rfl rfl rfl (AI ((s.first:Nat),((fb s.rs).length:Nat)))
   have o3:Out [] H H3:=u3.then v3 fun j hj=>by rw[yX] at hj;exact .inr (by omega)
   have v5:cn 2 (.ptr H.next 0) H3=some (.agg [.int .i64 (s.first:Nat),.int .i64 ((fb s.rs).length:Nat)]):=v2.cn (n:=2) (o:=0) (by simp)
   have v6:ld (.ptr H.next 0) H3=some (.int .i64 (s.first:Nat)):=v2.ld rfl
   have w1:IntKind.wrap .i64 (((off:Nat):Int)-((s.first:Nat):Int))=((off:Nat):Int)-((s.first:Nat):Int):=wrap_i64 (by omega) (by omega)
   have mx:fx P .max #[2,2] [.int .i64 (((off:Nat):Int)-((s.first:Nat):Int)),.int .i64 0] H3=some (.int .i64 ((off-s.first:Nat):Int),H3):=by
    rw[Fb]
    congr 3
    split<;>omega
   have h3:=h.gR o3
   obtain⟨H4,q1,q2⟩:=afI h3 hs hf (fun r hr=>by have:=hZ r hr;omega) (f:=s.first) (many:=off-s.first) ((fb s.rs).length:Nat) (by rw[wk,aaO];omega)
   have cC:(m.ab.drop s.first).take (off-s.first)=s.rs.take (off-s.first):=by rw[wk,c1,List.drop_left]
   rw[cC] at q1
   obtain⟨DO,Ct⟩:=A3 s.rs (off-s.first)
   generalize hL:s.rs.take (off-s.first)=L at *
   have o4:=o3.trans q2
   have h4:=h.gR o4
   have w2:=v2.out q2 fun q=>by cases q
   have w5:cn 2 (.ptr H.next 0) H4=some (.agg [.int .i64 (s.first:Nat),.int .i64 ((fb s.rs).length:Nat)]):=w2.cn (n:=2) (o:=0) (by simp)
   have l7:=h4.head.ld (o:=0) rfl
   have wJ:eP ((s.first:Nat):Int)=true:=xx (by omega) (by omega)
   obtain⟨H5,q3,q4⟩:=vh (ma hT hn o4) (abl hn o4.1) ((fb s.rs).length:Nat) wJ
   have o5:=o4.trans q4
   have h5:=h.gR o5
   have wh:=h5.head.ld (o:=0) rfl
   have sp:same (.ptr p 0) (.ptr p 0)=true:=by simp[same,nb]
   have bW:=h.lt
   have aei:H.next∉lf lp p l:=fun q=>by have:=bW _ q;omega
   have d0:decide ((0:Int)<((off-s.first:Nat):Int))=decide (s.first<off):=decide_eq_decide.2 (by omega)
   have share:∀ (H6:Hp) (m6:LM) (l6:LP),Lg H6 lp p m6 l6->cG lp p H l H6 l6->H.next<H6.next->l6.xp=l.xp->l6.xr=l.xr->l6.ys=l.ys->m6.parts=m.parts->m6.ab=m.ab->m6.first=0->ld (.ptr H.next 0) H6=some (.int .i64 (s.first:Nat))->
     ∃ x' H7 bb oo H8 l8,ld (.ptr lp 3) H6=some l.xr/\fx P .max #[2,2] [.int .i64 (off:Nat),.int .i64 (s.first:Nat)] H6=some (.int .i64 (s.first+L.length:Nat),H6)/\ld (.ptr lp 4) H6=some (.int .i64 0)/\dC 2 l.xr none (some (.int .i64 (s.first+L.length:Nat))) none=some x'/\st 1 (.ptr lp 3) x' H6=some H7/\
      ld (.ptr lp 2) H7=some l.xp/\ia 2 l.xp (.int .i64 (r.length:Nat))=some (.ptr bb oo)/\st 1 (.ptr bb (oo+1)) (.int .i64 ((fb L).length:Nat)) H7=some H8/\
      Lg H8 lp p { m6 with ab:=b8 r.reverse++L,parts:=r.reverse.map sP++[(((s.first:Nat):Int),(((fb L).length:Nat):Int))] } l8/\cG lp p H6 l6 H8 l8/\l8.xp=l.xp/\Small { m6 with ab:=b8 r.reverse++L,parts:=r.reverse.map sP++[(((s.first:Nat):Int),(((fb L).length:Nat):Int))] }:=by
    intro H6 m6 l6 h6 g6 BG ex er ey ep erc ef OC
    have kL:L.length=min (off-s.first) s.rs.length:=by rw[<-hL,abN]
    have ye:fx P .max #[2,2] [.int .i64 (off:Nat),.int .i64 (s.first:Nat)] H6=some (.int .i64 (s.first+L.length:Nat),H6):=by
     rw[Fb,show (if ((off:Nat):Int)<((s.first:Nat):Int) then ((s.first:Nat):Int) else ((off:Nat):Int))=((s.first+L.length:Nat):Int) by split<;>omega]
    have UA:=h6.head.ld (o:=3) rfl
    have U9:=h6.head.ld (o:=4) rfl
    rw[er] at UA
    rw[ef] at U9
    have Ul:=h6.ab
    rw[er,erc,ey] at Ul
    obtain⟨x',y1,y2,y3⟩:=JR Ul (a:=0) (b:=s.first+L.length) (ack _) (by rw[wk,aaO];omega) (lo:=none) (hi:=some (.int .i64 (s.first+L.length:Nat))) (Bd.no _) (Bd.yes _ _ _)
    rw[adE,adE,adD] at y2
    have ht:m.ab.take (s.first+L.length)=b8 r.reverse++L:=by
     rw[wk,c1,List.take_append,acI (by omega),show (b8 r.reverse).length+L.length-(b8 r.reverse).length=L.length by omega]
     rw[show s.rs.take L.length=L by rw[<-hL,abN,List.take_eq_take_iff];omega]
    rw[ht] at y2
    have ij:Small { m6 with ab:=b8 r.reverse++L,parts:=r.reverse.map sP++[(((s.first:Nat):Int),(((fb L).length:Nat):Int))] }:=by
     have yA:∀ z∈b8 r.reverse++L,z∈m.ab:=fun z hz=>by rw[<-ht] at hz;exact adb hz
     refine⟨by rw[ef];omega,?_,fun z hz=>hs.at' z (yA z hz),?_,fun q hq => ?_⟩
     ·show (b8 r.reverse++L).length<=1000
      rw[<-ht,abN];omega
     ·have:=hs.parts
      rw[gO] at this
      simpa using this
     ·rcases aac.1 hq with hq | hq
      ·exact hs.part q (by rw[gO,abz];exact aaz _ hq)
      ·rw[yX] at hq
       subst hq
       have:=hs.part (sP s) (by rw[gO];simp)
       simp only[sP] at this
       simp only
       omega
    obtain⟨H7,k1,k2,k3⟩:=h6.MT y2 (Out.refl _ _) (fun j hj => .inl (er▸y3 j hj)) (fun y hy i hi=>by
     have B7:y∈l6.ys:=by rw[ey];exact adb hy
     exact⟨h6.row y B7 i hi,h6.ab.tk y B7 i hi⟩)
    have EA:=k2.head.ld (o:=2) rfl
    simp only[ex] at EA
    have hq7:(m6.parts.map pc)[r.length]? = some (pc (sP s)):=by rw[ep,gO];simp
    have Eh:=k2.parts
    obtain⟨bb,oo,x1,x2,x3,x4,x5⟩:=Eh.rl.at (by decide) hq7
    obtain⟨H8,s1,s2,s3,s4⟩:=Eh.DM (k:=1) hq7 x1 (v := .int .i64 ((fb L).length:Nat)) rfl (by decide)
    have e:(m6.parts.map pc).set r.length ((pc (sP s)).set 1 (.int .i64 ((fb L).length:Nat)))=(r.reverse.map sP++[(((s.first:Nat):Int),(((fb L).length:Nat):Int))]).map pc:=by
     rw[ep,gO]
     simp[pc,sP]
    rw[e] at s2
    obtain⟨g1,g2⟩:=k2.Zn s2 s3
    have Jr:=x1 .i64
    simp only[ex] at Jr
    exact⟨x',H7,bb,oo,H8,_,UA,ye,U9,y1,k1,EA,Jr,s1,g1,k3.trans g2,ex,ij⟩
   have JP:∀ (H6:Hp) (l6:LP),cG lp p H5 l H6 l6->ld (.ptr H.next 0) H6=some (.int .i64 (s.first:Nat)):=fun H6 l6 g=>((w2.out q4 fun q=>by cases q).out g.1 aei).ld rfl
   have KV:H.next<H5.next:=by have:=u4;have:=v4;have:=q2.1;have:=q4.1;omega
   have w3:IntKind.wrap .i64 (((s.first+L.length:Nat):Int)-0)=((s.first+L.length:Nat):Int):=by
    have kL:L.length<=s.rs.length:=by rw[<-hL,abN];omega
    rw[wrap_i64 (by omega) (by omega)];omega
   have w4:IntKind.wrap .i64 (((r.length:Nat):Int)-1)=((r.length:Nat):Int)-1:=by
    have:r.length<=1000:=by have:=hs.parts;rw[gO] at this;simp at this;omega
    exact wrap_i64 (by omega) (by omega)
   have ail:∀ (m9:LM) (l9:LP) (H9:Hp),Lg H9 lp p m9 l9->Small m9->m9.first=0->m9.ab=b8 r.reverse++L->(s.first<off\/r=[])->∀ k:K.Fn 0,Aw JN GO cK k (.ptr lp 0) (.int .i64 (off:Nat)) (.int .i64 (((r.length:Nat):Int)-1)) H9=k H9:=by
    intro m9 l9 H9 h9 s9 f9 r9 da k
    refine Se h9 s9 ?_ k
    rcases da with q | q
    ·right
     unfold cJ
     rw[f9,r9,aaO,<-c1,<-hL,abN]
     omega
    ·left;rw[q];decide
   by_cases hA:s.first<off\/r=[]
   ·obtain⟨H6,L',r1,r2,r3⟩:=cS.vS h5.st (bU (s.first:Nat)) ((fb L).length:Nat)
    have hX:jd off (s::r) m.m=if (gT m.m (bU (s.first:Nat)) ((fb L).length:Nat)).1=0 then (0,⟨s.first,L,min s.sure (fb L).length⟩::r,(gT m.m (bU (s.first:Nat)) ((fb L).length:Nat)).2)
      else ((gT m.m (bU (s.first:Nat)) ((fb L).length:Nat)).1,s::r,(gT m.m (bU (s.first:Nat)) ((fb L).length:Nat)).2):=by rw[jd,if_neg Gi,if_pos hA,hL]
    rw[hX]
    generalize eO:gT m.m (bU (s.first:Nat)) ((fb L).length:Nat)=cc at *
    obtain⟨h6,g6⟩:=h5.wi r2 r3
    have g5:cG lp p H5 l H6 { l with L:=L' }:=g6
    have gA:cG lp p H l H6 { l with L:=L' }:=(cG.mL o5).trans g6
    by_cases hz:cc.1=0
    case neg=>
     have eF:(cc.1 != 0)=true:=by simpa using hz
     rw[if_neg hz]
     refine⟨H6,_,_,fun k => ?_,h6,gA,rfl,hf,rfl,fun q=>absurd q hz⟩
     rw[GZ,if_neg hz]
     by_cases tG:s.first<off
     ·have dd:decide (s.first<off)=true:=decide_eq_true tG
      simp only[uo,d1,e1,d2,l2,nE,z6,u1,v1,v6,w1,mx,v5,q1,d0,dd,l7,w5,q3,wh,eX sp,r1,eF,az,bd,aw,av,bG,aH,au,ak,aK,aA,aP,bK,aE,bO,bC,aR,bu,ay,bF,aT,aC,bq,aU,bI,bM,ba,aI,aW,aQ,ar,aV,a7,bS,aF,aO,bt,bJ,aN,aM,aD,bB,br,aY,bQ,bT,bk,bH,af,bp,ag,bP,ah,aB,aG,bw,bA,bR,aL,bN,bD,bo,aj,bh,bg,aq,ai,aS,a8,aZ,bE,aJ,nq,gk,wc,yL,yB,decide_true,decide_false,simprocAttr,aaJ,bne_self_eq_false,ge_iff_le,gt_iff_lt]
     ·have hr:r=[]:=hA.resolve_left tG
      have dd:decide (s.first<off)=false:=decide_eq_false tG
      have d6:((((r.length:Nat):Int))==0)=true:=by rw[hr];rfl
      simp only[uo,d1,e1,d2,l2,nE,z6,u1,v1,v6,w1,mx,v5,q1,d0,dd,d6,l7,w5,q3,wh,eX sp,r1,eF,az,bd,aw,av,bG,aH,au,ak,aK,aA,aP,bK,aE,bO,bC,aR,bu,ay,bF,aT,aC,bq,aU,bI,bM,ba,aI,aW,aQ,ar,aV,a7,bS,aF,aO,bt,bJ,aN,aM,aD,bB,br,aY,bQ,bT,bk,bH,af,bp,ag,bP,ah,aB,aG,bw,bA,bR,aL,bN,bD,bo,aj,bh,bg,aq,ai,aS,a8,aZ,bE,aJ,nq,gk,wc,yL,yB,decide_true,decide_false,simprocAttr,aaJ,bne_self_eq_false,ge_iff_le,gt_iff_lt]
    have eF:(cc.1 != 0)=false:=by rw[hz];rfl
    rw[if_pos hz]
    obtain⟨x',H7,bb,oo,H8,l8,y1,y2,y3,y4,y5,y6,y7,y8,y9,xE,uY,lU⟩:=share H6 _ _ h6 gA (aci KV g6.1.1) rfl rfl rfl rfl rfl hf (JP H6 _ g5)
    have Jh:=JP H6 _ g5
    obtain⟨rfl,rfl⟩:b=bb/\o=oo:=by have:=nE.symm.trans y7;simpa using this
    have e8:=mr y9 lU
    have TL:=y9.head.ld (o:=5) rfl
    obtain⟨H9,t1,t2,t3⟩:=y9.Kt (if cJ { m with m:=cc.2,ab:=b8 r.reverse++L,parts:=r.reverse.map sP++[(((s.first:Nat):Int),(((fb L).length:Nat):Int))] }<m.sure then cJ { m with m:=cc.2,ab:=b8 r.reverse++L,parts:=r.reverse.map sP++[(((s.first:Nat):Int),(((fb L).length:Nat):Int))] } else m.sure)
    have mn:=fun HH=>Jl P #[2,2] .i64 .i64 m.sure (cJ { m with m:=cc.2,ab:=b8 r.reverse++L,parts:=r.reverse.map sP++[(((s.first:Nat):Int),(((fb L).length:Nat):Int))] }) HH
    have yh:Small { m with m:=cc.2,ab:=b8 r.reverse++L,parts:=r.reverse.map sP++[(((s.first:Nat):Int),(((fb L).length:Nat):Int))],sure:=(if cJ { m with m:=cc.2,ab:=b8 r.reverse++L,parts:=r.reverse.map sP++[(((s.first:Nat):Int),(((fb L).length:Nat):Int))] }<m.sure then cJ { m with m:=cc.2,ab:=b8 r.reverse++L,parts:=r.reverse.map sP++[(((s.first:Nat):Int),(((fb L).length:Nat):Int))] } else m.sure) }:=⟨lU.first,lU.ab,lU.at',lU.parts,lU.part⟩
    have hx:=ail _ _ H9 t2 yh hf rfl hA
    generalize hv:(if cJ { m with m:=cc.2,ab:=b8 r.reverse++L,parts:=r.reverse.map sP++[(((s.first:Nat):Int),(((fb L).length:Nat):Int))] }<m.sure then cJ { m with m:=cc.2,ab:=b8 r.reverse++L,parts:=r.reverse.map sP++[(((s.first:Nat):Int),(((fb L).length:Nat):Int))] } else m.sure)=sv at *
    generalize EC:cJ { m with m:=cc.2,ab:=b8 r.reverse++L,parts:=r.reverse.map sP++[(((s.first:Nat):Int),(((fb L).length:Nat):Int))] }=ev at *
    simp only at TL
    refine⟨H9,l8,_,fun k => ?_,t2,gA.trans (xE.trans t3),rfl,hf,rfl,fun _=>⟨?_,?_⟩⟩
    ·have Jk:=hx k
     rw[GZ,if_pos rfl]
     by_cases tG:s.first<off
     ·have dd:decide (s.first<off)=true:=decide_eq_true tG
      have d5:(((off-s.first:Nat):Int)==0)=false:=by rw[beq_eq_false_iff_ne];omega
      simp only[uo,d1,e1,d2,l2,nE,z6,u1,v1,v6,w1,mx,v5,q1,d0,dd,l7,w5,q3,wh,eX sp,r1,eF,y1,Jh,y2,y3,w3,y4,y5,y6,y7,y8,d5,TL,e8,mn,hv,t1,eX (B4 .i64 m.sure),w4,az,bd,aw,av,bG,aH,au,ak,aK,aA,aP,bK,aE,bO,bC,aR,bu,ay,bF,aT,aC,bq,aU,bI,bM,ba,aI,aW,aQ,ar,aV,a7,bS,aF,aO,bt,bJ,aN,aM,aD,bB,br,aY,bQ,bT,bk,bH,af,bp,ag,bP,ah,aB,aG,bw,bA,bR,aL,bN,bD,bo,aj,bh,bg,aq,ai,aS,a8,aZ,bE,aJ,nq,gk,wc,yL,yB,decide_true,decide_false,simprocAttr,aaJ,bne_self_eq_false,ge_iff_le,gt_iff_lt]
      exact Jk
     ·have hr:r=[]:=hA.resolve_left tG
      have dd:decide (s.first<off)=false:=decide_eq_false tG
      have d5:(((off-s.first:Nat):Int)==0)=true:=by rw[beq_iff_eq];omega
      have d6:((((r.length:Nat):Int))==0)=true:=by rw[hr];rfl
      have d7:decide ((0:Int)<((r.length:Nat):Int))=false:=by rw[hr];rfl
      simp only[uo,d1,e1,d2,l2,nE,z6,u1,v1,v6,w1,mx,v5,q1,d0,dd,d6,l7,w5,q3,wh,eX sp,r1,eF,y1,Jh,y2,y3,w3,y4,y5,y6,y7,y8,d5,d7,TL,e8,mn,hv,t1,eX (B4 .i64 m.sure),w4,az,bd,aw,av,bG,aH,au,ak,aK,aA,aP,bK,aE,bO,bC,aR,bu,ay,bF,aT,aC,bq,aU,bI,bM,ba,aI,aW,aQ,ar,aV,a7,bS,aF,aO,bt,bJ,aN,aM,aD,bB,br,aY,bQ,bT,bk,bH,af,bp,ag,bP,ah,aB,aG,bw,bA,bR,aL,bN,bD,bo,aj,bh,bg,aq,ai,aS,a8,aZ,bE,aJ,nq,gk,wc,yL,yB,decide_true,decide_false,simprocAttr,aaJ,bne_self_eq_false,ge_iff_le,gt_iff_lt]
      exact Jk
    ·simp[sP]
    ·simp[b8]
   ·have jS:off<=s.first:=by omega
    have lN:r≠[]:=fun q=>hA (.inr q)
    have anM:0<r.length:=List.length_pos_iff.2 lN
    have hL0:L=[]:=by rw[<-hL,show off-s.first=0 by omega];rfl
    subst hL0
    obtain⟨H6,L',r1,r2,r3⟩:=cS.amq h5.st (bU (s.first:Nat))
    have hX:jd off (s::r) m.m=if (eK m.m (bU (s.first:Nat))).1=0 then jd off r (eK m.m (bU (s.first:Nat))).2 else ((eK m.m (bU (s.first:Nat))).1,s::r,(eK m.m (bU (s.first:Nat))).2):=by rw[jd,if_neg Gi,if_neg hA]
    rw[hX]
    generalize eO:eK m.m (bU (s.first:Nat))=cc at *
    obtain⟨h6,g6⟩:=h5.wi r2 r3
    have g5:cG lp p H5 l H6 { l with L:=L' }:=g6
    have gA:cG lp p H l H6 { l with L:=L' }:=(cG.mL o5).trans g6
    by_cases hz:cc.1=0
    case neg=>
     have eF:(cc.1 != 0)=true:=by simpa using hz
     rw[if_neg hz]
     refine⟨H6,_,_,fun k => ?_,h6,gA,rfl,hf,rfl,fun q=>absurd q hz⟩
     rw[GZ,if_neg hz]
     have dd:decide (s.first<off)=false:=decide_eq_false (by omega)
     have d6:((((r.length:Nat):Int))==0)=false:=by rw[beq_eq_false_iff_ne];omega
     simp only[uo,d1,e1,d2,l2,nE,z6,u1,v1,v6,w1,mx,v5,q1,d0,dd,d6,l7,w5,q3,wh,eX sp,r1,eF,az,bd,aw,av,bG,aH,au,ak,aK,aA,aP,bK,aE,bO,bC,aR,bu,ay,bF,aT,aC,bq,aU,bI,bM,ba,aI,aW,aQ,ar,aV,a7,bS,aF,aO,bt,bJ,aN,aM,aD,bB,br,aY,bQ,bT,bk,bH,af,bp,ag,bP,ah,aB,aG,bw,bA,bR,aL,bN,bD,bo,aj,bh,bg,aq,ai,aS,a8,aZ,bE,aJ,nq,gk,wc,yL,yB,decide_true,decide_false,simprocAttr,aaJ,bne_self_eq_false,ge_iff_le,gt_iff_lt]
    have eF:(cc.1 != 0)=false:=by rw[hz];rfl
    rw[if_pos hz]
    obtain⟨x',H7,bb,oo,H8,l8,y1,y2,y3,y4,y5,y6,y7,y8,y9,xE,uY,lU⟩:=share H6 _ _ h6 gA (aci KV g6.1.1) rfl rfl rfl rfl rfl hf (JP H6 _ g5)
    have Jh:=JP H6 _ g5
    obtain⟨rfl,rfl⟩:b=bb/\o=oo:=by have:=nE.symm.trans y7;simpa using this
    have ya:=y9.head.ld (o:=2) rfl
    simp only[uY] at ya
    have VZ:=y9.parts
    rw[uY] at VZ
    have EO:((r.reverse.map sP++[(((s.first:Nat):Int),(((fb []).length:Nat):Int))]).map pc).length=r.length+1:=by simp
    obtain⟨xp',x1,x2,x3⟩:=acR VZ (by decide) (b:=r.length) (by rw[EO];omega) (hi:=some (.int .i64 (r.length:Nat))) (Bd.yes _ _ _)
    have Og:((r.reverse.map sP++[(((s.first:Nat):Int),(((fb []).length:Nat):Int))]).map pc).take r.length=(r.reverse.map sP).map pc:=by
     rw[abz,aek (by simp),acI (by simp)]
    rw[Og] at x2
    obtain⟨H9,k1,k2,k3⟩:=y9.PI x2 (Out.refl _ _) (fun j hj => .inl (by rw[uY];exact x3 j hj))
    have yh:Small { m with m:=cc.2,ab:=b8 r.reverse++[],parts:=r.reverse.map sP }:=⟨lU.first,lU.ab,lU.at',by have:=lU.parts;simp at this ⊢;omega,fun q hq=>lU.part q (aaz _ hq)⟩
    have e9:=mr k2 yh
    have Yg:=k2.head.ld (o:=5) rfl
    obtain⟨CZ,t1,t2,t3⟩:=k2.Kt (if cJ { m with m:=cc.2,ab:=b8 r.reverse++[],parts:=r.reverse.map sP }<m.sure then cJ { m with m:=cc.2,ab:=b8 r.reverse++[],parts:=r.reverse.map sP } else m.sure)
    have mn:=fun HH=>Jl P #[2,2] .i64 .i64 m.sure (cJ { m with m:=cc.2,ab:=b8 r.reverse++[],parts:=r.reverse.map sP }) HH
    have tc:=gA.trans (xE.trans (k3.trans t3))
    obtain⟨ahd,amT,amN⟩:=AF hT hn dR tc
    obtain⟨Iw,l11,m11,i1,i2,i3,i4⟩:=XK r CZ _ _ t2 ⟨yh.first,yh.ab,yh.at',yh.parts,yh.part⟩ ahd amT amN hf rfl (by simp) c2 (fun z hz=>hZ z (by rw[wk];exact aaz _ (by simpa using hz))) (fun z hz=>AN z (.tail _ hz)) tQ
    refine⟨Iw,l11,m11,fun k => ?_,i2,tc.trans i3,i4⟩
    have Jk:=i1 k
    generalize hv:(if cJ { m with m:=cc.2,ab:=b8 r.reverse++[],parts:=r.reverse.map sP }<m.sure then cJ { m with m:=cc.2,ab:=b8 r.reverse++[],parts:=r.reverse.map sP } else m.sure)=sv at *
    generalize EC:cJ { m with m:=cc.2,ab:=b8 r.reverse++[],parts:=r.reverse.map sP }=ev at *
    simp only at Yg
    rw[GZ]
    have dd:decide (s.first<off)=false:=decide_eq_false (by omega)
    have d5:(((off-s.first:Nat):Int)==0)=true:=by rw[beq_iff_eq];omega
    have d6:((((r.length:Nat):Int))==0)=false:=by rw[beq_eq_false_iff_ne];omega
    have d7:decide ((0:Int)<((r.length:Nat):Int))=true:=decide_eq_true (by omega)
    simp only[uo,d1,e1,d2,l2,nE,z6,u1,v1,v6,w1,mx,v5,q1,d0,dd,d6,l7,w5,q3,wh,eX sp,r1,eF,y1,Jh,y2,y3,w3,y4,y5,y6,y8,d5,d7,ya,x1,k1,Yg,e9,mn,hv,t1,eX (B4 .i64 m.sure),w4,az,bd,aw,av,bG,aH,au,ak,aK,aA,aP,bK,aE,bO,bC,aR,bu,ay,bF,aT,aC,bq,aU,bI,bM,ba,aI,aW,aQ,ar,aV,a7,bS,aF,aO,bt,bJ,aN,aM,aD,bB,br,aY,bQ,bT,bk,bH,af,bp,ag,bP,ah,aB,aG,bw,bA,bR,aL,bN,bD,bo,aj,bh,bg,aq,ai,aS,a8,aZ,bE,aJ,nq,gk,wc,yL,yB,decide_true,decide_false,simprocAttr,aaJ,bne_self_eq_false,ge_iff_le,gt_iff_lt]
    exact Jk
end
end
section
variable {H:Hp}{lp p:Nat}{m:LM}{l:LP}
theorem CV:∀ (ss:List Sm) (e:Nat),chain e ss->∀ s∈ss,s.first+s.rs.length<=e+(b8 ss).length
 | [],e,h,s,hs=>by cases hs
 | c::r,e,h,s,hs=>by
  obtain⟨h1,h2,h3⟩:=h
  rcases aap.1 hs with rfl | hs
  ·simp only[b8,aeY,aaO];omega
  ·have:=CV r _ h3 s hs
   simp only[b8,aeY,aaO] at this ⊢
   omega
theorem Mz:∀ (ss tt:List Sm) (e:Nat),ss.map (fun s=>(s.first,s.rs))=tt.map (fun s=>(s.first,s.rs))->chain e ss->chain e tt
 | [],[],e,h,c=>trivial
 | [],_::_,e,h,c=>by simp at h
 | _::_,[],e,h,c=>by simp at h
 | s::ss,t::tt,e,h,c=>by
  simp only[abc,List.cons.injEq,abI] at h
  obtain⟨⟨h1,h2⟩,h3⟩:=h
  obtain⟨c1,c2,c3⟩:=c
  refine⟨h1▸c1,fun q => ?_,?_⟩
  ·rw[<-h2]
   exact c2 fun z=>q (by rw[z] at h3;simpa using h3.symm)
  ·rw[<-h2]
   exact Mz ss tt _ h3 c3
theorem ae5 (h:Lg H lp p m l)(hs:Small m)(hT:fY H dL)(hn:11<=H.next)(dR:∀ j∈lf lp p l,11<=j){ss:List Sm}(gO:m.parts=ss.map sP)(ly:m.ab=b8 ss)(hf:m.first=0)(hc:chain 0 ss)(ho:m.m.off=false){off:Nat}(tQ:off<=m.ab.length)(hZ:∀ r∈m.ab,r.2.length<=2000) :
  ∃ H' l' m',cK (.func (.func 11) [] []) [.ptr lp 0,.int .i64 (off:Nat)] H=some (.int .i64 (jd off ss.reverse m.m).1,H')/\
   Lg H' lp p m' l'/\cG lp p H l H' l'/\m'.m=(jd off ss.reverse m.m).2.2/\m'.first=0/\m'.cN=m.cN/\((jd off ss.reverse m.m).1=0->m'.parts=(jd off ss.reverse m.m).2.1.reverse.map sP/\m'.ab=b8 (jd off ss.reverse m.m).2.1.reverse):=by
 have l0:=h.head.ld (o:=0) rfl
 have l2:=h.head.ld (o:=2) rfl
 have l4:=h.head.ld (o:=4) rfl
 rw[hf] at l4
 have e1:=cS.BQ h.st
 rw[ho] at e1
 have e2:=mr h hs
 have iH:=hs.ab
 have EO:=h.parts.rl.len (by decide)
 rw[acs,gO,acs] at EO
 have d1:decide (cJ m<((off:Nat):Int))=false:=decide_eq_false (by unfold cJ;rw[hf];omega)
 have d2:decide (((off:Nat):Int)<0)=false:=decide_eq_false (by omega)
 have mK:∀ s∈ss.reverse,s.first<=1000:=fun s qj=>by
  have:=CV ss 0 hc s (aho.1 qj)
  rw[ly] at iH
  omega
 have hpn:ss.length<=1000:=by have:=hs.parts;rw[gO] at this;simpa using this
 obtain⟨H1,l1,m1,k1,k2⟩:=XK (off:=off) ss.reverse H m l h hs hT hn dR hf (by rw[af9];exact gO) (by rw[af9];exact ly) (by rw[af9];exact hc) hZ mK (by omega)
 rw[List.length_reverse] at k1
 have w:IntKind.wrap .i64 (((ss.length:Nat):Int)-1)=((ss.length:Nat):Int)-1:=wrap_i64 (by omega) (by omega)
 refine⟨H1,l1,m1,amc ?_,k2⟩
 unfold Rj
 by_cases hz:(jd off ss.reverse m.m).1=0
 ·rw[hz]
  simp only[hz,if_true] at k1
  simp only[e2,d1,l4,d2,l0,e1,l2,EO,w,k1,az,bd,aw,av,bG,aH,au,ak,aK,aA,aP,bK,aE,bO,bC,aR,bu,ay,bF,aT,aC,bq,aU,bI,bM,ba,aI,aW,aQ,ar,aV,a7,bS,aF,aO,bt,bJ,aN,aM,aD,bB,br,aY,bQ,bT,bk,bH,af,bp,ag,bP,ah,aB,aG,bw,bA,bR,aL,bN,bD,bo,aj,bh,bg,aq,ai,aS,a8,aZ,bE,aJ,nq,gk,wc,yL,yB,decide_true,decide_false,simprocAttr,aaJ,bne_self_eq_false,ge_iff_le,gt_iff_lt]
 ·simp only[hz,if_false] at k1
  simp only[e2,d1,l4,d2,l0,e1,l2,EO,w,k1,az,bd,aw,av,bG,aH,au,ak,aK,aA,aP,bK,aE,bO,bC,aR,bu,ay,bF,aT,aC,bq,aU,bI,bM,ba,aI,aW,aQ,ar,aV,a7,bS,aF,aO,bt,bJ,aN,aM,aD,bB,br,aY,bQ,bT,bk,bH,af,bp,ag,bP,ah,aB,aG,bw,bA,bR,aL,bN,bD,bo,aj,bh,bg,aq,ai,aS,a8,aZ,bE,aJ,nq,gk,wc,yL,yB,decide_true,decide_false,simprocAttr,aaJ,bne_self_eq_false,ge_iff_le,gt_iff_lt]
end
end Go.Proofs.YtbdlbhlhnpblpaaGreatDoor.du
namespace Go.Proofs.YtbdlbhlhnpblpaaGreatDoor.s8
open Go Am Am.K eU du
def ox (H0:Hp)(i:Nat):Bool:=decide (i<H0.next)&&(H0.h.get i).isSome
def uq (H0 H2:Hp):Hp:=⟨(List.range H2.next).foldl (fun t i=>if ox H0 i=true then t else t.del i) H2.h,H2.next⟩
theorem Vm (q:Nat->Bool):∀ (l:List Nat) (t:Tr AO) (i:Nat),(l.foldl (fun t i=>if q i=true then t else t.del i) t).get i=if i∈l/\q i=false then none else t.get i
 | [],t,i=>by simp
 | a::l,t,i=>by
  rw[List.foldl_cons,Vm q l]
  by_cases ha:q a=true
  ·rw[if_pos ha]
   by_cases e:i=a
   ·subst e;simp[ha]
   ·simp[e]
  ·rw[if_neg ha,Tr.Kz]
   have Es:q a=false:=by simpa using ha
   by_cases e:i=a
   ·subst e;simp[Es]
   ·simp[e]
theorem ZY (H0 H2:Hp)(i:Nat):(uq H0 H2).h.get i=if i<H2.next/\ox H0 i=false then none else H2.h.get i:=by
 unfold uq
 simp only[Vm,List.mem_range]
theorem RH.cut {G:Nat}{F:Nat->Prop}{W w:World}{e:Em}{H2:Hp}(h:RH G F W e H2 w)(H0:Hp):RH G F W e (uq H0 H2) w/\∀ i o,(uq H0 H2).h.get i=some o->ox H0 i=true:=by
 have sub:∀ i o,(uq H0 H2).h.get i=some o->H2.h.get i=some o/\¬ (i<H2.next/\ox H0 i=false):=by
  intro i o hi
  rw[ZY] at hi
  split at hi
  ·cases hi
  ·rename_i hq;exact⟨hi,hq⟩
 refine⟨⟨h.N,fun i o hi=>h.obj i o (sub i o hi).1,fun i j oi oj hi hj=>h.inj i j oi oj (sub i oi hi).1 (sub j oj hj).1,h.mG,h.frame,h.os,h.tape,h.output,h.size,h.iw⟩,fun i o hi => ?_⟩
 obtain⟨h1,h2⟩:=sub i o hi
 have:=(h.obj i o h1).1
 rw[h.N] at this
 cases hq:ox H0 i with
 | true=>rfl
 | false=>exact absurd ⟨this,hq⟩ h2
theorem RH.L7 {G:Nat}{F:Nat->Prop}{W w w':World}{e:Em}{H:Hp}(h:RH G F W e H w){row:Option Nat}(hg:w.grownBy w' row)(hk:∀ k,row=some k->(∀ i o,H.h.get i=some o->e.b i≠k)/\¬ F k):RH G F W e H w':=by
 refine⟨h.N,fun i o hi => ?_,h.inj,h.mG,fun k hF => ?_,hg.os.trans h.os,hg.tape.trans h.tape,hg.output.trans h.output,abl h.size hg.size,?_⟩
 ·obtain⟨a,ob,b,c,d⟩:=h.obj i o hi
  exact⟨a,ob,(hg.block _ (abH.1 b).1 fun q=>(hk _ q.symm).1 i o hi rfl).trans b,c,d⟩
 ·obtain⟨a,b⟩:=h.frame k hF
  exact⟨aci a hg.size,(hg.block k a fun q=>(hk _ q.symm).2 hF).trans b⟩
 ·obtain⟨g1,g2,g3⟩:=h.iw
  have:=hg.size
  omega
noncomputable def step (H0:Hp)(lp o:Nat)(z:Int)(H:Hp):Option (Int × Hp):=
 match cellAt H lp o with
 | some (.ptr q r)=>(match cK (.func (.func 28) [] []) [.agg [.int .i64 z,.int .i64 0]] H with
  | some (.str s,H1)=>(match cellAt H1 lp o with
   | some (.ptr q1 r1)=>if q1=q/\r1=r then (match cK (.func (.func 32) [] []) [.ptr q r,.str s] H1 with
    | some (.int .i64 n,H2)=>some (n,uq H0 H2)
    | _=>none) else none
   | _=>none)
  | _=>none)
 | _=>none
noncomputable def iX (H0:Hp)(lp o:Nat):List Int->Hp->Option (Int × Hp)
 | [],H=>some (0,H)
 | z::r,H=>match step H0 lp o z H with
  | some (n,H1)=>if n=0 then iX H0 lp o r H1 else some (n,H1)
  | none=>none
theorem YE {H0:Hp}{lp o:Nat}:∀ (l r:List Int) (H Hk:Hp),iX H0 lp o l H=some (0,Hk)->iX H0 lp o (l++r) H=iX H0 lp o r Hk
 | [],r,H,Hk,h=>by cases h;rfl
 | z::l,r,H,Hk,h=>by
  rw[aew,iX]
  rw[iX] at h
  split at h
  ·rename_i n H1 hs
   split at h
   ·rename_i hn
    simp only[hn,if_true]
    exact YE l r H1 Hk h
   ·rename_i hn
    cases h
    exact absurd rfl hn
  ·cases h
theorem aa4 {H0:Hp}{lp o:Nat}:∀ (l:List Int) (k:Nat) (H Hf:Hp),iX H0 lp o l H=some (0,Hf)->∃ Hk,iX H0 lp o (l.take k) H=some (0,Hk)
 | [],k,H,Hf,h=>by rw[List.take_nil];exact⟨_,h⟩
 | z::l,0,H,Hf,h=>⟨H,rfl⟩
 | z::l,k+1,H,Hf,h=>by
  rw[afQ,iX]
  rw[iX] at h
  split at h
  ·rename_i n H1 hs
   split at h
   ·rename_i hn
    simp only[hn,if_true]
    exact aa4 l k H1 Hf h
   ·rename_i hn
    cases h
    exact absurd rfl hn
  ·cases h
theorem alc {F:Nat->Prop}{W w:World}{e:Em}{H0 H H':Hp}{lp o:Nat}{z n:Int}(hs:step H0 lp o z H=some (n,H'))(hR:RH Tryz.prog.globals.size F W e H w){ol:Nat}(ho:(ol:Int)=o+e.d lp)(cC:w.heap.size<=W.heap.size) :
  ∃ ad,w.cell? ⟨e.b lp,ol,none⟩=some (.pointer (some ad))/\Calls Tryz.prog 28 #[.agg #[.int .i64 z,.int .i64 0]] w fun en w1=>∃ s,en = .returned (.string s)/\w1.cell? ⟨e.b lp,ol,none⟩=some (.pointer (some ad))/\(∀ k,F k->w1.heap[k]? = W.heap[k]?)/\w.heap.size<=w1.heap.size/\
   Calls Tryz.prog 32 #[.pointer (some ad),.string s] w1 fun en w2=>∃ e2,en = .returned (.int .i64 n)/\e.le e2/\RH Tryz.prog.globals.size F W e2 H' w2/\∀ i ob,H'.h.get i=some ob->ox H0 i=true:=by
 unfold step at hs
 split at hs
 ·rename_i q r hc
  split at hs
  ·rename_i s H1 jj
   split at hs
   ·rename_i q1 r1 rK
    split at hs
    ·rename_i hq
     obtain⟨rfl,rfl⟩:=hq
     split at hs
     ·rename_i n' H2 hd
      cases hs
      obtain⟨iN,o2,qf,v2,fR,dT⟩:=hR.load hc
      obtain rfl:o2=ol:=by omega
      obtain⟨r',hqi,dg,rfl⟩:=dT.jX
      refine⟨_,fR,?_⟩
      refine (IN mixed Bi Hv Bj K.ID HL jj Tryz.func28 rfl hR (bV := #[.agg #[.int .i64 z,.int .i64 0]]) ?_).mono ?_
      ·refine .cons (.agg _ _ rfl ?_) (.nil _)
       intro i v v' h1 h2
       match i,h1,h2 with
       | 0,h1,h2=>cases h1;cases h2;exact .int _ _
       | 1,h1,h2=>cases h1;cases h2;exact .int _ _
      rintro en w1 ⟨e1,s',rfl,hle,vk,mF⟩
      obtain⟨_,o3,jV,v3,aav,akr⟩:=vk.load rK
      obtain⟨hb,nZ,_⟩:=hle.2 lp iN
      obtain⟨ft,anq,_⟩:=hle.2 q1 hqi
      obtain rfl:o3=o2:=by omega
      obtain⟨r3,_,hr3,rfl⟩:=akr.jX
      obtain rfl:r3=r':=by omega
      rw[hb,ft] at aav
      obtain⟨s0,rfl,rfl⟩:=mF.iS
      refine⟨_,rfl,aav,fun k hk=>(vk.frame k hk).2,abl cC vk.size,?_⟩
      refine (IN mixed Bi Hv Bj K.ID HL hd Tryz.func32 rfl vk (bV := #[.pointer (some ⟨e.b q1,r3,none⟩),.string s0]) ?_).mono ?_
      ·refine .cons ?_ (.cons mF (.nil _))
       have:=VR.ptr (e:=e1) q1 r1 r3 (aci hqi hle.1) (by omega)
       rw[ft] at this
       exact this
      rintro en w2 ⟨e2,v',rfl,FI,kS,nF⟩
      obtain⟨c1,c2⟩:=RH.cut kS H0
      have:v' = .int .i64 n:=by cases nF;rfl
      subst this
      exact⟨e2,rfl,Em.le_trans hle FI,c1,c2⟩
     ·cases hs
    ·cases hs
   ·cases hs
  ·cases hs
 ·cases hs
open Go.RowKit Go.Shelf Sz
open Am (RH Em xF cellAt)
attribute [local go_sem] Oper.semAt_some
theorem ue {w W:World}{a:Addr}{v:Value}(h:w.cell? a=some v)(k:W.heap[a.block]? = w.heap[a.block]?):W.cell? a=some v:=(World.cell?_of_block k).trans h
theorem VL {w:World}{a:Addr}{v:Value}(h:w.cell? a=some v):a.block<w.heap.size:=by
 unfold World.cell? at h
 split at h
 ·rename_i hx;exact (abH.1 hx).1
 ·cases h
theorem PS (W:World)(v:Value)(t:TypeId):(W.alloc (.cells #[v] t)).cell? ⟨W.heap.size,0,none⟩=some v:=by
 have:=World.alloc_heap_new W (.cells #[v] t)
 unfold World.cell?
 simp only[this]
 rfl
theorem Gp {W:World}{a:Addr}{v:Value}(o:Obj)(h:W.cell? a=some v):(W.alloc o).cell? a=some v:=ue h (Below.heap_alloc _ _ _ (VL h))
theorem walk {F0:Nat->Prop}{W0 w:World}{e0:Em}{H0 Hf:Am.Hp}(hR:RH Tryz.prog.globals.size F0 W0 e0 H0 w){lp o ol i oA b off:Nat}(iN:lp<e0.N)(ho:(ol:Int)=o+e0.d lp){zs:List Int}{a:Option Addr}{len cap:Nat}(hI:Row w (.slice a len cap) b off zs)(It:zs.length*8<=140737488351232)
  (kI:zs≠[]->i<e0.N/\b=e0.b i/\(off:Int)=oA+e0.d i)
  (hG:∀ (l:List Int) (Hk:Am.Hp),(∀ y∈l,y∈zs)->iX H0 lp o l H0=some (0,Hk)->(∀ j z,zs[j]? = some z->cellAt Hk i (oA+j)=some (.int .i64 z))/\∀ z∈zs,(step H0 lp o z Hk).isSome=true)
  (hF:iX H0 lp o zs.reverse H0=some (0,Hf)) :
  Calls Tryz.prog 50 #[.pointer (some ⟨e0.b lp,ol,none⟩),.slice a len cap] w (xF Tryz.prog.globals.size F0 W0 e0 (.int .i64 0) Hf):=by
 refine (callsIn_wide (n:=8)).1 ?_
 have kq:Fence.wide.round=none:=rfl
 obtain⟨WW,Bt⟩:∃ WW,((w.alloc (.cells #[.pointer (some ⟨e0.b lp,ol,none⟩)] 24)).alloc (.cells #[.int .i64 0] 31)).alloc (.cells #[.slice a len cap] 83)=WW:=⟨_,rfl⟩
 have cC:WW.heap.size=w.heap.size+3:=by rw[<-Bt];simp
 have jr:Below w.heap.size w WW:=by rw[<-Bt];exact (((Below.refl _ w).alloc (zf _) _).alloc (by simp) _).alloc (by simp;omega) _
 have w7:=hR.below jr
 have old:∀ i o,H0.h.get i=some o->e0.b i<w.heap.size:=fun i o h=>by
  obtain⟨_,ob,db,_⟩:=hR.obj i o h
  exact (abH.1 db).1
 let FF:Nat->Prop:=fun k=>F0 k\/(w.heap.size<=k/\k<WW.heap.size)
 have hRF:RH Tryz.prog.globals.size FF WW e0 H0 WW:=w7.Ad (fun k hk=>⟨hk.elim (fun q=>(w7.frame k q).1) (fun q=>q.2),rfl⟩) (fun i o hi hq hk=>by
  rcases hk with hk | hk
  ·obtain⟨_,_,_,_,h4⟩:=hR.obj i o hi
   exact h4 hq hk
  ·have:=old i o hi;omega) rfl rfl rfl (zf _)
 have adL:WW.cell? ⟨w.heap.size,0,none⟩=some (.pointer (some ⟨e0.b lp,ol,none⟩)):=by rw[<-Bt];exact Gp _ (Gp _ (PS w _ _))
 have ane:WW.cell? ⟨w.heap.size+1,0,none⟩=some (.int .i64 0):=by
  rw[<-Bt]
  have:=PS (w.alloc (.cells #[.pointer (some ⟨e0.b lp,ol,none⟩)] 24)) (.int .i64 0) 31
  rw[World.size_alloc] at this
  exact Gp _ this
 have aiF:WW.cell? ⟨w.heap.size+1+1,0,none⟩=some (.slice a len cap):=by
  rw[<-Bt]
  have:=PS ((w.alloc (.cells #[.pointer (some ⟨e0.b lp,ol,none⟩)] 24)).alloc (.cells #[.int .i64 0] 31)) (.slice a len cap) 83
  rw[World.size_alloc,World.size_alloc] at this
  exact this
 have Ug:WW.heap[w.heap.size+1]? = some (.cells #[.int .i64 0] 31):=by
  rw[<-Bt]
  refine (Below.heap_alloc _ _ _ (by simp)).trans ?_
  have:=World.alloc_heap_new (w.alloc (.cells #[.pointer (some ⟨e0.b lp,ol,none⟩)] 24)) (.cells #[.int .i64 0] 31)
  rw[World.size_alloc] at this
  exact this
 have hIW:Row WW (.slice a len cap) b off zs:=by
  rcases hI with q | ⟨na,q,h⟩
  ·exact .inl q
  ·exact .inr ⟨na,q,fun j z hj=>ue (h j z hj) (jr.block _ (VL (h j z hj)))⟩
 refine callsIn_of_wp_marks Tryz.func50 rfl trivial ?_ kq
 simp only[Tryz.ntmps50,agw,abg,abQ,Nat.reduceAdd,Nat.reduceSub,Array.replicate_succ,Array.replicate_zero,List.push_toArray,List.append_toArray,adt,aew]
 gi_wp2_with (refine⟨trivial,?_⟩;gi_at_call 66;refine (aj2 Fence.wide (8-1) trivial kq _ _ _ _).mono ?_;rintro e w' ⟨rfl,rfl⟩)
 refine wpIn_rangeFunc_ownG kq (by decide) (gf:=83) (lb := #[.pointer (some ⟨w.heap.size+1+1,0,none⟩)]) rfl trivial (enters_of Tryz.func83 (by kernel_rfl) rfl)
  (abD Fence.wide (8-1) trivial kq (by decide) (w.heap.size+1+1) b off (.slice a len cap) zs It _ aiF hIW) Kp.trans ?hkb (Below.refl _ _) (fun _=>rfl)
  (fun pre W=>∃ e1 Hk,iX H0 lp o (pre.map (·.1.2)) H0=some (0,Hk)/\e0.le e1/\RH Tryz.prog.globals.size FF WW e1 Hk W/\∀ i ob,Hk.h.get i=some ob->ox H0 i=true)
  (fun _ pre _=>∀ k,pre.map (·.1.2)≠zs.reverse.take k) ?hI ?hIx ?h0
  (fun x=>{ tmps := #[.pointer (some ⟨e0.b lp,ol,none⟩),.slice a len cap,.pointer (some ⟨w.heap.size,0,none⟩),undef,.pointer (some ⟨w.heap.size+1,0,none⟩),undef,.int .i64 x.1.2,undef,.slice a len cap,.func (.func 83) #[] #[.pointer (some ⟨w.heap.size+1+1,0,none⟩)],.int .i64 x.1.1,.int .i64 x.1.2,undef,undef,undef,undef,undef,undef,undef,undef,undef,undef,undef],defers:=[] })
  ?assign ?body ?done ?stop
 case hkb=>
  intro W l ob nB hl hg hc hw ad v hs fR
  refine ue fR (World.putObj_heap_other fun e => ?_)
  have hx:=fR
  unfold World.cell? at hx
  rw[e,hg] at hx
  cases ob<;>simp_all [Obj.isCells]
 case hI=>
  rintro pre W W' row ⟨e1,Hk,h1,h2,h3,h4⟩ hg hr
  refine⟨e1,Hk,h1,h2,RH.L7 h3 hg fun k hk => ?_,h4⟩
  have hB:=(hr k hk).1
  constructor
  ·intro i ob hi e
   have hq:=h4 i ob hi
   unfold ox at hq
   simp only[aaK,decide_eq_true_eq] at hq
   obtain⟨o',ez⟩:=acV.1 hq.2
   have:=old i o' ez
   have hN:i<e0.N:=by rw[hR.N];exact hq.1
   have:=(h2.2 i hN).1
   omega
  ·intro hk
   rcases hk with hk | hk
   ·have:=(w7.frame k hk).1;omega
   ·omega
 case hIx=>intro c s A B row h _ _;exact h
 case h0=>
  exact⟨e0,H0,rfl,Am.Em.le_refl _,hRF,fun i ob h=>by
   unfold ox
   have:=(hR.obj i ob h).1
   rw[hR.N] at this
   simp[this,h]⟩
 case assign=>
  intro l x W K hK
  gi_wp2
  exact hK
 case body=>
  rintro l pre x W ⟨e1,Hk,h1,h2,h3,h4⟩ hlen
  have hzx:x.1.2∈zs:=abY x.2
  have AK:∀ y∈pre.map (·.1.2),y∈zs:=fun y hy=>by
   obtain⟨u,_,rfl⟩:=abn.1 hy
   exact abY u.2
  obtain⟨gV,eu⟩:=hG _ Hk AK h1
  obtain⟨⟨n,H'⟩,hs⟩:=acV.1 (eu _ hzx)
  have Io:∀ i ob,Hk.h.get i=some ob->e1.b i<w.heap.size:=fun i ob hi=>by
   have hq:=h4 i ob hi
   unfold ox at hq
   simp only[aaK,decide_eq_true_eq] at hq
   obtain⟨o',ez⟩:=acV.1 hq.2
   have:=old i o' ez
   have hN:i<e0.N:=by rw[hR.N];exact hq.1
   have:=(h2.2 i hN).1
   omega
  let F2:Nat->Prop:=fun k=>FF k\/(WW.heap.size<=k/\∃ ob,W.heap[k]? = some ob/\ob.isCells=false)
  have kS:RH Tryz.prog.globals.size F2 W e1 Hk W:=h3.Ad (fun k hk=>⟨hk.elim (fun q=>(h3.frame k q).1) (fun⟨_,ob,q,_⟩=>(abH.1 q).1),rfl⟩) (fun i o hi hq hk=>by
   rcases hk with hk | ⟨hk,_⟩
   ·obtain⟨_,_,_,_,h4⟩:=h3.obj i o hi
    exact h4 hq hk
   ·have:=Io i o hi;omega) rfl rfl rfl (zf _)
  obtain⟨hb,hd,_⟩:=h2.2 lp iN
  have kS:RH Tryz.prog.globals.size F2 W e1 Hk W.drew:=kS.drawn _
  obtain⟨ad,sn,DE⟩:=alc hs kS (ol:=ol) (by rw[hd];exact ho) (zf _)
  rw[hb] at sn DE
  have own:∀ k,w.heap.size<=k->k<WW.heap.size->W.heap[k]? = WW.heap[k]? := fun k q1 q2=>(h3.frame k (.inr ⟨q1,q2⟩)).2
  have kZ:W.cell? ⟨w.heap.size,0,none⟩=some (.pointer (some ⟨e0.b lp,ol,none⟩)):=ue adL (own w.heap.size (zf _) (by omega))
  have mz:iX H0 lp o ((pre++[x]).map (·.1.2)) H0=some (n,H'):=by
   rw[abz,YE _ _ _ _ h1]
   show iX H0 lp o [x.1.2] Hk=_
   rw[iX,hs]
   simp only
   split
   ·rename_i q;rw[q];rfl
   ·rfl
  have am9:∀ y∈(pre++[x]).map (·.1.2),y∈zs:=fun y hy=>by
   obtain⟨u,_,rfl⟩:=abn.1 hy
   exact abY u.2
  have cp:∀ e2 w2,RH Tryz.prog.globals.size F2 W e2 H' w2->KeepsFrom (w.heap.size+3) W w2:=fun e2 w2 jb=>cC▸⟨jb.size,fun k ob hk db hc=>((jb.frame k (.inr ⟨hk,ob,db,hc⟩)).2.trans db)⟩
  have cU:∀ (e3:Em) (H3:Am.Hp) (W3 w3:World) (F3:Nat->Prop),RH Tryz.prog.globals.size F3 W3 e3 H3 w3->e0.le e3->(∀ j z,zs[j]? = some z->cellAt H3 i (oA+j)=some (.int .i64 z))->∀ j z,zs[j]? = some z->w3.cell? ⟨b,off+j,none⟩=some (.int .i64 z):=by
   intro e3 H3 W3 w3 F3 hr hle gV j z hj
   obtain⟨hi,rfl,tQ⟩:=kI fun q=>by rw[q] at hj;cases hj
   obtain⟨_,o3,jV,v3,fR,dT⟩:=hr.load (gV j z hj)
   obtain⟨o8,KL,_⟩:=hle.2 i hi
   rw[o8] at fR
   obtain rfl:o3=off+j:=by omega
   cases dT
   exact fR
  have aeb:n=0->∀ e2 w2,e1.le e2->RH Tryz.prog.globals.size F2 W e2 H' w2->(∀ i ob,H'.h.get i=some ob->ox H0 i=true)->KeepsFrom (w.heap.size+3) W w2/\Kp (w.heap.size+1+1) b off zs.length W w2/\
    ∃ e1 Hk,iX H0 lp o ((pre++[x]).map (·.1.2)) H0=some (0,Hk)/\e0.le e1/\RH Tryz.prog.globals.size FF WW e1 Hk w2/\∀ i ob,Hk.h.get i=some ob->ox H0 i=true:=by
   intro hn e2 w2 hle jb MS
   subst hn
   refine⟨cp e2 w2 jb,fun ad v hs fR => ?_,e2,H',mz,Am.Em.le_trans h2 hle,jb.Ad (fun k hk=>⟨(jb.frame k (.inl hk)).1,(jb.frame k (.inl hk)).2.trans (h3.frame k hk).2⟩) (fun i o hi hq hk => ?_) (jb.os.trans h3.os) (jb.tape.trans h3.tape) (jb.output.trans h3.output) (abl h3.size jb.size),MS⟩
   ·rcases hs with rfl | ⟨j,hj,rfl⟩
    ·exact ue fR (jb.frame (w.heap.size+1+1) (.inl (.inr ⟨by omega,by omega⟩))).2
    ·obtain⟨z,hz⟩:∃ z,zs[j]? = some z:=⟨_,abb hj⟩
     rw[cU _ _ _ _ _ h3 h2 gV j z hz] at fR
     cases fR
     exact cU _ _ _ _ _ jb (Am.Em.le_trans h2 hle) (hG _ H' am9 mz).1 j z hz
   ·obtain⟨_,_,_,_,h4⟩:=jb.obj i o hi
    exact h4 hq (.inl hk)
  have alz:n≠0->∀ k,(pre++[x]).map (·.1.2)≠zs.reverse.take k:=by
   intro hn k e
   obtain⟨Hk2,h⟩:=aa4 zs.reverse k H0 Hf hF
   rw[<-e,mz] at h
   cases h
   exact hn rfl
  have boxed:∀ e2 w2,RH Tryz.prog.globals.size F2 W e2 H' w2->w2.cell? ⟨w.heap.size+1,0,none⟩=some (.int .i64 0)/\w2.frozen? ⟨w.heap.size+1,0,none⟩=false:=by
   intro e2 w2 jb
   have db:w2.heap[w.heap.size+1]? = some (.cells #[.int .i64 0] 31):=by
    rw[(jb.frame (w.heap.size+1) (.inl (.inr ⟨by omega,by omega⟩))).2,own _ (by omega) (by omega)]
    exact Ug
   exact⟨by unfold World.cell?;simp only[db];rfl,by unfold World.frozen?;simp only[db];rfl⟩
  have ye:Tryz.prog.follows .mixedOrders=true:=by kernel_rfl
  have Xm:∀ e2 w2,RH Tryz.prog.globals.size F2 W e2 H' w2->∀ v,KeepsFrom (w.heap.size+3) W (w2.setCell ⟨w.heap.size+1,0,none⟩ v):=fun e2 w2 jb v=>(cp e2 w2 jb).trans ((KeepsOthers.setCell _ _ _).from _)
  have hF2:F2 w.heap.size := .inl (.inr ⟨zf _,by omega⟩)
  gi_wp2
  gi_region_with_o (first
   | (refine⟨trivial,?_⟩;gi_at_call 28;refine (CallsIn.inRound l (callsIn_wide.2 DE)).mono ?_;rintro e w1 ⟨s,rfl,uz,Bx,aol,agK⟩;have qM:w1.cell? ⟨w.heap.size,0,none⟩=some (.pointer (some ⟨e0.b lp,ol,none⟩)):=ue kZ (Bx w.heap.size hF2))
   | (refine⟨trivial,?_⟩;gi_at_call 32;refine (CallsIn.inRound l (callsIn_wide.2 agK)).mono ?_;rintro e w2 ⟨e2,rfl,FI,jb,MS⟩))
  all_goals
   by_cases hn:n=0
   ·have rU:(n != 0)=false:=by rw[hn];rfl
    subst hn
    gi_wp2
    exact aeb (by first | rfl | trivial) e2 w2 FI jb MS
   ·have rU:(n != 0)=true:=by simpa using hn
    obtain⟨bc,bf⟩:=boxed e2 w2 jb
    gi_wp2
    exact⟨by first | exact Xm e2 w2 jb _ | (rw[cC];exact Xm e2 w2 jb _),alz hn⟩
 case done=>
  rintro D ys W hD hy ⟨e1,Hk,h1,h2,h3,h4⟩ hK
  rw[hy,hF] at h1
  cases h1
  have db:W.heap[w.heap.size+1]? = some (.cells #[.int .i64 0] 31):=(h3.frame (w.heap.size+1) (.inr ⟨by omega,by omega⟩)).2.trans Ug
  have Gv:W.cell? ⟨w.heap.size+1,0,none⟩=some (.int .i64 0):=by unfold World.cell?;simp only[db];rfl
  have pL:W.frozen? ⟨w.heap.size+1,0,none⟩=false:=by unfold World.frozen?;simp only[db];rfl
  gi_wp2
  have hno:∀ i o,Hf.h.get i=some o->e1.b i<w.heap.size:=fun i ob hi=>by
   have hq:=h4 i ob hi
   unfold ox at hq
   simp only[aaK,decide_eq_true_eq] at hq
   obtain⟨o',ez⟩:=acV.1 hq.2
   have:=old i o' ez
   have hN:i<e0.N:=by rw[hR.N];exact hq.1
   have:=(h2.2 i hN).1
   omega
  have hRf:RH Tryz.prog.globals.size F0 W0 e1 Hf W:=h3.Ad (fun k hk=>⟨(h3.frame k (.inl hk)).1,(h3.frame k (.inl hk)).2.trans (w7.frame k hk).2⟩) (fun i o hi hq hk=>by
   obtain⟨_,_,_,_,h4⟩:=h3.obj i o hi
   exact h4 hq (.inl hk)) (h3.os.trans w7.os) (h3.tape.trans w7.tape) (h3.output.trans w7.output) (abl w7.size h3.size)
  have f0:∀ k,F0 k->k<w.heap.size:=fun k hk=>(hR.frame k hk).1
  have hK2:(W.setCell ⟨w.heap.size+1,0,none⟩ (.int .i64 0)).heap[D]? = some (.deferred (some [])):=(KeepsOthers.setCell _ _ _).same D _ hK rfl
  refine⟨by simp,.inl ⟨_,_,rfl,run_takeDeferred hK2,?_⟩⟩
  have hDn:∀ i o,Hf.h.get i=some o->e1.b i≠D:=fun i o hi q=>by have:=hno i o hi;omega
  have hR8:RH Tryz.prog.globals.size F0 W0 e1 Hf (W.setCell ⟨w.heap.size+1,0,none⟩ (.int .i64 0)):=RH.L7 hRf (grownBy_setCell' W _ _) fun k hk=>by
   cases hk
   exact⟨fun i o hi q=>by have:=hno i o hi;omega,fun q=>by have:=f0 _ q;omega⟩
  have hR9:RH Tryz.prog.globals.size F0 W0 e1 Hf ((W.setCell ⟨w.heap.size+1,0,none⟩ (.int .i64 0)).putObj D (.deferred none)):=RH.L7 hR8 (grownBy_putObj' _ D _) fun k hk=>by
   cases hk
   exact⟨hDn,fun q=>by have:=f0 _ q;omega⟩
  have hc9:((W.setCell ⟨w.heap.size+1,0,none⟩ (.int .i64 0)).putObj D (.deferred none)).cell? ⟨w.heap.size+1,0,none⟩=some (.int .i64 0):=ue (World.cell?_setCell_same' _ _ _ (by rw[Gv];rfl)) (World.putObj_heap_other fun e=>by simp at e;omega)
  refine⟨.int .i64 0,?_,e1,_,rfl,h2,hR9,.int _ _⟩
  have nU:Tryz.f50.results = #[.cell 4 31]:=by kernel_rfl
  simp only[results,nU]
  go_simp
 case stop=>
  rintro D c pre W hD ⟨k,hk⟩ h _
  exact absurd hk (h k)
def Good (H:Hp)(lp o i oA:Nat)(zs:List Int)(Hf:Hp):Prop:=
 (∀ (l:List Int) (Hk:Hp),(∀ y∈l,y∈zs)->iX H lp o l H=some (0,Hk)->(∀ j z,zs[j]? = some z->cellAt Hk i (oA+j)=some (.int .i64 z))/\∀ z∈zs,(step H lp o z Hk).isSome=true)/\iX H lp o zs.reverse H=some (0,Hf)
open Classical in
noncomputable def xy:Prim:=fun args H=>match args with
 | [.ptr lp o,.ae]=>some (.int .i64 0,H)
 | [.ptr lp o,.slice i oA n c ex 1]=>if h:∃ r:List Int × Hp,cU H i oA n=some (r.1.map (AV.int .i64))/\n*8<=140737488351232/\Good H lp o i oA r.1 r.2 then some (.int .i64 0,h.choose.2) else none
 | _=>none
theorem YB {H Hf:Hp}{lp o i oA n c:Nat}{ex:Bool}{zs:List Int}(h1:cU H i oA n=some (zs.map (AV.int .i64)))(h2:n*8<=140737488351232)(h3:Good H lp o i oA zs Hf):xy [.ptr lp o,.slice i oA n c ex 1] H=some (.int .i64 0,Hf):=by
 have h:∃ r:List Int × Hp,cU H i oA n=some (r.1.map (AV.int .i64))/\n*8<=140737488351232/\Good H lp o i oA r.1 r.2:=⟨(zs,Hf),h1,h2,h3⟩
 unfold xy
 simp only
 rw[dif_pos h]
 obtain⟨q1,q2,q3⟩:=h.choose_spec
 generalize h.choose=r at *
 obtain⟨zs',Hf'⟩:=r
 rw[h1,acf] at q1
 have e:zs=zs':=(List.map_inj_right (fun a b q=>by cases q;rfl)).1 q1
 subst e
 have:=q3.2
 rw[h3.2] at this
 cases this
 rfl
theorem ael:od Tryz.prog 50 xy:=by
 intro args H v H' hp F W e w bV hR ha
 have ent:∀ KY,(callFunc 50 KY).run Tryz.prog w = .ok (.enter 50 KY) w:=fun KY=>nM Bi Tryz.func50 rfl KY w
 refine⟨ent _,?_⟩
 unfold xy at hp
 split at hp
 ·rename_i lp o
  cases hp
  obtain⟨a',r1,e1,fu,ei⟩:=ha.cons_inv
  obtain⟨b',r2,e2,nF,pG⟩:=ei.cons_inv
  have e3:=pG.gg
  subst e3 e2
  obtain⟨ol,iN,ho,rfl⟩:=fu.jX
  have e4:b' = .slice none 0 0:=by cases nF;rfl
  subst e4
  obtain rfl:bV = #[.pointer (some ⟨e.b lp,ol,none⟩),.slice none 0 0]:=acB.1 e1
  exact walk hR iN ho (zs:=[]) (i:=0) (oA:=0) (b:=0) (off:=0) (.inl ⟨rfl,none,0,rfl⟩) (by decide) (fun q=>absurd rfl q) (fun l Hk hl _=>⟨fun j z q=>by simp at q,fun z hz=>by cases hz⟩) rfl
 ·rename_i lp o i oA n c ex
  split at hp
  ·rename_i h
   cases hp
   obtain⟨q1,q2,q3⟩:=h.choose_spec
   generalize h.choose=r at *
   obtain⟨zs,Hf⟩:=r
   obtain⟨hlen,dM⟩:=zW.L5 n oA _ q1
   have nI:zs.length=n:=by simpa using hlen
   have acT:∀ j z,zs[j]? = some z->cellAt H i (oA+j)=some (.int .i64 z):=fun j z hz=>dM j _ (by rw[acD,hz];rfl)
   obtain⟨a',r1,e1,fu,ei⟩:=ha.cons_inv
   obtain⟨b',r2,e2,nF,pG⟩:=ei.cons_inv
   have e3:=pG.gg
   subst e3 e2
   obtain⟨ol,iN,ho,rfl⟩:=fu.jX
   cases nF with
   | slice _ _ _ _ _ _ o' c' hi hoo hl hc hx hn=>
    obtain rfl:bV = #[.pointer (some ⟨e.b lp,ol,none⟩),.slice (some ⟨e.b i,o',none⟩) n c']:=acB.1 e1
    refine walk hR iN ho (zs:=zs) (i:=i) (oA:=oA) (b:=e.b i) (off:=o') (.inr ⟨c',by rw[nI],fun j z hz => ?_⟩) (by rw[nI];exact q2) (fun _=>⟨hi,rfl,hoo⟩) q3.1 q3.2
    obtain⟨_,o2,qf,v2,fR,dT⟩:=hR.load (acT j z hz)
    obtain rfl:o2=o'+j:=by omega
    cases dT
    exact fR
   | uK _ _ _ _ a=>
    obtain rfl:bV = #[.pointer (some ⟨e.b lp,ol,none⟩),.slice (some a) 0 0]:=acB.1 e1
    have dD:zs=[]:=ae7 nI
    subst dD
    exact walk hR iN ho (zs:=[]) (i:=i) (oA:=oA) (b:=0) (off:=0) (.inl ⟨rfl,some a,0,rfl⟩) (by decide) (fun q=>absurd rfl q) q3.1 q3.2
  ·cases hp
 ·cases hp
end Go.Proofs.YtbdlbhlhnpblpaaGreatDoor.s8
namespace Go.Proofs.YtbdlbhlhnpblpaaGreatDoor.dK
open Go Am Am.K eU
abbrev ext:Nat->Option Ext:=eU.ext
noncomputable def lo (g:Nat):Prim:=fun args H=>du.cK (.func (.func g) [] []) args H
theorem ajb {g:Nat}(h:(Tryz.prog.funcs[g]?.bind (·.body)).isSome=true):od Tryz.prog g (lo g):=by
 intro args H v H' hp F W e w bV hR ha
 obtain⟨b,hb⟩:=acV.1 h
 rw[aaF] at hb
 obtain⟨fn,h1,h2⟩:=hb
 exact⟨nM Bi h1 h2 _ w,IN mixed Bi Hv eU.Bj K.ID du.HL hp h1 h2 hR ha⟩
def Pc:List Nat:=[16,28,51,22,52,31,19,35,37,34,23,6,18,8,12,11,13,14,20,21]
noncomputable def Ip (g:Nat)(l:List Nat):Bool:=List.rec false (fun a _ ih=>Bool.rec ih true (Nat.beq g a)) l
noncomputable def b7 (g:Nat):Option Prim:=bif Nat.beq g 50 then some s8.xy else bif Ip g Pc then some (lo g) else none
theorem UD {g:Nat}:∀ {l:List Nat},Ip g l=true->g∈l
 | [],h=>by cases h
 | a::l,h=>by
  have h':@Bool.rec (fun _=>Bool) (Ip g l) true (Nat.beq g a)=true:=h
  cases hq:Nat.beq g a with
  | true=>rw[aaV hq];exact .head _
  | false=>rw[hq] at h';exact .tail _ (UD h')
theorem ajT:(Pc.all fun g=>(Tryz.prog.funcs[g]?.bind (·.body)).isSome)=true:=by kernel_rfl
theorem Bj:ot Tryz.prog b7:=by
 intro cl p h args H v H' hp
 unfold b7 at h
 cases h1:Nat.beq cl 50 with
 | true=>
  rw[h1] at h
  cases h
  obtain rfl:=aaV h1
  exact s8.ael args H v H' hp
 | false=>
  rw[h1] at h
  cases h2:Ip cl Pc with
  | true=>
   rw[h2] at h
   cases h
   exact ajb (adh.1 ajT cl (UD h2)) args H v H' hp
  | false=>
   rw[h2] at h
   cases h
end Go.Proofs.YtbdlbhlhnpblpaaGreatDoor.dK
namespace Go.Proofs.YtbdlbhlhnpblpaaGreatDoor.kf
open Go Am Am.K dK
noncomputable section
noncomputable abbrev P:Program:=Tryz.prog
noncomputable def L9 : List (Nat × An) := [
 (36, (.n (.s [0, 1] (.n (.cd .nl .nl)) (.s [] (.n (.v [] (.lp [0, 1, 22, 23, 24] (.n (.q (.cd .nl .nl) (.s [0, 1, 22, 23, 24] (.b (.t [0, 1, 5, 6, 22, 23, 24] (.s [0, 1, 5, 6, 22, 23, 24] (.n (.cd (.n .nl) .nl)) (.n (.t [0, 1, 5, 6, 7, 8, 9, 22, 23, 24] (.q (.n (.cd (.n .nl) .nl)) (.t [0, 1, 5, 7, 8, 10, 11, 22, 23, 24] (.n (.t [0, 1, 5, 7, 8, 10, 11, 22, 23, 24] (.t [0, 1, 5, 7, 8, 11, 22, 23, 24] (.n (.cd (.s [0, 7, 11] (.t [0, 7, 11, 12] (.n (.cd (.n .nl) .nl))) (.n .nl)) .nl)))))))))))) .nl)))))) (.n .nl))))),
 (15, (.n (.s [0, 1] (.t [0, 1, 20] (.cd (.n .nl) .nl)) (.q (.n (.cd (.n .nl) .nl)) (.t [0, 6] (.s [0, 6] (.t [0, 6, 7] (.n (.cd (.n .nl) .nl))) (.s [6] (.t [0, 6, 38, 39, 40] (.v [6] (.lp [0, 6, 38, 39, 40] (.n (.q (.cd .nl .nl) (.s [0, 6, 38, 39, 40] (.b (.n (.t [0, 6, 10, 38, 39, 40] (.n (.cd (.n .nl) .nl))))) .nl)))))) (.t [6] (.n .nl))))))))),
 (7, (.n (.t [0, 4, 5] (.s [0, 4] (.t [0, 4, 17] (.cd (.n .nl) .nl)) (.t [4, 6, 7] (.q (.n (.cd (.n .nl) .nl)) (.n .nl))))))),
 (5, (.n (.q (.n (.cd (.n .nl) .nl)) (.s [0, 1, 2, 3] (.t [0, 1, 2, 3, 35] (.cd (.n .nl) .nl)) (.t [0, 1, 2, 3, 9, 10] (.q (.n (.cd (.n .nl) .nl)) (.n (.n (.n (.s [2, 3, 9, 10, 11, 12] (.n (.v [2, 3, 9, 10, 11, 12] (.lp [0, 2, 3, 9, 10, 11, 12, 13] (.q (.n (.cd .nl .nl)) (.s [0, 2, 3, 9, 10, 11, 12, 13] (.v [0, 2, 3, 9, 10, 11, 12, 13] (.s [0, 2, 3, 9, 10, 11, 12, 13] (.t [0, 2, 3, 9, 10, 11, 12, 13, 58] (.cd (.n .nl) .nl)) (.t [0, 2, 3, 9, 10, 11, 12, 13, 14, 15] (.t [0, 2, 3, 9, 10, 11, 12, 13, 14, 15] (.q (.n (.cd .nl .nl)) (.s [0, 2, 3, 9, 10, 11, 12, 13] (.t [0, 2, 3, 9, 10, 11, 12, 13, 89] (.cd (.n .nl) .nl)) (.t [0, 2, 3, 9, 10, 11, 12, 13, 95] (.cd (.q (.n (.cd .nl .nl)) .nl) .nl)))))))) .nl))))) (.s [2, 10, 11, 12] (.t [2, 3, 9, 10, 11, 12, 113] (.cd (.n (.n (.cd .nl .nl))) .nl)) (.n (.n (.t [11, 12, 16, 17] (.s [11, 16] (.t [11, 16, 154] (.cd (.n .nl) .nl)) (.n .nl)))))))))))))))),
 (0, .nl)]
noncomputable def an (g:Nat):An:=BI L9 g
theorem HL:qQ P an:=Z9 (by kernel_rfl)
noncomputable abbrev cK:CF:=CK P (lV P) ext b7 an
noncomputable def tP (J : JT)(G : GT)(cf : CF)(eI : K.Fn 0)(gC : K.Fn 5)(dN dJ dS eA dv : AV)(dA : Hp) : R :=
 B1 (dy dv eA) fun v21 =>
 CD v21 (
 J 5 (fun wz =>
 J 7 (fun ll =>
 B1 (ia 1 dS dv) fun v24 =>
 B1 (ld v24 dA) fun v25 =>
 ll dN dJ dv v25 dS eA dv dA) (fun dO fD eT kY iA iF e7 kE =>
 J 7 (fun GN =>
 B2 (cf (.func (.func 16) [] []) [dO] kE) fun v35 js =>
 B1 (dq kY v35) fun v37 =>
 CD v37 (
 B1 (dC 1 fD (some eT) none none) fun ml =>
 B2 (cf (.func (.func 50) [] []) [dO, ml] js) fun om fK =>
 some (om, fK)) (
 GN dO fD eT kY iA iF e7 js)) (fun iO gH jq eH fG gJ nw jU =>
 B1 (fl [(.int .i64 0), (.int .i64 0)] [(0, 1, eH)]) fun Qc =>
 BN (cP jU [(.int .i64 0), (.int .i64 0)] 66 0) fun i50 rP =>
 B1 (st 2 (.ptr i50 0) (.agg Qc) rP) fun uG =>
 J 10 (fun FZ =>
 B1 (cg iO) fun oa =>
 B1 (fa 0 oa) fun gQ =>
 B1 (ld gQ uG) fun kJ =>
 B1 (cn 2 (.ptr i50 0) uG) fun v57 =>
 B2 (cf (.func (.func 28) [] []) [v57] uG) fun nh vn =>
 B2 (cf (.func (.func 51) [] []) [kJ, nh] vn) fun lM pT =>
 B1 (ex 0 lM) fun Hm =>
 B1 (ex 1 lM) fun v63 =>
 B1 (ld gQ vn) fun v64 =>
 SM kJ v64 <|
 FZ iO gH jq eH (.ptr i50 0) Hm v63 fG gJ nw pT) (fun cz cL cY dc cQ eL eJ np kH lC pV =>
 B1 (dq eJ (.int .i64 0)) fun v76 =>
 CD v76 (
 some (eJ, pV)) (
 J 10 (fun tf =>
 B2 (cf (.func (.func 22) [] []) [cz] pV) fun vt uk =>
 B2 (cf (.func (.func 52) [] []) [eL, dc, vt] uk) fun v80 zo =>
 B1 (ex 0 v80) fun mf =>
 B1 (ex 1 v80) fun nR =>
 tf cz cL cY cQ eL mf nR np kH lC zo) (fun eW iG jR iD lS lk pR oT jH pz vE =>
 B1 (fa 1 iD) fun vz =>
 B1 (st 1 vz pR vE) fun p7 =>
 J 10 (fun RV =>
 B1 (cg eW) fun sT =>
 B1 (fa 2 sT) fun wF =>
 B1 (ld wF p7) fun p8 =>
 B1 (cn 2 iD p7) fun wA =>
 B1 (fl [(.int .i64 0), (.int .i64 0)] [(0, 2, wA)]) fun Gn =>
 BN (cP p7 Gn 66 0) fun i103 Ak =>
 B2 (fQ 66 2 [(.int .i64 0), (.int .i64 0)] false p8 (.slice i103 0 1 1 true 2) Ak) fun v105 zd =>
 B1 (cg eW) fun v107 =>
 B1 (fa 2 v107) fun zB =>
 B1 (st 1 zB v105 zd) fun Hc =>
 RV eW iG jR iD lS lk pR oT jH pz Hc) (fun nN kR sM rZ u0 AR vp yM jn vg yu =>
 J 9 (fun O2 =>
 B1 (cg nN) fun Eb =>
 B1 (fa 3 Eb) fun nY =>
 B1 (ld nY yu) fun v124 =>
 B2 (fQ 37 2 [(.int .u64 0), .ae] false v124 AR yu) fun A1 QA =>
 B1 (cg nN) fun v127 =>
 B1 (fa 3 v127) fun Lu =>
 B1 (st 1 Lu A1 QA) fun S9 =>
 O2 nN kR sM rZ u0 vp yM jn vg S9) (fun pf Ag Qh A4 vU qc sE sX sK vQ =>
 B1 (cy vU) fun SP =>
 B1 (dy qc SP) fun v141 =>
 CD v141 (
 J 3 (fun SF =>
 J 4 (fun Nj =>
 B1 (df Qh (.int .i64 1)) fun yF =>
 B1 (dC 1 Ag (some yF) none none) fun v145 =>
 B2 (cf (.func (.func 50) [] []) [pf, v145] vQ) fun v146 wR =>
 Nj pf A4 qc v146 wR) (fun Pd Pg OG uO yY =>
 B1 (dq uO (.int .i64 0)) fun N8 =>
 CD N8 (
 some (uO, yY)) (
 SF Pd Pg OG yY))) (fun sZ sR tI yK =>
 B1 (cg sZ) fun Ql =>
 B1 (fa 0 Ql) fun v159 =>
 B1 (ld v159 yK) fun v160 =>
 B1 (cn 2 sR yK) fun AB =>
 B2 (cf (.func (.func 28) [] []) [AB] yK) fun v162 GA =>
 B2 (cf (.func (.func 31) [] []) [v160, v162, tI] GA) fun v164 Re =>
 B1 (ld v159 GA) fun za =>
 SM v160 za <|
 some (v164, Re))) (
 wz pf Ag sE sX sK vQ))))))))) (fun yR zC vb RE RA FM =>
 B1 (df RA (.int .i64 1)) fun v173 =>
 gC yR zC vb RE v173 FM)) (
 eI  dA)
noncomputable def uA (J:JT)(G:GT)(cf:CF)(eI:K.Fn 0):K.Fn 5:=jc P an J G cf 36 [1,1,0,1,0,0] [0,1,22,23,24] (fun q t H=>match Nat.beq q 0 with | true=>app 0 eI (b6 [] t) H | false=>(fun _ _ _=>none) q t H)
theorem Pe (J:JT)(G:GT)(cf:CF)(eI:K.Fn 0)(gC:K.Fn 5)(dN dJ dS eA dv:AV)(dA:Hp):qu P an J G cf 36 [1,1,0,1,0,0] [0,1,22,23,24] (fun q t H=>match Nat.beq q 0 with | true=>app 0 eI (b6 [] t) H | false=>(fun _ _ _=>none) q t H) gC [dN,dJ,dS,eA,dv] dA=tP J G cf eI gC dN dJ dS eA dv dA:=by kernel_rfl
theorem Ck (cf:CF)(eI:K.Fn 0)(dN dJ dS eA dv:AV)(dA:Hp):uA JN GO cf eI dN dJ dS eA dv dA=tP JN GO cf eI (uA JN GO cf eI) dN dJ dS eA dv dA:=aaM (b:=app 5 (uA JN GO cf eI) [dN,dJ,dS,eA,dv] dA) (by kernel_rfl) ((jz cf _ _ _ _ [dN,dJ,dS,eA,dv] rfl dA).trans (Pe JN GO cf eI _ dN dJ dS eA dv dA))
noncomputable def zV (J : JT)(G : GT)(cf : CF)(a0 a1 : AV)(H : Hp) : R :=
 J 2 (fun j0 =>
 B1 (cy a1) fun v1 =>
 B1 (eR v1 (.int .i64 0)) fun v2 =>
 CD v2 (
 B1 (ia 1 a1 (.int .i64 0)) fun v3 =>
 B1 (ld v3 H) fun v4 =>
 B1 (cg a0) fun v5 =>
 B1 (fa 4 v5) fun v6 =>
 B1 (st 1 v6 v4 H) fun h7 =>
 j0 a0 a1 h7) (
 j0 a0 a1 H)) (fun x8 x9 fW =>
 J 0 (fun lG =>
 B1 (cy x9) fun v12 =>
 J 0 (fun eI =>
 uA J G cf eI x8 x9 x9 v12 (.int .i64 0) fW) (fun  Qi =>
 lG  Qi)) (fun  Fa =>
 some ((.int .i64 0), Fa)))
theorem QG (J:JT)(G:GT)(cf:CF)(a0 a1:AV)(H:Hp):ka P J G b7 an cf 36 [a0,a1] H=zV J G cf a0 a1 H:=by kernel_rfl
theorem PE {a0 a1:AV}{H:Hp}{r:AV × Hp}(h:zV JN GO cK a0 a1 H=some r):cK (.func (.func 36) [] []) [a0,a1] H=some r:=dp (first:=[]) (cap:=[]) ((QG JN GO _ a0 a1 H).trans h)
noncomputable def xz (J : JT)(G : GT)(cf : CF)(dY : K.Fn 1)(wa : K.Fn 5)(cz cL cY dc cQ : AV)(fO : Hp) : R :=
 B1 (dy cQ dc) fun qw =>
 CD qw (
 J 5 (fun MK =>
 B1 (ia 2 cY cQ) fun rN =>
 B1 (cn 2 rN fO) fun th =>
 BN (cP fO [(.int .i64 0), (.int .i64 0)] 66 0) fun i75 tj =>
 B1 (st 2 (.ptr i75 0) th tj) fun yn =>
 J 6 (fun zL =>
 B1 (cn 2 (.ptr i75 0) yn) fun po =>
 B2 (cf (.func (.func 28) [] []) [po] yn) fun v80 zo =>
 B2 (cf (.func (.func 34) [] []) [cz, v80] zo) fun mf Pm =>
 zL cz cL mf cY dc cQ Pm) (fun eW iG jR iD lS lk sr =>
 B1 (dq jR (.int .i64 0)) fun v91 =>
 CD v91 (
 some (.tuple [.cD, jR], sr)) (
 MK eW iG iD lS lk sr))) (fun jH pz oB nC oR Ds =>
 B1 (df oR (.int .i64 1)) fun sT =>
 wa jH pz oB nC sT Ds)) (
 dY cL fO)
noncomputable def tR (J:JT)(G:GT)(cf:CF)(dY:K.Fn 1):K.Fn 5:=jc P an J G cf 15 [1,1,1,1,1,0,1,0,0] [0,6,38,39,40] (fun q t H=>match Nat.beq q 0 with | true=>app 1 dY (b6 [6] t) H | false=>(fun _ _ _=>none) q t H)
theorem Qb (J:JT)(G:GT)(cf:CF)(dY:K.Fn 1)(wa:K.Fn 5)(cz cL cY dc cQ:AV)(fO:Hp):qu P an J G cf 15 [1,1,1,1,1,0,1,0,0] [0,6,38,39,40] (fun q t H=>match Nat.beq q 0 with | true=>app 1 dY (b6 [6] t) H | false=>(fun _ _ _=>none) q t H) wa [cz,cL,cY,dc,cQ] fO=xz J G cf dY wa cz cL cY dc cQ fO:=by kernel_rfl
theorem KG (cf:CF)(dY:K.Fn 1)(cz cL cY dc cQ:AV)(fO:Hp):tR JN GO cf dY cz cL cY dc cQ fO=xz JN GO cf dY (tR JN GO cf dY) cz cL cY dc cQ fO:=aaM (b:=app 5 (tR JN GO cf dY) [cz,cL,cY,dc,cQ] fO) (by kernel_rfl) ((jz cf _ _ _ _ [cz,cL,cY,dc,cQ] rfl fO).trans (Qb JN GO cf dY _ cz cL cY dc cQ fO))
noncomputable def Cf (J : JT)(G : GT)(cf : CF)(a0 a1 : AV)(H : Hp) : R :=
 J 2 (fun j0 =>
 J 3 (fun j1 =>
 B1 (mW .eql (pe a0 .cD H)) fun v2 =>
 G v2 false (fun k3 =>
 k3 a1 H) (fun v4 h5 =>
 G v2 false (fun k6 =>
 B1 (dy v4 (.int .i64 64)) fun v7 =>
 k6 v7 h5) (fun v8 h9 =>
 B1 (pk v2 (.bool true) v8) fun v10 =>
 G v10 false (fun GR =>
 GR a1 h9) (fun v12 kQ =>
 G v10 false (fun oc =>
 B1 (eR v12 (.int .i64 1048576)) fun dW =>
 oc dW kQ) (fun fP gI =>
 B1 (pk v10 (.bool true) fP) fun ew =>
 j1 a0 a1 ew gI) kQ) h9) h5) H) (fun dv gW gX mg =>
 CD gX (
 some (.tuple [.cD, (.int .i64 1)], mg)) (
 j0 dv gW mg))) (fun dZ dX fU =>
 B2 (cf (.func (.func 19) [] []) [dZ] fU) fun v26 iZ =>
 CD v26 (
 some (.tuple [.cD, (.int .i64 11)], iZ)) (
 J 2 (fun oC =>
 B1 (fl [.cD, (.int .i64 0), .ae, .ae, (.int .i64 0), (.int .i64 0)] [(0, 1, dZ), (1, 1, dX)]) fun Tl =>
 BN (bx 57 (.agg Tl) iZ) fun i30 lK =>
 oC dZ (.ptr i30 0) lK) (fun e7 hJ lu =>
 J 2 (fun RG =>
 J 3 (fun OT =>
 B2 (cf (.func (.func 35) [] []) [e7] lu) fun v37 DF =>
 B2 (cf (.func (.func 37) [] []) [v37] DF) fun om fK =>
 B2 (cf (.func (.func 36) [] []) [hJ, om] fK) fun v41 Bo =>
 OT e7 hJ v41 Bo) (fun jq eH fG uD =>
 B1 (dq fG (.int .i64 0)) fun ko =>
 CD ko (
 some (.tuple [.cD, fG], uD)) (
 RG jq eH uD))) (fun rY mS uB =>
 J 1 (fun QM =>
 J 5 (fun zn =>
 B1 (cg mS) fun v53 =>
 B1 (fa 2 v53) fun oa =>
 B1 (ld oa uB) fun gQ =>
 B1 (cy gQ) fun kJ =>
 zn rY mS gQ kJ (.int .i64 0) uB) (fun qq yy Av wx qz sf =>
 J 1 (fun dY =>
 tR J G cf dY qq yy Av wx qz sf) (fun tn SZ =>
 QM tn SZ))) (fun lE oN =>
 J 1 (fun vq =>
 B2 (cf (.func (.func 16) [] []) [lE] oN) fun n0 Bh =>
 B1 (cg lE) fun sA =>
 B1 (fa 5 sA) fun v107 =>
 B1 (st 1 v107 n0 Bh) fun vd =>
 vq lE vd) (fun sd NU =>
 some (.tuple [sd, (.int .i64 0)], NU)))))))
theorem OZ (J:JT)(G:GT)(cf:CF)(a0 a1:AV)(H:Hp):ka P J G b7 an cf 15 [a0,a1] H=Cf J G cf a0 a1 H:=by kernel_rfl
theorem U1 {a0 a1:AV}{H:Hp}{r:AV × Hp}(h:Cf JN GO cK a0 a1 H=some r):cK (.func (.func 15) [] []) [a0,a1] H=some r:=dp (first:=[]) (cap:=[]) ((OZ JN GO _ a0 a1 H).trans h)
noncomputable def Ij (J : JT)(G : GT)(cf : CF)(a0 : AV)(H : Hp) : R :=
 J 3 (fun j0 =>
 B2 (cf (.func (.func 23) [] []) [(.int .i64 65536)] H) fun v1 h2 =>
 B1 (ex 0 v1) fun v3 =>
 B1 (ex 1 v1) fun v4 =>
 j0 a0 v3 v4 h2) (fun x5 x6 x7 h8 =>
 J 2 (fun j9 =>
 J 3 (fun pP =>
 B1 (dq x7 (.int .i64 0)) fun v11 =>
 G v11 false (fun D6 =>
 D6 x6 h8) (fun dk eV =>
 G v11 false (fun R2 =>
 B1 (mW .eql (pe dk .cD eV)) fun fP =>
 R2 fP eV) (fun gh iU =>
 B1 (pk v11 (.bool true) gh) fun gY =>
 pP x5 x6 gY iU) eV) h8) (fun gW gX fg kG =>
 CD fg (
 some (.tuple [.cD, .cD], kG)) (
 j9 gW gX kG))) (fun dX eC oM =>
 J 3 (fun AT =>
 B2 (cf (.func (.func 15) [] []) [eC, dX] oM) fun v28 gi =>
 B1 (ex 0 v28) fun v30 =>
 B1 (ex 1 v28) fun v31 =>
 AT eC v30 v31 gi) (fun e7 hJ qU qh =>
 B1 (dq qU (.int .i64 0)) fun v36 =>
 CD v36 (
 some (.tuple [.cD, .cD], qh)) (
 some (.tuple [hJ, e7], qh)))))
theorem VJ {a0:AV}{H:Hp}{r:AV × Hp}(h:Ij JN GO cK a0 H=some r):cK (.func (.func 7) [] []) [a0] H=some r:=dp (first:=[]) (cap:=[]) (aaM (by kernel_rfl) h)
noncomputable def qd (J : JT)(G : GT)(cf : CF)(fF : K.Fn 6)(dY : K.Fn 8)(dB cz cL cY dc cQ eL eJ : AV)(gD : Hp) : R :=
 B1 (cy dB) fun rN =>
 B1 (dy eJ rN) fun th =>
 CD th (
 J 8 (fun R4 =>
 J 8 (fun zZ =>
 J 8 (fun tf =>
 J 9 (fun zL =>
 B1 (ia 4 dB eJ) fun po =>
 B1 (fa 2 po) fun v80 =>
 B1 (ld v80 gD) fun rG =>
 B1 (cy rG) fun mf =>
 B1 (eR mf (.int .i64 200)) fun nR =>
 zL dB cz cL cY dc cQ eL eJ nR gD) (fun eW iG jR iD lS lk pR oT jH zt =>
 CD jH (
 some ((.bool true), zt)) (
 tf eW iG jR iD lS lk pR oT zt))) (fun oB nC oR nJ zg tn yG lE oN =>
 J 10 (fun vq =>
 B1 (ia 4 oB lE) fun n0 =>
 B1 (fa 2 n0) fun v105 =>
 B1 (ld v105 oN) fun sA =>
 B2 (cf (.func (.func 8) [] []) [nJ, (.int .i64 1), sA] oN) fun v107 vd =>
 B1 (ex 0 v107) fun v109 =>
 B1 (ex 1 v107) fun HP =>
 vq oB nC oR nJ zg tn yG lE v109 HP vd) (fun kR sM rZ u0 AR vp yM jn vg Gf E4 =>
 J 10 (fun N6 =>
 B1 (cv .u64 jn) fun nY =>
 B1 (df (.int .u64 17592186044416) nY) fun v124 =>
 B1 (ia 4 kR jn) fun A1 =>
 B1 (fa 2 A1) fun LA =>
 B1 (ld LA E4) fun v127 =>
 B1 (fl [(.int .u64 0), .ae] [(0, 1, v124), (1, 1, v127)]) fun QI =>
 B1 (fl [(.int .u64 0), .ae] [(0, 2, (.agg QI))]) fun Om =>
 BN (cP E4 Om 37 0) fun i130 Cn =>
 B2 (fQ 37 2 [(.int .u64 0), .ae] false vp (.slice i130 0 1 1 true 2) Cn) fun E1 EM =>
 N6 kR sM rZ u0 AR E1 yM jn vg Gf EM) (fun vU qc sE sX sK Bc En Fy QL Pw zb =>
 B1 (dq Pw (.int .i64 0)) fun v145 =>
 CD v145 (
 fF qc sE sX sK Bc En zb) (
 J 8 (fun Tk =>
 J 9 (fun Mo =>
 B1 (ia 2 Bc Fy) fun v148 =>
 B1 (fa 0 v148) fun RO =>
 B1 (ld RO zb) fun Ah =>
 B1 (dq QL Ah) fun Eg =>
 Mo vU qc sE sX sK Bc En Fy Eg zb) (fun BE A7 sZ sR tI xY Oj OS NV Hi =>
 CD NV (
 some ((.bool false), Hi)) (
 Tk BE A7 sZ sR tI xY Oj OS Hi))) (fun FD NH RX OJ ON yR zC vb yg =>
 J 9 (fun RM =>
 B1 (ia 4 FD vb) fun Hb =>
 B1 (fa 0 Hb) fun v173 =>
 B1 (ld v173 yg) fun EB =>
 B1 (pC EB (.int .i64 1)) fun v175 =>
 RM FD NH RX OJ ON yR zC vb v175 yg) (fun uI sG qE pw uR vW xM zH GG HC =>
 CD GG (
 B2 (cf (.func (.func 12) [] []) [pw] HC) fun DG wb =>
 B1 (dq DG (.int .i64 0)) fun SU =>
 CD SU (
 fF sG qE pw uR vW xM wb) (
 B1 (cy vW) fun Gm =>
 zZ uI sG qE pw uR vW Gm zH wb)) (
 zZ uI sG qE pw uR vW xM zH HC)))))))) (fun D3 CH FQ N5 R0 P9 TM M5 M7 =>
 R4 D3 CH FQ N5 R0 P9 TM M5 M7)) (fun PL Dq EP DD O4 Tz yi BB LG =>
 B1 (df BB (.int .i64 1)) fun v208 =>
 dY PL Dq EP DD O4 Tz yi v208 LG)) (
 fF cz cL cY dc cQ eL gD)
noncomputable def tD (J:JT)(G:GT)(cf:CF)(fF:K.Fn 6):K.Fn 8:=jc P an J G cf 5 [1,1,1,1,1,1,1,1,0,1,0,0] [0,2,3,9,10,11,12,13] (fun q t H=>match Nat.beq q 0 with | true=>app 6 fF (b6 [2,3,9,10,11,12] t) H | false=>(fun _ _ _=>none) q t H)
theorem QH (J:JT)(G:GT)(cf:CF)(fF:K.Fn 6)(dY:K.Fn 8)(dB cz cL cY dc cQ eL eJ:AV)(gD:Hp):qu P an J G cf 5 [1,1,1,1,1,1,1,1,0,1,0,0] [0,2,3,9,10,11,12,13] (fun q t H=>match Nat.beq q 0 with | true=>app 6 fF (b6 [2,3,9,10,11,12] t) H | false=>(fun _ _ _=>none) q t H) dY [dB,cz,cL,cY,dc,cQ,eL,eJ] gD=qd J G cf fF dY dB cz cL cY dc cQ eL eJ gD:=by kernel_rfl
theorem wj (cf:CF)(fF:K.Fn 6)(dB cz cL cY dc cQ eL eJ:AV)(gD:Hp):tD JN GO cf fF dB cz cL cY dc cQ eL eJ gD=qd JN GO cf fF (tD JN GO cf fF) dB cz cL cY dc cQ eL eJ gD:=aaM (b:=app 8 (tD JN GO cf fF) [dB,cz,cL,cY,dc,cQ,eL,eJ] gD) (by kernel_rfl) ((jz cf _ _ _ _ [dB,cz,cL,cY,dc,cQ,eL,eJ] rfl gD).trans (QH JN GO cf fF _ dB cz cL cY dc cQ eL eJ gD))
noncomputable def oO (J : JT)(G : GT)(cf : CF)(a0 a1 a2 a3 : AV)(H : Hp) : R :=
 B2 (cf (.func (.func 6) [] []) [] H) fun v0 h1 =>
 B1 (mw .not v0) fun v2 =>
 CD v2 (
 some ((.bool false), h1)) (
 J 4 (fun j3 =>
 J 5 (fun j4 =>
 B1 (cy a0) fun v5 =>
 B1 (eR v5 (.int .i64 15)) fun v6 =>
 G v6 false (fun k7 =>
 k7 a2 h1) (fun v8 h9 =>
 G v6 false (fun Tj =>
 B1 (cy v8) fun v11 =>
 Tj v11 h9) (fun v12 kQ =>
 G v6 false (fun oc =>
 B1 (eR v12 (.int .i64 70)) fun dW =>
 oc dW kQ) (fun fP gI =>
 B1 (pk v6 (.bool true) fP) fun ew =>
 G ew false (fun Bn =>
 Bn a1 gI) (fun v20 rD =>
 G ew false (fun FV =>
 B1 (dy v20 (.int .i64 1)) fun v23 =>
 FV v23 rD) (fun v24 fU =>
 B1 (pk ew (.bool true) v24) fun v26 =>
 G v26 false (fun Bp =>
 Bp a1 fU) (fun v28 gi =>
 G v26 false (fun Mv =>
 B1 (eR v28 (.int .i64 100)) fun v31 =>
 Mv v31 gi) (fun v32 kE =>
 B1 (pk v26 (.bool true) v32) fun kb =>
 j4 a0 a1 a2 a3 kb kE) gi) fU) rD) gI) kQ) h9) h1) (fun vi vu mu mh jT fK =>
 CD jT (
 some ((.bool true), fK)) (
 j3 vi vu mu mh fK))) (fun iO gH jq eH jY =>
 J 6 (fun AW =>
 B2 (cf (.func (.func 7) [] []) [(.int .i64 100)] jY) fun ko jU =>
 B1 (ex 0 ko) fun v49 =>
 B1 (ex 1 ko) fun mT =>
 AW iO gH jq eH v49 mT jU) (fun qa jW kc qT pS rH pJ =>
 B1 (mW .eql (pe pS .cD pJ)) fun nh =>
 CD nh (
 some ((.bool false), pJ)) (
 B2 (cf (.func (.func 18) [] []) [rH, jW, kc] pJ) fun v59 xK =>
 J 6 (fun xw =>
 J 6 (fun fF =>
 tD J G cf fF qa kc qT pS rH .ae (.int .i64 0) (.int .i64 0) xK) (fun Q0 Nz RT Ob LL LY Tb =>
 xw Q0 Nz RT Ob LL LY Tb)) (fun SW oJ yN yP Mq OY Tc =>
 J 4 (fun zj =>
 J 7 (fun OO =>
 B2 (cf (.func (.func 19) [] []) [yP] Tc) fun N0 Ee =>
 B1 (mw .not N0) fun v227 =>
 G v227 true (fun Ra =>
 Ra oJ Ee) (fun v229 yT =>
 G v227 true (fun Pj =>
 B1 (se v229 (.int .i64 0)) fun v232 =>
 Pj v232 yT) (fun v233 Fw =>
 B1 (pk v227 v233 (.bool false)) fun rX =>
 G rX true (fun Rf =>
 Rf oJ Fw) (fun Pk Bq =>
 G rX true (fun QK =>
 QK yN Bq) (fun Q9 Ej =>
 G rX true (fun RC =>
 B2 (cf (.func (.func 16) [] []) [Q9] Ej) fun MW Tt =>
 RC MW Tt) (fun Sx G1 =>
 G rX true (fun Sb =>
 B1 (xV Pk Sx) fun Qw =>
 Sb Qw G1) (fun Qe Ox =>
 B1 (pk rX Qe (.bool false)) fun QE =>
 OO SW oJ yN yP Mq OY QE Ox) G1) Ej) Bq) Fw) yT) Ee) (fun Aa AU NC zY A6 yI MG G7 =>
 CD MG (
 B2 (cf (.func (.func 11) [] []) [NC, AU] G7) fun am8 Hy =>
 B1 (eR yI AU) fun Oa =>
 CD Oa (
 zj Aa zY A6 AU Hy) (
 zj Aa zY A6 yI Hy)) (
 zj Aa zY A6 yI G7))) (fun Oq zr Oz Nf Q6 =>
 B2 (cf (.func (.func 13) [] []) [zr, Oq] Q6) fun ak1 Rt =>
 B2 (cf (.func (.func 14) [] []) [zr] Rt) fun alp OI =>
 J 4 (fun LJ =>
 B2 (cf (.func (.func 15) [] []) [zr, (.int .i64 100)] OI) fun DQ P1 =>
 B1 (ex 0 DQ) fun Ml =>
 B1 (ex 1 DQ) fun QU =>
 LJ Oz Nf Ml QU P1) (fun ED NT s6 SL DX =>
 J 2 (fun OF =>
 J 3 (fun Qj =>
 B1 (dq SL (.int .i64 0)) fun zR =>
 G zR false (fun PC =>
 PC s6 DX) (fun Sn Ax =>
 G zR false (fun NP =>
 B1 (mW .eql (pe Sn .cD Ax)) fun SX =>
 NP SX Ax) (fun PG Fp =>
 B1 (pk zR (.bool true) PG) fun wy =>
 G wy false (fun Qf =>
 Qf s6 Fp) (fun Nt DJ =>
 G wy false (fun Py =>
 B2 (cf (.func (.func 20) [] []) [Nt] DJ) fun MM Sy =>
 Py MM Sy) (fun PT EG =>
 G wy false (fun MZ =>
 B1 (dq PT (.int .i64 0)) fun M6 =>
 MZ M6 EG) (fun Pv Ed =>
 B1 (pk wy (.bool true) Pv) fun so =>
 G so false (fun O1 =>
 O1 s6 Ed) (fun R8 Ga =>
 G so false (fun NN =>
 B2 (cf (.func (.func 16) [] []) [R8] Ga) fun TX OM =>
 NN TX OM) (fun R5 EV =>
 G so false (fun Q3 =>
 Q3 NT EV) (fun P7 HJ =>
 G so false (fun Ny =>
 B1 (dy R5 P7) fun Sk =>
 Ny Sk HJ) (fun R9 HR =>
 B1 (pk so (.bool true) R9) fun qm =>
 G qm false (fun M0 =>
 M0 s6 HR) (fun Np EE =>
 G qm false (fun M9 =>
 B2 (cf (.func (.func 16) [] []) [Np] EE) fun Oi ML =>
 M9 Oi ML) (fun SA Ek =>
 G qm false (fun Rc =>
 Rc ED Ek) (fun QQ EZ =>
 G qm false (fun k333 =>
 B1 (cy QQ) fun O7 =>
 k333 O7 EZ) (fun O9 Gx =>
 G qm false (fun MO =>
 B1 (eR SA O9) fun S3 =>
 MO S3 Gx) (fun QC TK =>
 B1 (pk qm (.bool true) QC) fun Qt =>
 Qj ED s6 Qt TK) Gx) EZ) Ek) EE) HR) HJ) EV) Ga) Ed) EG) DJ) Fp) Ax) DX) (fun Sl Ma Oo DH =>
 CD Oo (
 some ((.bool false), DH)) (
 OF Sl Ma DH))) (fun Mh DB OU =>
 B2 (cf (.func (.func 16) [] []) [DB] OU) fun Me NK =>
 B1 (dC 2 Mh none (some Me) none) fun Pp =>
 B2 (cf (.func (.func 21) [] []) [DB, (.int .i64 0), Pp] NK) fun TF Ph =>
 some (TF, Ph)))))))))
theorem Qr (J:JT)(G:GT)(cf:CF)(a0 a1 a2 a3:AV)(H:Hp):ka P J G b7 an cf 5 [a0,a1,a2,a3] H=oO J G cf a0 a1 a2 a3 H:=by kernel_rfl
theorem uL {a0 a1 a2 a3:AV}{H:Hp}{r:AV × Hp}(h:oO JN GO cK a0 a1 a2 a3 H=some r):cK (.func (.func 5) [] []) [a0,a1,a2,a3] H=some r:=dp (first:=[]) (cap:=[]) ((Qr JN GO _ a0 a1 a2 a3 H).trans h)
end
end Go.Proofs.YtbdlbhlhnpblpaaGreatDoor.kf
namespace Go.Proofs.YtbdlbhlhnpblpaaGreatDoor.du
open Go Am Am.K eU Sg gM iR fX cS s8
section
section
variable {H:Hp}{p:Nat}{m:SM}{L:Lay}
theorem aga (h:St H p m L)(ho:m.off=false)(hf:m.cq=0)(at':List Nat):∃ H' L',cK (.func (.func 32) [] []) [.ptr p 0,.str at'] H=some (.int .i64 (eK m at').1,H')/\St H' p (eK m at').2 L'/\Out [p,L.dU] H H'/\L'.dU=L.dU/\∀ j∈cB p L',j∈cB p L:=by
 have h0:=uW h at'
 by_cases he:cw m at'=0
 ·obtain⟨q1,q2,a,x,b,r1,r2,r3,r4,r5,r6,hx,zS⟩:=h.BF he
  obtain⟨H1,L1,b1,b2,b3,b4⟩:=Fo h
  have hB:eY m=true:=by unfold eY;rw[hf];rfl
  obtain⟨e1,e2,e3,e4,e5,e6⟩:=b4 hB
  rw[e1] at b2 b3
  have D4:=b2.Ae
  obtain⟨H2,d1,d2,d3,d4,d5,d6,d7⟩:=b2.aba r1 (by rw[r2];exact r3) (by rw[r2];exact r4)
  have hm:=b2.map
  rw[r1,abz,abc] at hm
  obtain⟨H3,u1,u2,u3⟩:=YO hm (k:=x.f.nm) rfl (xW (by rw[r2];exact r3)) (xW (by rw[r2];exact r4))
  rw[u1] at d1
  cases d1
  rw[r2] at d2 u1
  rw[e3] at d2
  have:eK m at'=(0,{ dt m with fs:=ri at' m.fs }):=by unfold eK;rw[if_neg (by simp[he]),if_neg (by simp[hB])]
  rw[this]
  refine⟨H2,_,Gu ?_,d2,(e2.mono (S':=[p,L.dU]) fun j hj=>by rw[yX] at hj;subst hj;exact .head _).trans (u3.mono fun j hj=>by rw[yX] at hj;subst hj;exact .tail _ (.head _)),rfl,fun j hj => ?_⟩
  ·unfold Co
   simp only[h0,he,q1,q2,b1,hB,D4,u1,abP,afd,or_self,if_false,az,bd,aw,av,bG,aH,au,ak,aK,aA,aP,bK,aE,bO,bC,aR,bu,ay,bF,aT,aC,bq,aU,bI,bM,ba,aI,aW,aQ,ar,aV,a7,bS,aF,aO,bt,bJ,aN,aM,aD,bB,br,aY,bQ,bT,bk,bH,af,bp,ag,bP,ah,aB,aG,bw,bA,bR,aL,bN,bD,bo,aj,bh,bg,aq,ai,aS,a8,aZ,bE,aJ,nq,gk,wc,yL,yB,decide_true,decide_false,simprocAttr,aaJ,bne_self_eq_false,ge_iff_le,gt_iff_lt]
  ·unfold cB at hj ⊢
   rw[r1]
   simp only[aap,aac,afS,aeY] at hj ⊢
   grind
 ·have:eK m at'=(cw m at',m):=by unfold eK;rw[if_pos he]
  rw[this]
  refine⟨H,L,Gu ?_,h,Out.refl _ _,rfl,fun _ q=>q⟩
  unfold Co
  simp only[h0,Kv he,az,bd,aw,av,bG,aH,au,ak,aK,aA,aP,bK,aE,bO,bC,aR,bu,ay,bF,aT,aC,bq,aU,bI,bM,ba,aI,aW,aQ,ar,aV,a7,bS,aF,aO,bt,bJ,aN,aM,aD,bB,br,aY,bQ,bT,bk,bH,af,bp,ag,bP,ah,aB,aG,bw,bA,bR,aL,bN,bD,bo,aj,bh,bg,aq,ai,aS,a8,aZ,bE,aJ,nq,gk,wc,yL,yB,decide_true,decide_false,simprocAttr,aaJ,bne_self_eq_false,ge_iff_le,gt_iff_lt]
theorem IM (m:SM)(at':List Nat)(ho:m.off=false)(hf:m.cq=0):(eK m at').2.off=false/\(eK m at').2.cq=0:=by
 have hB:eY m=true:=by unfold eY;rw[hf];rfl
 have hM:dt m=m:=by unfold dt;rw[if_pos hf]
 unfold eK
 split
 ·exact⟨ho,hf⟩
 ·rw[if_neg (by rw[hB];decide),hM]
  exact⟨ho,hf⟩
structure Inv (H:Hp)(p:Nat)(L:Lay)(Hk:Hp)(mk:SM):Prop where
 st:∃ Lk,St Hk p mk Lk/\Lk.dU=L.dU/\∀ j∈cB p Lk,j∈cB p L
 out:Out [p,L.dU] H Hk
 off:mk.off=false
 cq:mk.cq=0
theorem adp {H2:Hp}{S:List Nat}(hS:∀ j∈S,(H.h.get j).isSome=true)(h:Out S H H2):Out S H (uq H H2)/\Out (List.range' H.next (H2.next-H.next)) H2 (uq H H2):=by
 have key:∀ j,j<H.next->(uq H H2).h.get j=H2.h.get j:=by
  intro j hj
  rw[ZY]
  split
  ·rename_i q
   unfold ox at q
   have hn:H.h.get j=none:=by
    cases hg:H.h.get j with
    | none=>rfl
    | some o=>rw[hg] at q;simp[hj] at q
   rw[h.2 j hj (fun hs=>by have:=hS j hs;rw[hn] at this;cases this),hn]
  ·rfl
 refine⟨⟨h.1,fun j hj hs=>(key j hj).trans (h.2 j hj hs)⟩,zf _,fun j hj hs=>key j ?_⟩
 rw[List.mem_range'_1] at hs
 omega
theorem SI (h:St H p m L)(hT:fY H dL)(hn:11<=H.next)(dR:∀ j∈cB p L,11<=j){lp:Nat}{ls:List AV}(hl:C0 H lp (.ptr p 0::ls))(iN:lp∉cB p L){Hk:Hp}{mk:SM}(hI:Inv H p L Hk mk){z:Int}(hz:eP z=true) :
  ∃ H',s8.step H lp 0 z Hk=some ((eK mk (bU z)).1,H')/\Inv H p L H' (eK mk (bU z)).2:=by
 obtain⟨⟨Lk,s1,s2,s3⟩,o1,off,cq⟩:=hI
 have VN:lp∉[p,L.dU]:=fun q=>by
  simp only[aap,agR,or_false] at q
  rcases q with rfl | rfl
  ·exact iN St.mQ
  ·exact iN St.mD
 have l1:cellAt Hk lp 0=some (.ptr p 0):=(hl.out o1 VN).ld rfl
 have hTk:fY Hk dL:=by
  obtain⟨el,hh⟩:=hT
  refine⟨el,fun g l' hg => ?_⟩
  have hb:=RU g l' hg
  rw[o1.2 g (by omega) fun q => ?_]
  ·exact hh g l' hg
  ·simp only[aap,agR,or_false] at q
   rcases q with rfl | rfl
   ·have:=dR g St.mQ;omega
   ·have:=dR _ (St.mD (p:=p) (L:=L));omega
 obtain⟨H1,n1,n2⟩:=vh hTk (abl hn o1.1) 0 hz
 have l2:cellAt H1 lp 0=some (.ptr p 0):=((hl.out o1 VN).out n2 fun q=>by cases q).ld rfl
 obtain⟨H2,L2,d1,d2,d3,d4,d5⟩:=aga (s1.out n2 fun _ _ q=>by cases q) off cq (bU z)
 rw[s2] at d3
 have o2:Out [p,L.dU] H H2:=(o1.trans (n2.mono fun j hj=>by cases hj)).trans d3
 obtain⟨c1,c2⟩:=adp (fun j hj=>by
  simp only[aap,agR,or_false] at hj
  rcases hj with rfl | rfl
  ·obtain⟨el,_,c,hc,_⟩:=h.head;rw[hc];rfl
  ·rw[h.map.2];rfl) o2
 refine⟨uq H H2,?_,⟨L2,d2.out c2 fun j hj q => ?_,d4.trans s2,fun j hj=>s3 j (d5 j hj)⟩,c1,(IM mk _ off cq).1,(IM mk _ off cq).2⟩
 ·unfold s8.step
  simp only[l1,n1,l2,d1,and_self,if_true]
 ·have:=h.lt j (s3 j (d5 j hj))
  rw[List.mem_range'_1] at q
  omega
end
end
open rB
noncomputable def kF:List Int->SM->SM
 | [],m=>m
 | z::r,m=>kF r (eK m (bU z)).2
def AM:List Int->SM->Prop
 | [],_=>True
 | z::r,m=>(eK m (bU z)).1=0/\AM r (eK m (bU z)).2
section
variable {H:Hp}{p:Nat}{m:SM}{L:Lay}
theorem QZ (h:St H p m L)(hT:fY H dL)(hn:11<=H.next)(dR:∀ j∈cB p L,11<=j){lp:Nat}{ls:List AV}(hl:C0 H lp (.ptr p 0::ls))(iN:lp∉cB p L):∀ (l:List Int) (Hk Hf:Hp) (mk:SM),Inv H p L Hk mk->(∀ z∈l,eP z=true)->iX H lp 0 l Hk=some (0,Hf)->Inv H p L Hf (kF l mk)
 | [],Hk,Hf,mk,hI,_,hd=>by cases hd;exact hI
 | z::l,Hk,Hf,mk,hI,hz,hd=>by
  obtain⟨H',s1,s2⟩:=SI h hT hn dR hl iN hI (hz z (.head _))
  rw[iX,s1] at hd
  simp only at hd
  split at hd
  ·exact QZ h hT hn dR hl iN l H' Hf _ s2 (fun y hy=>hz y (.tail _ hy)) hd
  ·rename_i q;rw[acf,abI] at hd;exact absurd hd.1 q
theorem WJ (h:St H p m L)(hT:fY H dL)(hn:11<=H.next)(dR:∀ j∈cB p L,11<=j){lp:Nat}{ls:List AV}(hl:C0 H lp (.ptr p 0::ls))(iN:lp∉cB p L):∀ (l:List Int) (Hk:Hp) (mk:SM),Inv H p L Hk mk->(∀ z∈l,eP z=true)->AM l mk->∃ Hf,iX H lp 0 l Hk=some (0,Hf)
 | [],Hk,mk,hI,_,_=>⟨Hk,rfl⟩
 | z::l,Hk,mk,hI,hz,ho=>by
  obtain⟨H',s1,s2⟩:=SI h hT hn dR hl iN hI (hz z (.head _))
  obtain⟨Hf,k⟩:=WJ h hT hn dR hl iN l H' _ s2 (fun y hy=>hz y (.tail _ hy)) ho.2
  refine⟨Hf,?_⟩
  rw[iX,s1]
  simp only[ho.1,if_true]
  exact k
end
section
variable {H:Hp}{lp p:Nat}{m:LM}{l:LP}
theorem aa5 (h:Lg H lp p m l)(hT:fY H dL)(hn:11<=H.next)(dR:∀ j∈lf lp p l,11<=j)(ho:m.m.off=false)(hf:m.m.cq=0){x:AV}{zs:List Int}(hx:Rw H 1 x (cI zs))(lF:∀ j∈aa x,j∉lf lp p l)(hz:∀ z∈zs,eP z=true)(hlen:zs.length<=1000)(jZ:AM zs.reverse m.m) :
  ∃ H' l',kf.cK (.func (.func 50) [] []) [.ptr lp 0,x] H=some (.int .i64 0,H')/\Lg H' lp p { m with m:=kF zs.reverse m.m } l'/\cG lp p H l H' l':=by
 have hap:=h.apart
 have iN:lp∉cB p l.L:=hap.1.2.2
 have Ir:∀ j∈cB p l.L,11<=j:=fun j hj=>dR j (kV hj)
 have PJ:Inv H p l.L H m.m:=⟨⟨l.L,h.st,rfl,fun _ q=>q⟩,Out.refl _ _,ho,hf⟩
 have fin:∀ Hf,Inv H p l.L Hf (kF zs.reverse m.m)->∃ l',Lg Hf lp p { m with m:=kF zs.reverse m.m } l'/\cG lp p H l Hf l':=by
  intro Hf hI
  obtain⟨⟨Lk,s1,s2,s3⟩,o1,_,_⟩:=hI
  obtain⟨a,b⟩:=h.wi (m':=kF zs.reverse m.m) s1 ⟨o1.mono fun j hj=>by
   simp only[aap,agR,or_false] at hj
   rcases hj with rfl | rfl
   ·exact St.mQ
   ·exact St.mD,fun j hj => .inl (s3 j hj)⟩
  exact⟨_,a,b⟩
 have eF:∀ z∈zs.reverse,eP z=true:=fun z q=>hz z (aho.1 q)
 obtain⟨Hf,hd⟩:=WJ h.st hT hn Ir h.head iN zs.reverse H m.m PJ eF jZ
 obtain⟨l',g1,g2⟩:=fin Hf (QZ h.st hT hn Ir h.head iN zs.reverse H Hf m.m PJ eF hd)
 have key:∀ i off n c ex,x = .slice i off n c ex 1->Ro H i off (cI zs)->n=zs.length->i∈aa x\/zs=[]->kf.cK (.func (.func 50) [] []) [.ptr lp 0,x] H=some (.int .i64 0,Hf):=by
  intro i off n c ex Ar kI ie hi
  subst Ar ie
  refine K.lh (p:=xy) (by kernel_rfl) (YB (zs:=zs) ?_ (by omega) ⟨fun lz Hk DC ZZ => ?_,hd⟩)
  ·have:=kI.cU
   rw[kO] at this
   exact this
  ·have Yf:=QZ h.st hT hn Ir h.head iN lz H Hk m.m PJ (fun z q=>hz z (DC z q)) ZZ
   refine⟨fun j z hj => ?_,fun z AY => ?_⟩
   ·have eG:=hi.resolve_right fun q=>by rw[q] at hj;simp at hj
    have hr:=kI.out Yf.out fun q=>by
     have:=lF i eG
     simp only[aap,agR,or_false] at q
     rcases q with rfl | rfl
     ·exact this (kV St.mQ)
     ·exact this (kV St.mD)
    exact hr.cellAt (k:=j) (by unfold cI;rw[acD,hj];rfl)
   ·obtain⟨H',s1,_⟩:=SI h.st hT hn Ir h.head iN Yf (hz z AY)
    rw[s1];rfl
 refine⟨Hf,l',?_,g1,g2⟩
 generalize My:cI zs=ns at *
 cases hx with
 | nil=>
  have dD:zs=[]:=by cases zs with
   | nil=>rfl
   | cons a b=>simp[cI] at My
  subst dD
  cases hd
  exact K.lh (p:=xy) (by kernel_rfl) rfl
 | emp=>
  have dD:zs=[]:=by cases zs with
   | nil=>rfl
   | cons a b=>simp[cI] at My
  subst dD
  refine K.lh (p:=xy) (by kernel_rfl) (YB (zs:=[]) rfl (by decide) ⟨fun lz Hk DC ZZ=>⟨fun j z q=>by simp at q,fun z q=>by cases q⟩,hd⟩)
 | mk kI pE hc he=>
  rename_i i off n cap ex
  refine key i off n cap ex rfl kI (by rw[<-My,kO] at pE;omega) (.inl (by rw[pH he];exact .head _))
end
end Go.Proofs.YtbdlbhlhnpblpaaGreatDoor.du
namespace Go.Proofs.YtbdlbhlhnpblpaaGreatDoor.kf
open Go Am Am.K eU Sg gM rB iR fX cS du
section
theorem low {g:Nat}{args:List AV}{H:Hp}{r:AV × Hp}(hg:dK.b7 g=some (dK.lo g))(h:du.cK (.func (.func g) [] []) args H=some r):cK (.func (.func g) [] []) args H=some r:=K.lh hg h
theorem CN:dK.b7 16=some (dK.lo 16):=by kernel_rfl
noncomputable def jL : List Int -> LM -> Int × LM
  | [], m => (0, m)
  | z :: r, m => if z ≠ cJ m then (0, { m with m := kF (z :: r).reverse m.m }) else
    if cw m.m (bU z) ≠ 0 then (cw m.m (bU z), m) else
    if (eE (gq m.m (bU z)).length (gq m.m (bU z)) z (jK m)).2<(gq m.m (bU z)).length then
      ((gT (kF r.reverse m.m) (bU z) (eE (gq m.m (bU z)).length (gq m.m (bU z)) z (jK m)).2).1,
       { m with m := (gT (kF r.reverse m.m) (bU z) (eE (gq m.m (bU z)).length (gq m.m (bU z)) z (jK m)).2).2,
                parts := m.parts ++ [(z, ((eE (gq m.m (bU z)).length (gq m.m (bU z)) z (jK m)).2 : Int))],
                ab := m.ab ++ (eE (gq m.m (bU z)).length (gq m.m (bU z)) z (jK m)).1 })
    else jL r { m with parts := m.parts ++ [(z, ((eE (gq m.m (bU z)).length (gq m.m (bU z)) z (jK m)).2 : Int))],
                        ab := m.ab ++ (eE (gq m.m (bU z)).length (gq m.m (bU z)) z (jK m)).1 }
theorem Je:dK.b7 28=some (dK.lo 28):=by kernel_rfl
theorem W7:dK.b7 51=some (dK.lo 51):=by kernel_rfl
theorem aiG:dK.b7 22=some (dK.lo 22):=by kernel_rfl
theorem acz:dK.b7 52=some (dK.lo 52):=by kernel_rfl
theorem al8:dK.b7 31=some (dK.lo 31):=by kernel_rfl
theorem ZU:∀ (f:Nat) (l:List Nat) (first ep:Int),(∀ v∈l,v<256)->(eE f l first ep).1.length*16<=(eE f l first ep).2/\(eE f l first ep).2<=l.length/\∀ r∈(eE f l first ep).1,r.1<18446744073709551616
 | 0,l,first,ep,hb=>⟨by simp[eE],by simp[eE],by simp[eE]⟩
 | f+1,l,first,ep,hb=>by
  rw[eE]
  split
  ·simp
  ·split
   ·rename_i nD
    have hE:gE l=0:=by unfold on at nD;simp only[aaK,decide_eq_true_eq] at nD;exact nD.1.1
    obtain⟨g1,g2⟩:=Wc hE
    obtain⟨i1,i2,i3⟩:=ZU f (l.drop (16+gN l)) (IntKind.wrap .i64 (first+1)) ((gA l / 17592186044416:Nat):Int) fun v hv=>hb v (agl hv)
    rw[adi] at i2
    refine⟨?_,?_,fun r hr => ?_⟩
    ·simp only[abg];omega
    ·simp only;omega
    ·rcases aap.1 hr with rfl | hr
     ·exact XR hb
     ·exact i3 r hr
   ·simp
theorem Wk:∀ (a b:List (Nat × List Nat)) (x y:List AV),x.length=a.length->jh (a++b) (x++y)=jh a x++jh b y
 | [],b,[],y,h=>rfl
 | r::a,b,z::x,y,h=>by
  have:=Wk a b x y (by simpa using h)
  show _::_::jh (a++b) (x++y)=_
  rw[this];rfl
theorem af6 {H:Hp}{s x:AV}{rs Rp:List (Nat × List Nat)}{ys EJ:List AV}(h:Rs H s rs ys)(k:Rs H x Rp EJ)(hd:∀ y∈EJ,∀ i∈aa y,i∉aa s)(hl:rs.length+Rp.length<=100000) :
  ∃ s' H',fQ 37 2 [.int .u64 0,.ae] false s x H=some (s',H')/\Rs H' s' (rs++Rp) (ys++EJ)/\Out (aa s) H H'/\(∀ j∈aa s',j∈aa s\/H.next<=j):=by
 obtain⟨s',H',a1,a2,a3,a4⟩:=tJ (z:=[.int .u64 0,.ae]) h.own k.own.rw k.own.one (by omega) (by rw[wg _ _ h.len,wg _ _ k.len];omega)
 refine⟨s',H',a1,⟨by rw[Wk _ _ _ _ h.len];exact a2,by simp[h.len,k.len],?_,?_⟩,a3,a4⟩
 ·intro j z r q1 q2
  by_cases hj:j<ys.length
  ·rw[abi hj] at q1
   rw[abi (by rw[<-h.len];exact hj)] at q2
   exact (h.row j z r q1 q2).out a3 (h.sep z (abY q1))
  ·rw[abM (by omega)] at q1
   rw[abM (by rw[<-h.len];omega),<-h.len] at q2
   exact (k.row _ z r q1 q2).out a3 (hd z (abY q1))
 ·intro z hz i hi q
  rcases aac.1 hz with hz | hz
  ·rcases a4 i q with q | q
   ·exact h.sep z hz i hi q
   ·have:=h.tk z hz i hi;omega
  ·rcases a4 i q with q | q
   ·exact hd z hz i hi q
   ·have:=k.tk z hz i hi;omega
theorem Zx {H:Hp}{x:AV}{a r:List Int}(h:Rw H 1 x (cI (a++r))):∃ x',dC 1 x (some (.int .i64 (a.length:Nat))) none none=some x'/\Rw H 1 x' (cI r)/\∀ j∈aa x',j∈aa x:=by
 obtain⟨x',h1,h2,h3⟩:=MD h (n:=(a++r).length) (by rw[kO,adO]) (by decide) (a:=a.length) (b:=(a++r).length) (by simp) (zf _) (Bd.yes _ _ _) (Bd.no _)
 refine⟨x',h1,?_,h3⟩
 have:((cI (a++r)).drop (a.length*1)).take (((a++r).length-a.length)*1)=cI r:=by
  unfold cI
  rw[adO,adO,abz,List.drop_append_of_le_length (by simp),List.drop_of_length_le (by simp),adt,acI (by simp)]
 rw[<-this]
 exact h2
section
variable {lp p:Nat}
theorem OA {zs:List Int}{y:AV}{M:SM}(wD:∀ z∈zs,eP z=true)(hlen:zs.length<=15)(gK:∀ z∈zs,∀ v∈gq M (bU z),v<256)(kD:∀ z∈zs,(gq M (bU z)).length<=1008)(ho:M.off=false)(xf:M.cq=0)(jZ:∀ a r,zs=a++r->AM r.reverse M) :
  ∀ (r a:List Int) (H:Hp) (m:LM) (l:LP),zs=a++r->Lg H lp p m l->fY H dL->11<=H.next->(∀ j∈lf lp p l,11<=j)->m.m=M->m.parts.length=a.length->(∀ q∈m.parts,0<=q.2/\q.2<=1000000000)->m.ab.length<=63*a.length->(∀ r∈m.ab,r.1<18446744073709551616)->(0<=m.first/\m.first<=17592186040000)->
  Rw H 1 y (cI zs)->(∀ j∈aa y,j∉lf lp p l)->
  ∃ H' l',uA JN GO cK (fun h=>some (.int .i64 0,h)) (.ptr lp 0) y y (.int .i64 (zs.length:Nat)) (.int .i64 (a.length:Nat)) H=some (.int .i64 (jL r m).1,H')/\Lg H' lp p (jL r m).2 l'/\cG lp p H l H' l'
 | [],a,H,m,l,hs,h,hT,hn,dR,hm,hZ,tN,iH,mq,LV,hy,my=>by
  rw[aeD] at hs
  subst hs
  have d:decide (((zs.length:Nat):Int)<((zs.length:Nat):Int))=false:=decide_eq_false (by omega)
  refine⟨H,l,?_,h,cG.refl _ _ _ _⟩
  rw[Ck]
  simp only[tP,d,jL,az,bd,aw,av,bG,aH,au,ak,aK,aA,aP,bK,aE,bO,bC,aR,bu,ay,bF,aT,aC,bq,aU,bI,bM,ba,aI,aW,aQ,ar,aV,a7,bS,aF,aO,bt,bJ,aN,aM,aD,bB,br,aY,bQ,bT,bk,bH,af,bp,ag,bP,ah,aB,aG,bw,bA,bR,aL,bN,bD,bo,aj,bh,bg,aq,ai,aS,a8,aZ,bE,aJ,nq,gk,wc,yL,yB,decide_true,decide_false,simprocAttr,aaJ,bne_self_eq_false,ge_iff_le,gt_iff_lt]
 | z::r,a,H,m,l,hs,h,hT,hn,dR,hm,hZ,tN,iH,mq,LV,hy,my=>by
  subst hm
  have AY:z∈zs:=by rw[hs];simp
  have Wz:a.length<zs.length:=by rw[hs];simp
  have Ya:Small m:=⟨LV,by omega,mq,by omega,tN⟩
  have d:decide (((a.length:Nat):Int)<((zs.length:Nat):Int))=true:=decide_eq_true (by omega)
  have hq:(cI zs)[a.length]? = some (.int .i64 z):=by rw[hs];simp[cI]
  obtain⟨q,u1,u2⟩:=hy.s7 hq .i64
  have e1:=mr h Ya
  have wJ:eP z=true:=wD z AY
  have UK:=gK z AY
  have jr:=kD z AY
  by_cases B0:z=cJ m
  case neg=>
   have hX:jL (z::r) m=(0,{ m with m:=kF (z::r).reverse m.m }):=by rw[jL,if_pos B0]
   rw[hX]
   have KR:=hy
   rw[hs] at KR
   obtain⟨x',t1,t2,t3⟩:=Zx KR
   obtain⟨H',l',k1,k2,k3⟩:=aa5 h hT hn dR ho xf t2 (fun j hj=>my j (t3 j hj)) (fun y hy=>wD y (by rw[hs];exact No _ hy)) (by rw[hs,aaO] at hlen;omega) (jZ a (z::r) hs)
   refine⟨H',l',?_,k2,k3⟩
   have dn:(z != cJ m)=true:=by simpa using B0
   have yq:=low CN e1
   rw[Ck]
   simp only[tP,d,u1,u2,yq,dn,t1,k1,az,bd,aw,av,bG,aH,au,ak,aK,aA,aP,bK,aE,bO,bC,aR,bu,ay,bF,aT,aC,bq,aU,bI,bM,ba,aI,aW,aQ,ar,aV,a7,bS,aF,aO,bt,bJ,aN,aM,aD,bB,br,aY,bQ,bT,bk,bH,af,bp,ag,bP,ah,aB,aG,bw,bA,bR,aL,bN,bD,bo,aj,bh,bg,aq,ai,aS,a8,aZ,bE,aJ,nq,gk,wc,yL,yB,decide_true,decide_false,simprocAttr,aaJ,bne_self_eq_false,ge_iff_le,gt_iff_lt]
  rw[<-B0] at e1
  have f1:fl [(.int .i64 0),(.int .i64 0)] [(0,1,AV.int .i64 z)]=some [.int .i64 z,.int .i64 0]:=rfl
  obtain⟨H2,n1,n2,n3,n4⟩:=iI H [.int .i64 0,.int .i64 0] 66 0 (by simp)
  obtain⟨H3,v1,v2,v3,v4⟩:=qo (n:=2) (v := .agg [.int .i64 z,.int .i64 0]) (cs:=[.int .i64 z,.int .i64 0]) n2 (by omega) rfl rfl rfl (AI (z,0))
  have o3:Out [] H H3:=n3.then v3 fun j hj=>by rw[yX] at hj;exact .inr (by omega)
  have v5:cn 2 (.ptr H.next 0) H3=some (.agg [.int .i64 z,.int .i64 0]):=v2.cn (n:=2) (o:=0) (by simp)
  have h3:=h.gR o3
  have Bk:=h3.head.ld (o:=0) rfl
  obtain⟨H4,q1,q2⟩:=vh (ma hT hn o3) (abl hn o3.1) 0 wJ
  have o4:=o3.trans q2
  have h4:=h.gR o4
  have l7:=h4.head.ld (o:=0) rfl
  have sp:same (.ptr p 0) (.ptr p 0)=true:=by simp[same,nb]
  obtain⟨x,H5,r1,r2,r3,r4⟩:=cS.Fc h4.st (bU z)
  by_cases he:cw m.m (bU z)=0
  case neg=>
   have hX:jL (z::r) m=(cw m.m (bU z),m):=by rw[jL,if_neg (by simp[B0]),if_pos he]
   rw[hX]
   refine⟨H5,l,?_,h.gR (o4.trans r3),cG.mL (o4.trans r3)⟩
   have dn:(cw m.m (bU z) != 0)=true:=by simpa using he
   have yq:=low CN e1
   have zA:=low Je q1
   have AA:=low W7 r1
   rw[Ck]
   simp only[tP,d,u1,u2,yq,bne_self_eq_false,f1,n1,v1,Bk,v5,zA,AA,l7,eX sp,dn,az,bd,aw,av,bG,aH,au,ak,aK,aA,aP,bK,aE,bO,bC,aR,bu,ay,bF,aT,aC,bq,aU,bI,bM,ba,aI,aW,aQ,ar,aV,a7,bS,aF,aO,bt,bJ,aN,aM,aD,bB,br,aY,bQ,bT,bk,bH,af,bp,ag,bP,ah,aB,aG,bw,bA,bR,aL,bN,bD,bo,aj,bh,bg,aq,ai,aS,a8,aZ,bE,aJ,nq,gk,wc,yL,yB,decide_true,decide_false,simprocAttr,aaJ,bne_self_eq_false,ge_iff_le,gt_iff_lt]
  rw[he] at r1
  generalize hB:gq m.m (bU z)=B at *
  have o5:=o4.trans r3
  have h5:=h.gR o5
  have e3:=XO h5 Ya
  obtain⟨sl,ys,H6,c1,c2,c3,c4,c5⟩:=afx r2 UK (by omega) z (jK m)
  obtain⟨k5,k6,k7⟩:=ZU B.length B z (jK m) UK
  generalize hS:eE B.length B z (jK m)=S at *
  have o6:=o5.trans c2
  have h6:=h.gR o6
  have w6:=((v2.out q2 fun q=>by cases q).out r3 fun q=>by cases q).out c2 fun q=>by cases q
  obtain⟨H7,t1,t2,t3,t4⟩:=DM w6 (by omega) (o:=1) (by simp) (v := .int .i64 (S.2:Nat)) rfl
  have YX:Cs H7 H.next [.int .i64 z,.int .i64 (S.2:Nat)] 66 0:=t2
  have o7:Out [] H H7:=o6.then t3 fun j hj=>by rw[yX] at hj;exact .inr (by omega)
  have h7:=h.gR o7
  have EA:=h7.head.ld (o:=2) rfl
  have t5:cn 2 (.ptr H.next 0) H7=some (.agg [.int .i64 z,.int .i64 (S.2:Nat)]):=YX.cn (n:=2) (o:=0) (by simp)
  have f2:fl [(.int .i64 0),(.int .i64 0)] [(0,2,AV.agg [.int .i64 z,.int .i64 (S.2:Nat)])]=some [.int .i64 z,.int .i64 (S.2:Nat)]:=rfl
  obtain⟨H8,K4,H9,i1,i2,i3,i4,i5,i6⟩:=OL.Vu (lx:=66) (z:=[.int .i64 0,.int .i64 0]) (vs:=pc (z,(S.2:Int))) h7.parts (AI _) rfl (by decide) (by decide) (by rw[acs,hZ];omega)
  have L8:OL H9 66 2 K4 ((m.parts++[(z,(S.2:Int))]).map pc):=by rw[abz];exact i3
  obtain⟨CZ,k1,fW,g10⟩:=h7.PI L8 i5 i6
  have ya:=(h7.gR i4).head.ld (o:=2) rfl
  have sx:same l.xp l.xp=true:=Bu h.parts.1.rw
  have W5:=fW.head.ld (o:=3) rfl
  have bW:=h.lt
  have g70:cG lp p H l CZ { l with xp:=K4 }:=(cG.mL o7).trans g10
  have fS:=c3.tk
  have mN:=c3.own.rw.lt
  have fresh:∀ j,H5.next<=j->j∉lf lp p l:=fun j hj q=>by have:=bW j q;have:=o5.1;omega
  have hb5:H.next<H5.next:=by have:=n4;have:=v4;have:=q2.1;have:=r3.1;omega
  have c37:Rs H7 sl S.1 ys:=c3.pF t3 (fun j hj q=>by rw[yX] at q;have:=c4 j hj;omega) fun z hz i hi q=>by rw[yX] at q;have:=c5 z hz i hi;omega
  have alF:Rs CZ sl S.1 ys:=c37.pF g10.1 (fun j hj=>fresh j (c4 j hj)) fun z hz i hi=>fresh i (c5 z hz i hi)
  have MA:H6.next<=H7.next:=t3.1
  have WL:∀ j,H5.next<=j->j<H7.next->j∉lf lp p { l with xp:=K4 }:=fun j h1 h2 q=>(g10.2 j q).elim (fun q=>by have:=bW j q;have:=o5.1;omega) fun q=>by omega
  obtain⟨xr',Iw,b1,b2,b3,b4⟩:=af6 fW.ab alF (fun z hz i hi q=>WL i (c5 z hz i hi) (aci (fS z hz i hi) MA) (vw q)) (by show m.ab.length+S.1.length<=100000;omega)
  obtain⟨HI,k2,ng,g12⟩:=fW.MT b2 b3 b4 (fun z hz i hi=>by
   rcases aac.1 hz with hz | hz
   ·exact⟨fW.row z hz i hi,fW.ab.tk z hz i hi⟩
   ·have h1:=fS z hz i hi
    exact⟨WL i (c5 z hz i hi) (aci h1 MA),aci h1 (abl MA g10.1.1)⟩)
  have tc:cG lp p H l HI _:=g70.trans g12
  obtain⟨Q8,NX,Rr⟩:=AF hT hn dR tc
  have cT:=r2.il
  rw[gu] at cT
  have e4:IntKind.wrap .i64 (((a.length:Nat):Int)+1)=(((a++[z]).length:Nat):Int):=by rw[wrap_i64 (by omega) (by omega)];simp
  have DY:=hy.lt
  have yq:=low CN e1
  have zA:=low Je q1
  have AA:=low W7 r1
  have e3':=low aiG e3
  have Xx:=low acz c1
  have cT:=r2.il
  rw[gu] at cT
  have Wb:Rw HI 1 y (cI zs):=hy.out tc.1 my
  have Wq:∀ j∈aa y,j∉lf lp p { l with xp:=K4,xr:=xr',ys:=l.ys++ys }:=fun j hj q=>(tc.2 j q).elim (my j hj) fun q=>by have:=DY j hj;omega
  unfold pc at i1
  by_cases YS:S.2<B.length
  ·have hX:jL (z::r) m=((gT (kF r.reverse m.m) (bU z) S.2).1,{ m with m:=(gT (kF r.reverse m.m) (bU z) S.2).2,parts:=m.parts++[(z,(S.2:Int))],ab:=m.ab++S.1 }):=by
    rw[jL,if_neg (by simp[B0]),if_neg (by simp[he]),hB,hS,if_pos YS]
   rw[hX]
   have d3:decide (((S.2:Nat):Int)<((B.length:Nat):Int))=true:=decide_eq_true (by omega)
   have Al:=Wb
   rw[show zs=(a++[z])++r by rw[hs];simp] at Al
   obtain⟨x',Kj,ajn,t3'⟩:=Zx Al
   obtain⟨Cm,Bb,w1,w2,w3⟩:=aa5 ng Q8 NX Rr ho xf ajn (fun j hj=>Wq j (t3' j hj)) (fun y hy=>wD y (by rw[hs];exact No _ (.tail _ hy))) (by rw[hs,aaO,abg] at hlen;omega) (jZ (a++[z]) r (by rw[hs];simp))
   obtain⟨acg,adA,anY⟩:=AF Q8 NX Rr w3
   have gB:cG lp p H7 l Cm Bb:=(g10.trans g12).trans w3
   have w13:=YX.out gB.1 fun q=>by have:=bW _ q;omega
   have w5:cn 2 (.ptr H.next 0) Cm=some (.agg [.int .i64 z,.int .i64 (S.2:Nat)]):=w13.cn (n:=2) (o:=0) (by simp)
   have amu:=w2.head.ld (o:=0) rfl
   obtain⟨UJ,x1,x2⟩:=vh acg adA (S.2:Nat) wJ
   have eV:=w2.gR x2
   have ag5:=eV.head.ld (o:=0) rfl
   obtain⟨DS,L',y1,y2,y3⟩:=cS.vS eV.st (bU z) (S.2:Nat)
   obtain⟨lj,g15⟩:=eV.wi y2 y3
   have Jr:=low Je x1
   have y1':=low al8 y1
   refine⟨DS,_,?_,lj,tc.trans (w3.trans ((cG.mL x2).trans g15))⟩
   rw[Ck]
   simp only[tP,d,u1,u2,yq,bne_self_eq_false,f1,n1,v1,Bk,v5,zA,AA,l7,eX sp,e3',Xx,t1,EA,t5,f2,i1,i2,k1,ya,eX sx,W5,b1,k2,cT,d3,e4,Kj,w1,w5,amu,Jr,ag5,y1',az,bd,aw,av,bG,aH,au,ak,aK,aA,aP,bK,aE,bO,bC,aR,bu,ay,bF,aT,aC,bq,aU,bI,bM,ba,aI,aW,aQ,ar,aV,a7,bS,aF,aO,bt,bJ,aN,aM,aD,bB,br,aY,bQ,bT,bk,bH,af,bp,ag,bP,ah,aB,aG,bw,bA,bR,aL,bN,bD,bo,aj,bh,bg,aq,ai,aS,a8,aZ,bE,aJ,nq,gk,wc,yL,yB,decide_true,decide_false,simprocAttr,aaJ,bne_self_eq_false,ge_iff_le,gt_iff_lt]
  ·have hX:jL (z::r) m=jL r { m with parts:=m.parts++[(z,(S.2:Int))],ab:=m.ab++S.1 }:=by
    rw[jL,if_neg (by simp[B0]),if_neg (by simp[he]),hB,hS,if_neg YS]
   rw[hX]
   have d3:decide (((S.2:Nat):Int)<((B.length:Nat):Int))=false:=decide_eq_false (by omega)
   obtain⟨Cm,Bb,z1,z2,z3⟩:=OA wD hlen gK kD ho xf jZ r (a++[z]) HI _ _ (by rw[hs];simp) ng Q8 NX Rr rfl (by simp[hZ]) (fun q hq=>by
    rcases aac.1 hq with hq | hq
    ·exact tN q hq
    ·rw[yX] at hq;subst hq;simp only;omega) (by simp only[aaO,List.length_singleton];omega) (fun r hr=>(aac.1 hr).elim (mq r) (k7 r)) LV Wb Wq
   refine⟨Cm,Bb,?_,z2,tc.trans z3⟩
   rw[Ck]
   simp only[tP,d,u1,u2,yq,bne_self_eq_false,f1,n1,v1,Bk,v5,zA,AA,l7,eX sp,e3',Xx,t1,EA,t5,f2,i1,i2,k1,ya,eX sx,W5,b1,k2,cT,d3,e4,az,bd,aw,av,bG,aH,au,ak,aK,aA,aP,bK,aE,bO,bC,aR,bu,ay,bF,aT,aC,bq,aU,bI,bM,ba,aI,aW,aQ,ar,aV,a7,bS,aF,aO,bt,bJ,aN,aM,aD,bB,br,aY,bQ,bT,bk,bH,af,bp,ag,bP,ah,aB,aG,bw,bA,bR,aL,bN,bD,bo,aj,bh,bg,aq,ai,aS,a8,aZ,bE,aJ,nq,gk,wc,yL,yB,decide_true,decide_false,simprocAttr,aaJ,bne_self_eq_false,ge_iff_le,gt_iff_lt]
   exact z1
end
end
def IE (zs:List Int)(m:LM):LM:=match zs with | []=>m | z::_=>{ m with first:=z }
section
variable {H:Hp}{lp p:Nat}{m:LM}{l:LP}
theorem akf (h:Lg H lp p m l)(v:Int):∃ H2,K.st 1 (.ptr lp 4) (.int .i64 v) H=some H2/\Lg H2 lp p { m with first:=v } l/\cG lp p H l H2 l/\Out [lp] H H2:=by
 obtain⟨⟨a1,a2,a3⟩,b,b3⟩:=h.apart
 obtain⟨H2,s1,s2,s3,s4⟩:=h.head.st (o:=4) (v := .int .i64 v) (by simp) rfl
 have n2:∀ j,j≠lp->j∉[lp]:=fun j hj q=>hj (yX.1 q)
 refine⟨H2,s1,⟨s2,h.st.out s3 (fun j hj=>n2 j fun q=>a3 (q▸hj)),h.parts.out s3 (fun j hj=>n2 j fun q=>a1 (q▸hj)),h.ab.pF s3 (fun j hj=>n2 j fun q=>a2 (q▸hj)) (fun y hy i hi=>n2 i fun q=>h.row y hy i hi (q▸og)),h.nd,h.row⟩,⟨s3.mono fun j hj=>by rw[yX.1 hj];exact og,fun j hj => .inl hj⟩,s3⟩
theorem amV {zs:List Int}{y:AV}(wD:∀ z∈zs,eP z=true)(hlen:zs.length<=15)(gK:∀ z∈zs,∀ v∈gq m.m (bU z),v<256)(kD:∀ z∈zs,(gq m.m (bU z)).length<=1008)(ho:m.m.off=false)(xf:m.m.cq=0)(jZ:∀ a r,zs=a++r->AM r.reverse m.m)
  (h:Lg H lp p m l) (hT:fY H dL) (hn:11<=H.next) (dR:∀ j∈lf lp p l,11<=j) (sI:m.parts=[]) (kq:m.ab=[]) (B6:m.first=0) (dD:∀ z∈zs,0<=z/\z<=17592186040000) (hy:Rw H 1 y (cI zs)) (my:∀ j∈aa y,j∉lf lp p l) :
  ∃ H' l',cK (.func (.func 36) [] []) [.ptr lp 0,y] H=some (.int .i64 (jL zs (IE zs m)).1,H')/\Lg H' lp p (jL zs (IE zs m)).2 l'/\cG lp p H l H' l':=by
 have fS:=hy.il
 rw[kO] at fS
 cases zs with
 | nil=>
  have d:decide ((0:Int)<(([]:List Int).length:Nat))=false:=rfl
  obtain⟨H',l',k1,k2,k3⟩:=OA wD hlen gK kD ho xf jZ [] [] H m l rfl h hT hn dR rfl (by rw[sI];rfl) (by rw[sI];intro q hq;cases hq) (by rw[kq];simp) (by rw[kq];intro q hq;cases hq) (by omega) hy my
  refine⟨H',l',PE ?_,k2,k3⟩
  unfold zV
  simp only[fS,d,az,bd,aw,av,bG,aH,au,ak,aK,aA,aP,bK,aE,bO,bC,aR,bu,ay,bF,aT,aC,bq,aU,bI,bM,ba,aI,aW,aQ,ar,aV,a7,bS,aF,aO,bt,bJ,aN,aM,aD,bB,br,aY,bQ,bT,bk,bH,af,bp,ag,bP,ah,aB,aG,bw,bA,bR,aL,bN,bD,bo,aj,bh,bg,aq,ai,aS,a8,aZ,bE,aJ,nq,gk,wc,yL,yB,decide_true,decide_false,simprocAttr,aaJ,bne_self_eq_false,ge_iff_le,gt_iff_lt]
  exact k1
 | cons z r=>
  have d:decide ((0:Int)<((z::r).length:Nat))=true:=decide_eq_true (by simp)
  obtain⟨q,u1,u2⟩:=hy.s7 (i:=0) (show (cI (z::r))[0]? = some (.int .i64 z) from rfl) .i64
  rw[show (((0:Nat):Int))=0 from rfl] at u1
  obtain⟨H1,s1,s2,s3,s4⟩:=akf h z
  obtain⟨hT1,mz,afP⟩:=AF hT hn dR s3
  obtain⟨H',l',k1,k2,k3⟩:=OA wD hlen gK kD ho xf jZ (z::r) [] H1 { m with first:=z } l rfl s2 hT1 mz afP rfl (by rw[sI];rfl) (by rw[sI];intro q hq;cases hq) (by rw[kq];simp) (by rw[kq];intro q hq;cases hq) (dD z (.head _)) (hy.out s3.1 my) my
  refine⟨H',l',PE ?_,k2,s3.trans k3⟩
  unfold zV
  simp only[fS,d,u1,u2,s1,az,bd,aw,av,bG,aH,au,ak,aK,aA,aP,bK,aE,bO,bC,aR,bu,ay,bF,aT,aC,bq,aU,bI,bM,ba,aI,aW,aQ,ar,aV,a7,bS,aF,aO,bt,bJ,aN,aM,aD,bB,br,aY,bQ,bT,bk,bH,af,bp,ag,bP,ah,aB,aG,bw,bA,bR,aL,bN,bD,bo,aj,bh,bg,aq,ai,aS,a8,aZ,bE,aJ,nq,gk,wc,yL,yB,decide_true,decide_false,simprocAttr,aaJ,bne_self_eq_false,ge_iff_le,gt_iff_lt]
  exact k1
end
theorem agH:dK.b7 34=some (dK.lo 34):=by kernel_rfl
noncomputable def qV:List (Int × Int)->SM->Int × SM
 | [],m=>(0,m)
 | q::r,m=>if (iV m (bU q.1)).1=0 then qV r (iV m (bU q.1)).2 else iV m (bU q.1)
section
variable {lp p:Nat}
theorem YK {ps:List (Int × Int)}(ea:∀ q∈ps,eP q.1=true)(hlen:ps.length<=1000):∀ (r a:List (Int × Int)) (H1:Hp) (m:LM) (l:LP),ps=a++r->fY H1 dL->11<=H1.next->Lg H1 lp p m l->m.parts=ps->(∀ j∈lf lp p l,11<=j)->
  ∃ H' l',(∀ k:K.Fn 1,tR JN GO cK k (.ptr p 0) (.ptr lp 0) l.xp (.int .i64 (ps.length:Nat)) (.int .i64 (a.length:Nat)) H1=if (qV r m.m).1=0 then k (.ptr lp 0) H' else some (.tuple [.cD,.int .i64 (qV r m.m).1],H'))/\
   Lg H' lp p { m with m:=(qV r m.m).2 } l'/\cG lp p H1 l H' l'/\l'.xp=l.xp
 | [],a,H1,m,l,hA,hT,hn,h,gO,dR=>by
  rw[aeD] at hA
  subst hA
  have d:decide (((ps.length:Nat):Int)<((ps.length:Nat):Int))=false:=decide_eq_false (by omega)
  refine⟨H1,l,fun k => ?_,h,cG.refl _ _ _ _,rfl⟩
  rw[KG,qV,if_pos rfl]
  simp only[xz,d,az,bd,aw,av,bG,aH,au,ak,aK,aA,aP,bK,aE,bO,bC,aR,bu,ay,bF,aT,aC,bq,aU,bI,bM,ba,aI,aW,aQ,ar,aV,a7,bS,aF,aO,bt,bJ,aN,aM,aD,bB,br,aY,bQ,bT,bk,bH,af,bp,ag,bP,ah,aB,aG,bw,bA,bR,aL,bN,bD,bo,aj,bh,bg,aq,ai,aS,a8,aZ,bE,aJ,nq,gk,wc,yL,yB,decide_true,decide_false,simprocAttr,aaJ,bne_self_eq_false,ge_iff_le,gt_iff_lt]
 | s::r,a,H1,m,l,hA,hT,hn,h,gO,dR=>by
  have Wz:a.length<ps.length:=by rw[hA];simp
  have d:decide (((a.length:Nat):Int)<((ps.length:Nat):Int))=true:=decide_eq_true (by omega)
  have hq:(m.parts.map pc)[a.length]? = some (pc s):=by rw[gO,hA];simp
  obtain⟨b,o,z1,z2,z3,z4,z5⟩:=h.parts.rl.at (by decide) hq
  have nE:=z1 .i64
  obtain⟨f,sz⟩:=s
  have z6:cn 2 (.ptr b o) H1=some (.agg [.int .i64 f,.int .i64 sz]):=DZ z4
  have wJ:eP f=true:=ea (f,sz) (by rw[hA];simp)
  obtain⟨H2,u1,u2,u3,u4⟩:=iI H1 [.int .i64 0,.int .i64 0] 66 0 (by simp)
  obtain⟨H3,v1,v2,v3,v4⟩:=qo (n:=2) (v := .agg [.int .i64 f,.int .i64 sz]) (cs:=[.int .i64 f,.int .i64 sz]) u2 (by omega) rfl rfl rfl (AI (f,sz))
  have o3:Out [] H1 H3:=u3.then v3 fun j hj=>by rw[yX] at hj;exact .inr (by omega)
  have v5:cn 2 (.ptr H1.next 0) H3=some (.agg [.int .i64 f,.int .i64 sz]):=v2.cn (n:=2) (o:=0) (by simp)
  obtain⟨H4,q1,q2⟩:=vh (ma hT hn o3) (abl hn o3.1) sz wJ
  have o4:=o3.trans q2
  have h4:=h.gR o4
  have IU:ps=(a++[(f,sz)])++r:=by rw[hA];simp
  have e3:IntKind.wrap .i64 (((a.length:Nat):Int)+1)=(((a++[(f,sz)]).length:Nat):Int):=by
   rw[wrap_i64 (by omega) (by omega)];simp
  obtain⟨H6,L',r1,r2,r3⟩:=Yw h4.st (bU f)
  obtain⟨h6,g6⟩:=h4.wi r2 r3
  have o6:cG lp p H1 l H6 { l with L:=L' }:=(cG.mL o4).trans g6
  have zA:=low Je q1
  have AA:=low agH r1
  rw[qV]
  generalize iV m.m (bU f)=sy at *
  by_cases hz:sy.1=0
  ·rw[if_pos hz]
   have eF:(sy.1 != 0)=false:=by rw[hz];rfl
   obtain⟨QT,Oc,O5⟩:=AF hT hn dR o6
   obtain⟨H',l',k1,k2,k3,k4⟩:=YK ea hlen r (a++[(f,sz)]) H6 _ _ IU QT Oc h6 gO O5
   refine⟨H',l',fun k => ?_,k2,o6.trans k3,k4⟩
   have qW:=k1 k
   rw[KG]
   simp only[xz,d,nE,z6,u1,v1,v5,zA,AA,e3,eF,az,bd,aw,av,bG,aH,au,ak,aK,aA,aP,bK,aE,bO,bC,aR,bu,ay,bF,aT,aC,bq,aU,bI,bM,ba,aI,aW,aQ,ar,aV,a7,bS,aF,aO,bt,bJ,aN,aM,aD,bB,br,aY,bQ,bT,bk,bH,af,bp,ag,bP,ah,aB,aG,bw,bA,bR,aL,bN,bD,bo,aj,bh,bg,aq,ai,aS,a8,aZ,bE,aJ,nq,gk,wc,yL,yB,decide_true,decide_false,simprocAttr,aaJ,bne_self_eq_false,ge_iff_le,gt_iff_lt]
   exact qW
  ·rw[if_neg hz]
   have eF:(sy.1 != 0)=true:=by simpa using hz
   refine⟨H6,_,fun k => ?_,h6,o6,rfl⟩
   rw[KG,if_neg hz]
   simp only[xz,d,nE,z6,u1,v1,v5,zA,AA,e3,eF,az,bd,aw,av,bG,aH,au,ak,aK,aA,aP,bK,aE,bO,bC,aR,bu,ay,bF,aT,aC,bq,aU,bI,bM,ba,aI,aW,aQ,ar,aV,a7,bS,aF,aO,bt,bJ,aN,aM,aD,bB,br,aY,bQ,bT,bk,bH,af,bp,ag,bP,ah,aB,aG,bw,bA,bR,aL,bN,bD,bo,aj,bh,bg,aq,ai,aS,a8,aZ,bE,aJ,nq,gk,wc,yL,yB,decide_true,decide_false,simprocAttr,aaJ,bne_self_eq_false,ge_iff_le,gt_iff_lt]
end
end Go.Proofs.YtbdlbhlhnpblpaaGreatDoor.kf
namespace Go.Proofs.YtbdlbhlhnpblpaaGreatDoor.du
open Go Am Am.K eU Sg gM iR fX cS
theorem n11:¬ ((11:Int)=0):=by decide
theorem nt:¬ (true=false):=by decide
def Fe (f g:Fl):Prop:=g.nm=f.nm/\f.sure<=g.sure/\∃ k,f.sure<=k/\g.b=f.b.take k
def Tr:List Fl->List Fl->Prop
 | [],[]=>True
 | f::a,g::b=>Fe f g/\Tr a b
 | _,_=>False
theorem Fe.refl (f:Fl)(h:f.sure<=f.b.length):Fe f f:=⟨rfl,zf _,f.b.length,h,aia.symm⟩
theorem Fe.trans {f g x:Fl}(h:Fe f g)(k:Fe g x):Fe f x:=by
 obtain⟨a1,a2,i,a3,a4⟩:=h
 obtain⟨b1,b2,j,b3,b4⟩:=k
 refine⟨b1.trans a1,by omega,min j i,by omega,?_⟩
 rw[b4,a4,agr]
theorem Lv (φ:Fl->Fl):∀ fs:List Fl,(∀ f∈fs,Fe f (φ f))->Tr fs (fs.map φ)
 | [],_=>trivial
 | f::r,h=>⟨h f (.head _),Lv φ r fun g hg=>h g (.tail _ hg)⟩
theorem Tr.trans:∀ {a b c:List Fl},Tr a b->Tr b c->Tr a c
 | [],[],[],_,_=>trivial
 | [],[],_::_,_,h=>h.elim
 | [],_::_,_,h,_=>h.elim
 | _::_,[],_,h,_=>h.elim
 | _::_,_::_,[],_,h=>h.elim
 | _::_,_::_,_::_,h,k=>⟨h.1.trans k.1,h.2.trans k.2⟩
theorem Tr.names:∀ {a b:List Fl},Tr a b->b.map (·.nm)=a.map (·.nm)
 | [],[],_=>rfl
 | [],_::_,h=>h.elim
 | _::_,[],h=>h.elim
 | _::_,_::_,h=>by rw[abc,abc,h.1.1,h.2.names]
theorem Tr.refl (fs:List Fl)(h:∀ f∈fs,f.sure<=f.b.length):Tr fs fs:=by
 have:=Lv id fs fun f hf=>Fe.refl f (h f hf)
 rwa[List.map_id] at this
theorem Vp:∀ {fs:List Fl} {f g:Fl},(fs.map (·.nm)).Nodup->f∈fs->g∈fs->f.nm=g.nm->f=g
 | [],f,g,_,hf,_,_=>by cases hf
 | y::r,f,g,h,hf,hg,e=>by
  rw[abc,ab0] at h
  rcases aap.1 hf with q | q<;>rcases aap.1 hg with z | z
  ·rw[q,z]
  ·exact absurd (abn.2 ⟨g,z,by rw[<-e,q]⟩) h.1
  ·exact absurd (abn.2 ⟨f,q,by rw[e,z]⟩) h.1
  ·exact Vp h.2 q z e
theorem PU:∀ (ns:List (List Nat)) (cp:List Int) (fs:List Fl),(fs.map (·.nm)).Nodup->(∀ f∈fs,f.sure<=f.b.length)->Tr fs (rC ns cp fs)
 | [],cp,fs,hn,hs=>by rw[rC];exact Tr.refl fs hs
 | n::ns,cp,fs,hn,hs=>by
  rw[rC]
  cases hf:fs.find? (fun f=>f.nm==n) with
  | none=>exact Tr.refl fs hs
  | some f=>
   simp only
   split
   ·exact PU ns cp fs hn hs
   ·have uT:=List.mem_of_find?_eq_some hf
    have jj:f.nm=n:=by simpa using List.find?_some hf
    have hk:=hs f uT
    have hK:f.sure<=f.sure+min (kn cp).toNat (f.b.length-f.sure)/\f.sure+min (kn cp).toNat (f.b.length-f.sure)<=f.b.length:=by omega
    generalize f.sure+min (kn cp).toNat (f.b.length-f.sure)=K at hK
    have ht:Tr fs (fM n (XF f K) fs):=Lv _ fs fun y hy=>by
     by_cases q:y.nm=n
     ·rw[if_pos q,Vp hn hy uT (q.trans jj.symm)]
      exact⟨rfl,hK.1,K,hK.1,rfl⟩
     ·rw[if_neg q]
      exact Fe.refl y (hs y hy)
    refine ht.trans (PU ns cp.tail _ (by rw[ht.names];exact hn) fun g hg => ?_)
    obtain⟨y,hy,rfl⟩:=abn.1 hg
    by_cases q:y.nm=n
    ·rw[if_pos q]
     show K<=(f.b.take K).length
     rw[abN]
     omega
    ·rw[if_neg q]
     exact hs y hy
structure Gd (ss:List Sm):Prop where
 names:(ss.map fun s=>bU (s.first:Nat)).Nodup
 sure:∀ s∈ss,s.sure<=(fb s.rs).length
 qD:∀ s∈ss,jB (bU (s.first:Nat))=true
theorem HV:∀ ss:List Sm,(ss.map sF).map (·.nm)=ss.map (fun s=>bU (s.first:Nat))
 | []=>rfl
 | s::r=>by rw[abc,abc,abc,HV r,yz]
theorem Ia {m:SM}{ss:List Sm}(h:RB m)(hf:m.fs=ss.map sF):Gd ss:=by
 obtain⟨h1,h2,h3,h4,h5,h6,h7,h8⟩:=h
 rw[hf] at h3 h6 h7
 refine⟨by rw[<-HV];exact h6,fun s hs => ?_,fun s hs => ?_⟩
 ·have:=h3 _ (abn.2 ⟨s,hs,rfl⟩)
  simpa only[sF] using this
 ·have:=h7 _ (abn.2 ⟨s,hs,rfl⟩)
  rwa[yz] at this
theorem Gd.tr {ss:List Sm}(g:Gd ss):((ss.map sF).map (·.nm)).Nodup/\∀ f∈ss.map sF,f.sure<=f.b.length:=
 ⟨by rw[HV];exact g.names,fun f hf=>by obtain⟨s,hs,rfl⟩:=abn.1 hf;exact g.sure s hs⟩
def At (m:SM)(ss:List Sm):Prop:=(m.off=false/\m.fs=ss.map sF)\/(m.off=true/\m.cq=0/\Tr (ss.map sF) m.fs)
theorem YV {m:SM}{ss:List Sm}(g:Gd ss)(ho:m.off=false)(hf:m.fs=ss.map sF)(cp:List Int):(oQ m cp).off=true/\(oQ m cp).cq=0/\Tr (ss.map sF) (oQ m cp).fs:=by
 unfold oQ
 rw[if_neg (by rw[ho];simp)]
 refine⟨rfl,rfl,?_⟩
 show Tr _ (rC (names m) cp m.fs)
 rw[hf]
 exact PU _ _ _ g.tr.1 g.tr.2
theorem ae2 {m:SM}{ss:List Sm}(g:m.off=false->Gd ss)(h:At m ss)(cp:List Int):(oQ m cp).off=true/\(oQ m cp).cq=0/\Tr (ss.map sF) (oQ m cp).fs:=by
 rcases h with⟨h1,h2⟩ | ⟨h1,h2,h3⟩
 ·exact YV (g h1) h1 h2 cp
 ·unfold oQ
  rw[if_pos h1]
  exact⟨h1,h2,h3⟩
theorem TI {m:SM}{ss:List Sm}(g:Gd ss)(ho:m.off=false)(hf:m.fs=ss.map sF):(eY m=true->(dt m).off=false)/\(eY m=false->At (dt m) ss):=by
 unfold eY dt
 constructor
 ·intro h
  have h1:m.cq≠1:=by simpa using h
  by_cases h0:m.cq=0
  ·rw[if_pos h0];exact ho
  ·rw[if_neg h0,if_neg h1];exact ho
 ·intro h
  have h1:m.cq=1:=by simpa using h
  rw[if_neg (by omega),if_pos h1]
  exact .inr (YV (m:={ m with cq:=0 }) g ho hf m.cp)
def Sq (n:Nat)(ss:List Sm):Prop:=∀ s∈ss,(fb (s.rs.take (n-s.first))).length<=s.sure
theorem Nv (rs:List (Nat × List Nat)){a b:Nat}(h:a<=b):(fb (rs.take a)).length<=(fb (rs.take b)).length:=by
 have:=(A3 (rs.take b) a).1
 rwa[agr,ad3 h] at this
theorem Sq.mono {n k:Nat}{ss:List Sm}(h:Sq n ss)(hk:k<=n):Sq k ss:=fun s hs=>abl (Nv s.rs (by omega)) (h s hs)
theorem I7 {m:SM}{a r:List Sm}{s:Sm}(g:Gd (a++s::r))(ho:m.off=false)(hf:m.fs=(a++s::r).map sF):cw m (bU (s.first:Nat))=0/\cS.look m (bU (s.first:Nat))=some (sF s)/\∀ x:Fl,fM (bU (s.first:Nat)) x m.fs=a.map sF++x::r.map sF:=by
 have gP:m.fs=a.map sF++sF s::r.map sF:=by rw[hf];simp
 have hn:(m.fs.map (·.nm)).Nodup:=by rw[hf];exact g.tr.1
 have hk:jB (sF s).nm=true:=by rw[yz];exact g.qD s (by simp)
 obtain⟨h1,h2⟩:=ahM gP hn ho hk
 rw[yz] at h1 h2
 refine⟨h1,h2,fun x => ?_⟩
 rw[gP] at hn ⊢
 have:=ajh (g:=x) hn
 rwa[yz] at this
theorem Gd.swap {a r:List Sm}{s t:Sm}(g:Gd (a++s::r))(h1:t.first=s.first)(h2:t.sure<=(fb t.rs).length):Gd (a++t::r):=by
 obtain⟨g1,g2,g3⟩:=g
 refine⟨?_,fun x hx => ?_,fun x hx => ?_⟩
 ·rw[abz,abc] at g1 ⊢
  rw[h1];exact g1
 ·rcases aac.1 hx with hx | hx
  ·exact g2 x (aaz _ hx)
  ·rcases aap.1 hx with rfl | hx
   ·exact h2
   ·exact g2 x (No _ (.tail _ hx))
 ·rcases aac.1 hx with hx | hx
  ·exact g3 x (aaz _ hx)
  ·rcases aap.1 hx with rfl | hx
   ·rw[h1];exact g3 s (by simp)
   ·exact g3 x (No _ (.tail _ hx))
theorem Sq.swap {n:Nat}{a r:List Sm}{s t:Sm}(h:Sq n (a++s::r))(ht:(fb (t.rs.take (n-t.first))).length<=t.sure):Sq n (a++t::r):=fun x hx=>by
 rcases aac.1 hx with hx | hx
 ·exact h x (aaz _ hx)
 ·rcases aap.1 hx with rfl | hx
  ·exact ht
  ·exact h x (No _ (.tail _ hx))
theorem OQ:∀ (r a:List Sm) (m:SM),Gd (a++r)->m.off=false->m.fs=(a++r).map sF->∃ dw,At (jM (r.map sP) m).2 dw/\dw.map (fun s=>(s.first,s.rs))=(a++r).map (fun s=>(s.first,s.rs))/\Gd dw/\(∀ n,Sq n (a++r)->Sq n dw)/\((jM (r.map sP) m).1=0->(jM (r.map sP) m).2.off=false/\dw=a++r.map jC)
 | [],a,m,g,ho,hf=>⟨a++[],.inl ⟨ho,hf⟩,rfl,g,fun n h=>h,fun _=>⟨ho,rfl⟩⟩
 | s::r,a,m,g,ho,hf=>by
  obtain⟨e0,e1,e2⟩:=I7 g ho hf
  have ef:(sP s).1=((s.first:Nat):Int):=rfl
  have es:(sP s).2=(((fb s.rs).length:Nat):Int):=rfl
  rw[abc,jM,ef,es]
  have Z0:(jC s).first=s.first/\(jC s).rs=s.rs/\(jC s).sure=(fb s.rs).length:=⟨rfl,rfl,rfl⟩
  have hA:(a++[jC s])++r=a++jC s::r:=by simp
  have hB:(a++[jC s])++r.map jC=a++(s::r).map jC:=by simp
  have g':Gd (a++jC s::r):=g.swap rfl (zf _)
  have yC:(a++jC s::r).map (fun s=>(s.first,s.rs))=(a++s::r).map (fun s=>(s.first,s.rs)):=by simp[jC]
  have Z1:∀ n,Sq n (a++s::r)->Sq n (a++jC s::r):=fun n h=>h.swap (A3 s.rs (n-s.first)).1
  by_cases hq:((yd m (bU (s.first:Nat)):Nat):Int)=(((fb s.rs).length:Nat):Int)
  ·rw[if_pos hq]
   have hs:jC s=s:=by
    unfold yd at hq
    rw[e1] at hq
    have py:s.sure=(fb s.rs).length:=by simp only[sF] at hq;omega
    unfold jC
    rw[<-py]
   obtain⟨dw,i1,i2,i3,i4,i5⟩:=OQ r (a++[jC s]) m (by rw[hA];exact g') ho (by rw[hA,hs];exact hf)
   rw[hA] at i2 i4
   rw[hB] at i5
   exact⟨dw,i1,i2.trans yC,i3,fun n h=>i4 n (Z1 n h),i5⟩
  ·rw[if_neg hq]
   have ij:iV m (bU (s.first:Nat))=if eY m=false then (11,dt m) else (0,{ dt m with fs:=(a++jC s::r).map sF }):=by
    unfold iV
    rw[if_neg (by rw[e0];decide),e1]
    simp only[e2]
    have:(⟨(sF s).nm,(sF s).b,(sF s).b.length⟩:Fl)=sF (jC s):=by simp only[sF,jC]
    rw[this,abz,abc]
   obtain⟨b1,b2⟩:=TI g ho hf
   rw[ij]
   cases hb:eY m with
   | false=>
    rw[if_pos rfl,if_neg (show ¬ (((11:Int),dt m).1=0) from n11)]
    exact⟨a++s::r,b2 hb,rfl,g,fun n h=>h,fun q=>absurd q n11⟩
   | true=>
    rw[if_neg nt,if_pos rfl]
    obtain⟨dw,i1,i2,i3,i4,i5⟩:=OQ r (a++[jC s]) { dt m with fs:=(a++jC s::r).map sF } (by rw[hA];exact g') (b1 hb) (by rw[hA])
    rw[hA] at i2 i4
    rw[hB] at i5
    exact⟨dw,i1,i2.trans yC,i3,fun n h=>i4 n (Z1 n h),i5⟩
theorem Zc:∀ (ss:List Sm) (e:Nat) (rs:List (Nat × List Nat)) (su:Nat),chain e ss->(∀ u∈ss,u.rs≠[])->chain e (ss++[⟨e+(b8 ss).length,rs,su⟩])
 | [],e,rs,su,h,hn=>⟨by simp[b8],fun q=>absurd rfl q,trivial⟩
 | s::r,e,rs,su,h,hn=>by
  obtain⟨h1,h2,h3⟩:=h
  have:=Zc r _ rs su h3 fun u hu=>hn u (.tail _ hu)
  have e1:(b8 (s::r)).length=s.rs.length+(b8 r).length:=by simp[b8]
  refine⟨h1,fun _=>hn s (.head _),?_⟩
  rw[e1,<-aeh]
  exact this
theorem Pf:∀ (a:List Sm) (e:Nat) (x y:Sm),x.first=y.first->chain e (a++[x])->chain e (a++[y])
 | [],e,x,y,hf,h=>⟨hf▸h.1,fun q=>absurd rfl q,trivial⟩
 | c::a,e,x,y,hf,h=>⟨h.1,fun _=>h.2.1 (by simp),Pf a _ x y hf h.2.2⟩
theorem Gd.init {a:List Sm}{s:Sm}(g:Gd (a++[s])):Gd a:=by
 obtain⟨g1,g2,g3⟩:=g
 refine⟨?_,fun x hx=>g2 x (aaz _ hx),fun x hx=>g3 x (aaz _ hx)⟩
 rw[abz,acd] at g1
 exact g1.1
section
variable {m:SM}{a:List Sm}{s:Sm}
theorem ahJ (g:Gd (a++[s]))(ho:m.off=false)(hf:m.fs=(a++[s]).map sF):eK m (bU (s.first:Nat))=if eY m=false then (11,dt m) else (0,{ dt m with fs:=a.map sF }):=by
 obtain⟨e0,e1,e2⟩:=I7 g ho hf
 have gP:m.fs=a.map sF++sF s::[]:=by rw[hf];simp
 have hn:(m.fs.map (·.nm)).Nodup:=by rw[hf];exact g.tr.1
 rw[gP] at hn
 have hd:=ad4 hn
 rw[yz,aeD] at hd
 unfold eK
 rw[if_neg (by rw[e0];decide),gP,hd]
theorem ahj (g:Gd (a++[s]))(ho:m.off=false)(hf:m.fs=(a++[s]).map sF){n:Nat}(hn:n<=(fb s.rs).length):gT m (bU (s.first:Nat)) (n:Nat)=if eY m=false then (11,dt m) else (0,{ dt m with fs:=a.map sF++[⟨bU (s.first:Nat),(fb s.rs).take n,min s.sure n⟩] }):=by
 obtain⟨e0,e1,e2⟩:=I7 g ho hf
 unfold gT
 rw[if_neg (by rw[e0];decide),e1]
 have:¬ (((n:Nat):Int)<0\/((((sF s).b.length:Nat):Int)<((n:Nat):Int))):=by
  simp only[sF]
  omega
 simp only[e2]
 rw[if_neg this]
 simp only[sF,aeV,ag6]
end
theorem Zt {off:Nat}:∀ (T:List Sm) (m:SM),Gd T.reverse->chain 0 T.reverse->off<=(b8 T.reverse).length->m.off=false->m.fs=T.reverse.map sF->
  ∃ dw,At (jd off T m).2.2 dw/\chain 0 dw/\Gd dw/\dw.length<=T.length/\(∃ e,off<=e/\b8 dw=(b8 T.reverse).take e)/\(∀ n,Sq n T.reverse->Sq (min n off) dw)/\∀ x∈dw,∃ t∈T,(fb x.rs).length<=(fb t.rs).length
 | [],m,g,c,h,ho,hf=>⟨[],.inl ⟨ho,hf⟩,trivial,g,zf _,⟨off,zf _,by simp[b8]⟩,(fun n h s hs=>by cases hs),(fun x hx=>by cases hx)⟩
 | s::r,m,g,c,h,ho,hf=>by
  rw[List.reverse_cons] at g c h hf ⊢
  obtain⟨c1,c2,c3⟩:=HX _ _ _ c
  rw[wc] at c1
  have hR:b8 (r.reverse++[s])=b8 r.reverse++s.rs:=by rw[rn];simp[b8]
  have whole:∀ m',At m' (r.reverse++[s])->∃ dw,At m' dw/\chain 0 dw/\Gd dw/\dw.length<=(s::r).length/\(∃ e,off<=e/\b8 dw=(b8 (r.reverse++[s])).take e)/\(∀ n,Sq n (r.reverse++[s])->Sq (min n off) dw)/\∀ x∈dw,∃ t∈s::r,(fb x.rs).length<=(fb t.rs).length:=
   fun m' hm=>⟨r.reverse++[s],hm,c,g,by simp,⟨_,h,aia.symm⟩,fun n hq=>hq.mono (Nat.min_le_left _ _),fun x hx=>⟨x,by
    rcases aac.1 hx with hx | hx
    ·exact .tail _ (aho.1 hx)
    ·rw[yX] at hx;subst hx;exact .head _,zf _⟩⟩
  obtain⟨b1,b2⟩:=TI g ho hf
  obtain⟨DO,Ct⟩:=A3 s.rs (off-s.first)
  rw[jd]
  by_cases h1:s.first+s.rs.length<=off
  ·rw[if_pos h1];exact whole m (.inl ⟨ho,hf⟩)
  rw[if_neg h1]
  by_cases h2:s.first<off\/r=[]
  ·have h3:s.first<=off:=by
    rcases h2 with q | q
    ·omega
    ·rw[q] at c1;simp[b8] at c1;omega
   rw[if_pos h2,ahj g ho hf DO]
   cases hb:eY m with
   | false=>
    rw[if_pos rfl,if_neg (show ¬ (((11:Int),dt m).1=0) from n11)]
    exact whole _ (b2 hb)
   | true=>
    rw[if_neg nt,if_pos rfl]
    refine⟨r.reverse++[⟨s.first,s.rs.take (off-s.first),min s.sure (fb (s.rs.take (off-s.first))).length⟩],.inl ⟨b1 hb,?_⟩,?_,?_,by simp,⟨off,zf _,?_⟩,fun n hq => ?_,fun x hx => ?_⟩
    ·simp only[abz,abc,ag6,sF,Ct]
    ·exact Pf _ 0 s _ rfl c
    ·exact g.swap rfl (Nat.min_le_right _ _)
    ·rw[hR,rn,List.take_append,acI (l:=b8 r.reverse) (i:=off) (by omega),<-c1]
     simp[b8]
    ·refine (hq.mono (Nat.min_le_left n off)).swap ?_
     have:=hq s (by simp)
     have q1:=Nv s.rs (a:=min (min n off-s.first) (off-s.first)) (b:=n-s.first) (by omega)
     have q2:=(A3 (s.rs.take (off-s.first)) (min n off-s.first)).1
     simp only
     rw[agr] at q2 ⊢
     omega
    ·rcases aac.1 hx with hx | hx
     ·exact⟨x,.tail _ (aho.1 hx),zf _⟩
     ·rw[yX] at hx;subst hx;exact⟨s,.head _,DO⟩
  ·have h4:off<=(b8 r.reverse).length:=by rw[<-c1];omega
   rw[if_neg h2,ahJ g ho hf]
   cases hb:eY m with
   | false=>
    rw[if_pos rfl,if_neg (show ¬ (((11:Int),dt m).1=0) from n11)]
    exact whole _ (b2 hb)
   | true=>
    rw[if_neg nt,if_pos rfl]
    obtain⟨dw,i1,i2,i3,i4,⟨e,i5,i6⟩,i7,i8⟩:=Zt r { dt m with fs:=r.reverse.map sF } g.init c2 h4 (b1 hb) rfl
    refine⟨dw,i1,i2,i3,by rw[abg];omega,⟨min e (b8 r.reverse).length,by omega,?_⟩,fun n hq=>i7 n fun t ht=>hq t (aaz _ ht),fun x hx => ?_⟩
    ·rw[hR,aek (by omega),i6]
     by_cases q:e<=(b8 r.reverse).length
     ·rw[ad3 q]
     ·rw[Nat.min_eq_right (by omega),acI (by omega),aia]
    ·obtain⟨t,ht,q⟩:=i8 x hx
     exact⟨t,.tail _ ht,q⟩
structure Wu (m:LM)(ss:List Sm):Prop where
 parts:m.parts=ss.map sP
 ab:m.ab=b8 ss
 first:m.first=0
 cN:m.cN=100
 chain:chain 0 ss
 ne:∀ s∈ss,s.rs≠[]
 off:m.m.off=false
 fs:m.m.fs=ss.map sF
 size:∀ s∈ss,(fb s.rs).length<=1000
theorem akB {m:SM}{ss:List Sm}(g:Gd ss)(ho:m.off=false)(gP:m.fs=ss.map sF)(n b:List Nat) :
  ((ff m n b).1≠0->At (ff m n b).2 ss)/\((ff m n b).1=0->(ff m n b).2.off=false/\(ff m n b).2.fs=match cS.look m n with | some f=>fM n ⟨f.nm,f.b++b,f.sure⟩ m.fs | none=>m.fs++[⟨n,b,0⟩]):=by
 obtain⟨b1,b2⟩:=TI g ho gP
 unfold ff
 split
 ·rename_i q
  exact⟨fun _ => .inl ⟨ho,gP⟩,fun h=>absurd h q.1⟩
 ·split
  ·exact⟨fun _ => .inl ⟨ho,gP⟩,fun h=>absurd h (show ¬ ((6:Int)=0) by decide)⟩
  ·cases hb:eY m with
   | false=>
    rw[if_pos rfl]
    exact⟨fun _=>b2 hb,fun h=>absurd h n11⟩
   | true=>
    rw[if_neg nt]
    exact⟨fun h=>absurd rfl h,fun _=>⟨b1 hb,rfl⟩⟩
theorem ahN {m:LM}{ss:List Sm}(g:Gd ss)(w:Wu m ss)(hl:(b8 ss).length<=1000)(a:Nat){b:List Nat}(hb:b.length<=200) :
  ((lH m a b).1≠0->At (lH m a b).2.m ss/\((lH m a b).2.m.off=false->Wu (lH m a b).2 ss))/\
  ((lH m a b).1=0->∃ dw,Wu (lH m a b).2 dw/\b8 dw=b8 ss++[(a,b)]/\∀ n,n<=(b8 ss).length->Sq n ss->Sq n dw):=by
 have hE:cJ m=(((b8 ss).length:Nat):Int):=by unfold cJ;rw[w.first,w.ab];omega
 have AN:∀ u∈ss,u.first+u.rs.length<=(b8 ss).length:=fun u hu=>by have:=CV ss 0 w.chain u hu;omega
 have ea:∀ u∈ss,eP ((u.first:Nat):Int)=true:=fun u hu=>xx (by omega) (by have:=AN u hu;omega)
 have FA:=pj a b
 obtain⟨p1,p2⟩:=akB g w.off w.fs (bU (if m.parts=[]\/m.cN<=(dH m).2 then cJ m else (dH m).1)) (fr a b)
 constructor
 ·intro h
  have h':(rL m a b).1≠0:=h
  have e:(lH m a b).2={ m with m:=(rL m a b).2 }:=by unfold lH;rw[if_neg h']
  rw[e]
  have hA:At (rL m a b).2 ss:=p1 h'
  refine⟨hA,fun q => ?_⟩
  rcases hA with⟨q1,q2⟩ | ⟨q1,_⟩
  ·exact⟨w.parts,w.ab,w.first,w.cN,w.chain,w.ne,q1,q2,w.size⟩
  ·rw[show (rL m a b).2.off=false from q] at q1;cases q1
 ·intro h
  have h':(rL m a b).1=0:=h
  have e:(lH m a b).2=pO m a b:=by unfold lH;rw[if_pos h']
  rw[e]
  obtain⟨p3,p4⟩:=p2 h'
  have jg:(m.parts=[]\/m.cN<=(dH m).2)->∃ dw,Wu (pO m a b) dw/\b8 dw=b8 ss++[(a,b)]/\∀ n,n<=(b8 ss).length->Sq n ss->Sq n dw:=by
   intro hq
   rw[if_pos hq] at p3 p4
   have IX:cS.look m.m (bU (cJ m))=none:=by
    unfold cS.look
    rw[w.fs,List.find?_eq_none]
    intro f hf q
    obtain⟨u,hu,rfl⟩:=abn.1 hf
    have e:(sF u).nm=bU (cJ m):=by simpa using q
    rw[yz,hE] at e
    have h1:=Sr (ea u hu)
    have h2:=Sr (a:=(((b8 ss).length:Nat):Int)) (xx (by omega) (by omega))
    rw[e,h2] at h1
    simp only[aeV,abI,and_true] at h1
    have:=AN u hu
    have:0<u.rs.length:=List.length_pos_iff.2 (w.ne u hu)
    omega
   rw[IX] at p4
   have Ov:(fb [(a,b)])=fr a b:=by simp[fb]
   have e:pO m a b={ m with m:=(ff m.m (bU (cJ m)) (fr a b)).2,parts:=m.parts++[(cJ m,0+((16+b.length:Nat):Int))],ab:=m.ab++[(a,b)] }:=by unfold pO;rw[if_pos hq]
   rw[e]
   refine⟨ss++[⟨(b8 ss).length,[(a,b)],0⟩],⟨?_,?_,w.first,w.cN,?_,?_,p3,?_,?_⟩,?_,fun n hn hq => ?_⟩
   ·show m.parts++[(cJ m,0+((16+b.length:Nat):Int))]=_
    rw[w.parts,hE,abz,abc,ag6]
    simp only[sP,Ov,FA,Int.zero_add]
   ·show m.ab++[(a,b)]=_
    rw[w.ab,rn]
    simp[b8]
   ·have:=Zc ss 0 [(a,b)] 0 w.chain w.ne
    rw[wc] at this
    exact this
   ·intro u hu
    rcases aac.1 hu with hu | hu
    ·exact w.ne u hu
    ·rw[yX] at hu;subst hu;simp
   ·show (ff m.m (bU (cJ m)) (fr a b)).2.fs=_
    rw[p4,w.fs,hE,abz,abc,ag6]
    congr 2
    simp only[sF,Ov]
   ·intro u hu
    rcases aac.1 hu with hu | hu
    ·exact w.size u hu
    ·rw[yX] at hu;subst hu;simp only[Ov,FA];omega
   ·rw[rn];simp[b8]
   ·intro u hu
    rcases aac.1 hu with hu | hu
    ·exact hq u hu
    ·rw[yX] at hu
     subst hu
     simp only
     rw[show n-(b8 ss).length=0 by omega]
     simp[fb]
  by_cases hq:m.parts=[]\/m.cN<=(dH m).2
  ·exact jg hq
  ·rw[if_neg hq] at p3 p4
   rcases List.eq_nil_or_concat ss with eM | ⟨t,s,eM⟩
   ·exact absurd (.inl (by rw[w.parts,eM];rfl)) hq
   ·rw[List.concat_eq_append] at eM
    have mY:dH m=sP s:=by unfold dH;rw[w.parts,eM];simp
    have pZ:(dH m).1=((s.first:Nat):Int):=by rw[mY];simp only[sP]
    have iu:(dH m).2=(((fb s.rs).length:Nat):Int):=by rw[mY];simp only[sP]
    have ij:(fb s.rs).length<100:=by
     have:¬ m.cN<=(dH m).2:=fun q=>hq (.inr q)
     rw[w.cN,iu] at this
     omega
    have e:pO m a b={ m with m:=(ff m.m (bU (dH m).1) (fr a b)).2,parts:=m.parts.set (m.parts.length-1) ((dH m).1,(dH m).2+((16+b.length:Nat):Int)),ab:=m.ab++[(a,b)] }:=by
     unfold pO
     rw[if_neg hq]
    rw[pZ] at p3 p4
    rw[pZ,iu] at e
    rw[e]
    obtain⟨e0,e1,e2⟩:=I7 (a:=t) (r:=[]) (s:=s) (eM▸g) w.off (by rw[w.fs,eM])
    rw[e1] at p4
    simp only[e2] at p4
    have Tx:fb (s.rs++[(a,b)])=fb s.rs++fr a b:=by rw[PQ];simp[fb]
    have AH:b8 ss=b8 t++s.rs:=by rw[eM,rn];simp[b8]
    have dP:=(HX t 0 s (eM▸w.chain)).1
    refine⟨t++[⟨s.first,s.rs++[(a,b)],s.sure⟩],⟨?_,?_,w.first,w.cN,?_,?_,p3,?_,?_⟩,?_,fun n hn py => ?_⟩
    ·show m.parts.set (m.parts.length-1) _=_
     rw[w.parts,eM,abz,abz,abc,ag6,abc,ag6]
     simp only[sP,Tx,aaO,FA]
     simp
    ·show m.ab++[(a,b)]=_
     rw[w.ab,eM,rn,rn]
     simp[b8]
    ·exact Pf t 0 s _ rfl (eM▸w.chain)
    ·intro u hu
     rcases aac.1 hu with hu | hu
     ·exact w.ne u (by rw[eM];exact aaz _ hu)
     ·rw[yX] at hu;subst hu;simp
    ·show (ff m.m (bU (s.first:Nat)) (fr a b)).2.fs=_
     rw[p4,abz,abc,ag6]
     simp only[sF,Tx,ag6]
    ·intro u hu
     rcases aac.1 hu with hu | hu
     ·exact w.size u (by rw[eM];exact aaz _ hu)
     ·rw[yX] at hu;subst hu;simp only[Tx,aaO,FA];omega
    ·rw[AH,rn];simp[b8]
    ·rw[eM] at py
     refine Sq.swap (r:=[]) py ?_
     have:=py s (by simp)
     simp only
     rw[aek (by rw[AH,aaO] at hn;omega)]
     exact this
end Go.Proofs.YtbdlbhlhnpblpaaGreatDoor.du
namespace Go.Proofs.YtbdlbhlhnpblpaaGreatDoor.kf
open Go Am Am.K eU Sg gM rB iR fX cS du
theorem aaA:∀ (rs:List (Nat × List Nat)) (k f first ep:Nat),(∀ r∈rs,r.2.length<=1024)->((fb rs).take k).length<=f->first+rs.length<=1000000->(∀ (i:Nat) (r:Nat × List Nat),rs[i]? = some r->r.1 % 17592186044416=first+i/\r.1<18446744073709551616)->List.Pairwise (fun a b:Nat=>a<=b) (ep::rs.map (fun r=>r.1 / 17592186044416))->
  ∃ j,j<=rs.length/\eE f ((fb rs).take k) (first:Nat) (ep:Nat)=(rs.take j,(fb (rs.take j)).length)/\(fb (rs.take j)).length<=k/\∀ i,i<=rs.length->(fb (rs.take i)).length<=k->i<=j
 | [],k,f,first,ep,_,_,_,_,_=>⟨0,zf _,by cases f<;>simp[eE,fb],by simp[fb],fun i hi _=>hi⟩
 | r::rs,k,f,first,ep,hm,hf,hi,mq,BK=>by
  have hl:=hm r (.head _)
  by_cases hk:k<16+r.2.length
  ·refine⟨0,ack _,?_,by simp[fb],fun i eG hx => ?_⟩
   ·have hlen:((fb (r::rs)).take k).length=k:=by
     rw[abN,fb,aaO,pj];omega
    have hE:gE ((fb (r::rs)).take k)≠0:=by
     unfold gE
     rw[hlen]
     by_cases h4:k<4
     ·rw[if_pos h4];decide
     ·have hN:gN ((fb (r::rs)).take k)=r.2.length:=by
       rw[<-JD r.1 (fb rs) hl]
       unfold gN
       rw[agr,ad3 (by omega)]
       rfl
      rw[if_neg h4,hN,if_neg (by omega),if_pos hk]
      decide
    have ht:((r::rs).take 0,(fb ((r::rs).take 0)).length)=(([]:List (Nat × List Nat)),0):=rfl
    rw[ht]
    cases f with
    | zero=>rfl
    | succ f=>
     rw[eE]
     split
     ·rfl
     ·have nD:on ((fb (r::rs)).take k) (first:Nat) (ep:Nat)≠true:=by
       unfold on
       rw[decide_eq_false hE]
       simp
      rw[if_neg nD]
   ·rcases i with _ | i
    ·exact zf _
    ·rw[afQ,fb,aaO,pj] at hx
     omega
  ·have Og:(fb (r::rs)).take k=fr r.1 r.2++(fb rs).take (k-(16+r.2.length)):=by
    rw[fb,List.take_append,pj,acI (by rw[pj];omega)]
   rw[Og] at hf ⊢
   rw[aaO,pj] at hf
   rw[abg] at hi
   obtain⟨h1,h2⟩:=mq 0 r rfl
   rw[abc,afb] at BK
   obtain⟨p1,p2⟩:=BK
   have he:ep<=r.1 / 17592186044416:=p1 _ (.head _)
   cases f with
   | zero=>omega
   | succ f=>
    obtain⟨j,i1,i2,i3,i4⟩:=aaA rs (k-(16+r.2.length)) f (first+1) (r.1 / 17592186044416) (fun q hq=>hm q (.tail _ hq)) (by omega) (by omega) (fun i q hq=>by
     have:=mq (i+1) q hq
     omega) p2
    have hN:=JD r.1 ((fb rs).take (k-(16+r.2.length))) hl
    have hA:=amm (a:=r.1) r.2 ((fb rs).take (k-(16+r.2.length))) h2
    have hB:=Xk r.1 ((fb rs).take (k-(16+r.2.length))) hl
    have hE:=acP r.1 ((fb rs).take (k-(16+r.2.length))) hl
    generalize (fb rs).take (k-(16+r.2.length))=T at *
    have cx:¬ (fr r.1 r.2++T)=[]:=fun q=>by
     have:=congrArg List.length q
     rw[aaO,pj] at this
     simp at this
    have nD:on (fr r.1 r.2++T) (first:Nat) (ep:Nat)=true:=by
     unfold on
     rw[hE,hA]
     simp
     omega
    have hw:IntKind.wrap .i64 (((first:Nat):Int)+1)=((first+1:Nat):Int):=by rw[wrap_i64 (by omega) (by omega)];rfl
    have mK:(fb ((r::rs).take (j+1))).length=16+r.2.length+(fb (rs.take j)).length:=by rw[afQ,fb,aaO,pj]
    refine⟨j+1,by rw[abg];omega,?_,by rw[mK];omega,fun i eG hx => ?_⟩
    ·rw[eE,if_neg cx,if_pos nD,hN,hA,hB,hw,Jf _ _ (pj _ _),i2,mK,afQ]
    ·rcases i with _ | i
     ·exact ack _
     ·rw[afQ,fb,aaO,pj] at hx
      rw[abg] at eG
      have:=i4 i (by omega) (by omega)
      omega
theorem JO {m m':SM}{n:List Nat}(h1:m'.off=m.off)(h2:(cS.look m' n).isNone=(cS.look m n).isNone):cw m' n=cw m n:=by unfold cw;rw[h1,h2]
theorem Iz {m:SM}(hf:m.cq=0):eY m=true/\dt m=m:=⟨by unfold eY;rw[hf];rfl,by unfold dt;rw[if_pos hf]⟩
theorem Xi {m:SM}{a n:List Nat}(hf:m.cq=0)(h:a≠n):cS.look (eK m a).2 n=cS.look m n:=by
 obtain⟨h1,h2⟩:=Iz hf
 unfold eK
 split
 ·rfl
 ·rw[if_neg (by rw[h1];decide),h2]
  unfold cS.look ri
  rw[List.find?_filter]
  congr 1
  funext f
  by_cases q:f.nm=n
  ·simp[q,Ne.symm h]
  ·simp[q]
theorem aea {m:SM}{a:List Nat}(hf:m.cq=0)(h:cw m a=0):(eK m a).1=0:=by
 obtain⟨h1,h2⟩:=Iz hf
 unfold eK
 rw[if_neg (by rw[h];decide),if_neg (by rw[h1];decide)]
theorem Tn:∀ (l:List Int) (m:SM),m.off=false->m.cq=0->(kF l m).off=false/\(kF l m).cq=0/\∀ n,(∀ z∈l,bU z≠n)->cS.look (kF l m) n=cS.look m n
 | [],m,ho,hf=>⟨ho,hf,fun n _=>rfl⟩
 | z::l,m,ho,hf=>by
  rw[kF]
  obtain⟨k1,k2⟩:=IM m (bU z) ho hf
  obtain⟨i1,i2,i3⟩:=Tn l _ k1 k2
  exact⟨i1,i2,fun n hn=>(i3 n fun y hy=>hn y (.tail _ hy)).trans (Xi hf (hn z (.head _)))⟩
theorem ZB:∀ (l:List Int) (m:SM),m.off=false->m.cq=0->(l.map bU).Nodup->(∀ z∈l,cw m (bU z)=0)->AM l m
 | [],_,_,_,_,_=>trivial
 | z::l,m,ho,hf,hn,h=>by
  rw[abc,ab0] at hn
  obtain⟨k1,k2⟩:=IM m (bU z) ho hf
  refine⟨aea hf (h z (.head _)),ZB l _ k1 k2 hn.2 fun y hy => ?_⟩
  rw[JO (k1.trans ho.symm) (by rw[Xi hf fun q=>hn.1 (by rw[q];exact abn.2 ⟨y,hy,rfl⟩)])]
  exact h y (.tail _ hy)
theorem ZO {m m':SM}{n k:List Nat}{g:Fl}(hg:g.nm=n)(gP:m'.fs=fM n g m.fs)(ho:m'.off=m.off)(h:cw m k=0):cw m' k=0:=by
 rw[JO ho,h]
 have h1:(cS.look m k).isSome=true:=by
  unfold cw at h
  split at h
  ·cases h
  split at h
  ·cases h
  split at h
  ·cases h
  ·rename_i q
   cases hq:cS.look m k with
   | none=>rw[hq] at q;simp at q
   | some x=>rfl
 have h2:(cS.look m' k).isSome=true:=by
  unfold cS.look at h1 ⊢
  rw[gP]
  exact aah hg h1
 cases h3:cS.look m k<;>cases h4:cS.look m' k<;>simp_all
theorem V7:∀ (ps:List (Int × Int)) (m:SM),m.off=false->m.cq=0->(∀ q∈ps,cw m (bU q.1)=0)->(qV ps m).1=0
 | [],_,_,_,_=>rfl
 | q::r,m,ho,hf,h=>by
  obtain⟨h1,h2⟩:=Iz hf
  have h0:=h q (.head _)
  have hs:(iV m (bU q.1)).1=0/\(iV m (bU q.1)).2.off=false/\(iV m (bU q.1)).2.cq=0/\∀ k,cw m k=0->cw (iV m (bU q.1)).2 k=0:=by
   unfold iV
   rw[if_neg (by rw[h0];decide),if_neg (by rw[h1];decide),h2]
   refine⟨rfl,ho,hf,fun k hk => ?_⟩
   cases hq:cS.look m (bU q.1) with
   | none=>exact hk
   | some f=>
    have jj:f.nm=bU q.1:=by
     unfold cS.look at hq
     simpa using List.find?_some hq
    exact ZO (m:=m) (g:=⟨f.nm,f.b,f.b.length⟩) jj rfl rfl hk
  rw[qV,if_pos hs.1]
  exact V7 r _ hs.2.1 hs.2.2.1 fun y hy=>hs.2.2.2 _ (h y (.tail _ hy))
theorem Xf:∀ {ss:List Sm} {fs:List Fl},Tr (ss.map sF) fs->(ss.map fun s=>bU (s.first:Nat)).Nodup->∀ s∈ss,∃ g k,fs.find? (fun f=>f.nm==bU (s.first:Nat))=some g/\s.sure<=k/\g.b=(fb s.rs).take k
 | [],_,_,_,s,hs=>by cases hs
 | t::ss,[],h,_,_,_=>h.elim
 | t::ss,g::fs,h,hn,s,hs=>by
  rw[abc,ab0] at hn
  obtain⟨⟨h1,h2,k,h3,h4⟩,h5⟩:=h
  rw[yz] at h1
  rcases aap.1 hs with rfl | hs
  ·exact⟨g,k,by rw[List.find?_cons,h1];simp,h3,h4⟩
  ·obtain⟨g',k',i1,i2,i3⟩:=Xf h5 hn.2 s hs
   refine⟨g',k',?_,i2,i3⟩
   rw[List.find?_cons,h1]
   have:(bU (t.first:Nat)==bU (s.first:Nat))=false:=by
    rw[beq_eq_false_iff_ne]
    exact fun q=>hn.1 (by rw[q];exact abn.2 ⟨s,hs,rfl⟩)
   rw[this]
   exact i1
theorem MI:∀ (a:List Sm) (e:Nat) (s:Sm) (r:List Sm),chain e (a++s::r)->s.first=e+(b8 a).length
 | [],e,s,r,h=>by simpa[b8] using h.1
 | c::a,e,s,r,h=>by
  have:=MI a _ s r h.2.2
  have e1:(b8 (c::a)).length=c.rs.length+(b8 a).length:=by simp[b8]
  rw[this,e1]
  omega
def W4 (R:List (Nat × List Nat)):Prop:=∀ (i:Nat) (r:Nat × List Nat),R[i]? = some r->r.1=17592186044416+i/\r.2.length<=1024
structure Lo (m:SM)(ss:List Sm):Prop where
 off:m.off=false
 cq:m.cq=0
 nd:(ss.map fun s=>bU (s.first:Nat)).Nodup
 qD:∀ s∈ss,jB (bU (s.first:Nat))=true
 look:∀ s∈ss,∃ g k,cS.look m (bU (s.first:Nat))=some g/\s.sure<=k/\g.b=(fb s.rs).take k
theorem Lo.cw {m:SM}{ss:List Sm}(h:Lo m ss){s:Sm}(hs:s∈ss):cS.cw m (bU (s.first:Nat))=0:=by
 obtain⟨g,k,h1,_⟩:=h.look s hs
 unfold cS.cw
 rw[h.off,h.qD s hs,h1]
 rfl
theorem D1 (s:Sm)(r:List Sm):b8 (s::r)=s.rs++b8 r:=by simp[b8]
structure Rd (ss:List Sm)(n:Nat)(cN:Int)(x:Int × LM):Prop where
 err:x.1=0
 first:x.2.first=0
 cN:x.2.cN=cN
 ab:∃ e,n<=e/\x.2.ab=(b8 ss).take e
 off:x.2.m.off=false
 cq:x.2.m.cq=0
 parts:∀ q∈x.2.parts,cS.cw x.2.m (bU q.1)=0/\(∃ s∈ss,q.1=(s.first:Nat))/\0<=q.2/\q.2<=1000
 len:x.2.parts.length<=ss.length
theorem Y0 {ss:List Sm}(c:chain 0 ss)(hR:W4 (b8 ss))(hl:(b8 ss).length<=1000){n:Nat}(hq:Sq n ss)(hn:n<=(b8 ss).length)(cC:∀ s∈ss,(fb s.rs).length<=1000){m0:SM}(iQ:Lo m0 ss) :
  ∀ (r a:List Sm) (m:LM),ss=a++r->m.m=m0->m.ab=b8 a->m.first=0->m.parts.length<=a.length->(∀ q∈m.parts,(∃ s∈a,q.1=(s.first:Nat))/\0<=q.2/\q.2<=1000)->Rd ss n m.cN (jL (r.map fun s=>((s.first:Nat):Int)) m)
 | [],a,m,eM,hm,ly,hf,hlen,hp=>by
  rw[aeD] at eM
  refine⟨rfl,hf,rfl,⟨(b8 ss).length,hn,?_⟩,?_,?_,fun q hq => ?_,?_⟩
  ·rw[aia,eM];exact ly
  ·show m.m.off=false;rw[hm];exact iQ.off
  ·show m.m.cq=0;rw[hm];exact iQ.cq
  ·obtain⟨⟨s,h1,h2⟩,h3⟩:=hp q hq
   refine⟨?_,⟨s,eM▸h1,h2⟩,h3⟩
   show cS.cw m.m _=0
   rw[hm,h2]
   exact iQ.cw (eM▸h1)
  ·rw[eM];exact hlen
 | s::r,a,m,eM,hm,ly,hf,hlen,hp=>by
  have ij:s∈ss:=by rw[eM];simp
  have Dp:s.first=(b8 a).length:=by have:=MI a 0 s r (eM▸c);omega
  have AH:b8 ss=b8 a++(s.rs++b8 r):=by rw[eM,rn,D1]
  have hE:cJ m=((s.first:Nat):Int):=by unfold cJ;rw[hf,ly,Dp];omega
  obtain⟨g,k,g1,g2,g3⟩:=iQ.look s ij
  have e0:=iQ.cw ij
  have adN:gq m.m (bU (s.first:Nat))=(fb s.rs).take k:=by unfold gq;rw[hm,if_pos e0,g1];exact g3
  have hlR:(b8 ss).length=(b8 a).length+(s.rs.length+(b8 r).length):=by rw[AH,aaO,aaO]
  have mq:∀ (i:Nat) (x:Nat × List Nat),s.rs[i]? = some x->x.1=17592186044416+(s.first+i)/\x.2.length<=1024:=fun i x hx=>by
   have hi:=(aaL.1 hx).1
   have:=hR (s.first+i) x (by rw[AH,Dp,abM (by omega),abi (by omega),show (b8 a).length+i-(b8 a).length=i by omega];exact hx)
   exact this
  have BK:∃ ep:Nat,jK m=((ep:Nat):Int)/\ep<=1:=by
   unfold jK
   rw[ly]
   cases hq:(b8 a).getLast? with
   | none=>exact⟨0,rfl,by omega⟩
   | some z=>
    refine⟨z.1 / 17592186044416,rfl,?_⟩
    obtain⟨i,hi⟩:=agh.1 (List.mem_of_getLast? hq)
    have eG:=(aaL.1 hi).1
    have:=(hR i z (by rw[AH,abi eG];exact hi)).1
    omega
  obtain⟨ep,BK,acS⟩:=BK
  obtain⟨j,j1,j2,j3,j4⟩:=aaA s.rs k ((fb s.rs).take k).length s.first ep (fun x hx=>by
   obtain⟨i,hi⟩:=agh.1 hx
   exact (mq i x hi).2) (zf _) (by omega) (fun i x hx=>by
    have hi:=(aaL.1 hx).1
    have:=(mq i x hx).1
    omega) (by
    have gS:∀ x∈s.rs.map (fun r=>r.1 / 17592186044416),x=1:=fun x hx=>by
     obtain⟨y,hy,rfl⟩:=abn.1 hx
     obtain⟨i,hi⟩:=agh.1 hy
     have eG:=(aaL.1 hi).1
     have:=(mq i y hi).1
     omega
    rw[afb]
    refine⟨fun x hx=>by rw[gS x hx];exact acS,?_⟩
    refine List.Pairwise.imp_of_mem (R:=fun _ _=>True) (fun {x y} hx hy _=>by rw[gS x hx,gS y hy];exact zf _) ?_
    exact List.pairwise_of_forall fun _ _=>trivial)
  have kD:=cC s ij
  have E6:=(A3 s.rs j).1
  have AK:(b8 ss).take (s.first+j)=b8 a++s.rs.take j:=by
   rw[AH,List.take_append,acI (by omega),aek (by omega),show s.first+j-(b8 a).length=j by omega]
  have qN:j<s.rs.length->n<=s.first+j:=fun hj=>by
   have h1:=hq s ij
   have h2:=Nv s.rs (a:=min (n-s.first) s.rs.length) (b:=n-s.first) (Nat.min_le_left _ _)
   have:=j4 (min (n-s.first) s.rs.length) (Nat.min_le_right _ _) (by omega)
   omega
  have TJ:∀ t∈r,bU (t.first:Nat)≠bU (s.first:Nat):=fun t ht q=>by
   have:=iQ.nd
   rw[eM,abz,abc,acd,ab0] at this
   exact this.2.1.1 (q▸abn.2 ⟨t,ht,rfl⟩)
  have aaZ:∀ t∈s::r,∀ u∈a,bU (t.first:Nat)≠bU (u.first:Nat):=fun t ht u hu q=>by
   have:=iQ.nd
   rw[eM,abz,acd] at this
   exact this.2.2 _ (abn.2 ⟨u,hu,rfl⟩) _ (abn.2 ⟨t,ht,rfl⟩) q.symm
  have hz:∀ (l:List Sm) (z:Int),z∈(l.map fun s=>((s.first:Nat):Int)).reverse->∃ t∈l,z=((t.first:Nat):Int):=fun l z hz=>by
   obtain⟨t,ht,rfl⟩:=abn.1 (aho.1 hz)
   exact⟨t,ht,rfl⟩
  have x0:∀ q∈m.parts++[(((s.first:Nat):Int),(((fb (s.rs.take j)).length:Nat):Int))],(∃ t∈a++[s],q.1=(t.first:Nat))/\0<=q.2/\q.2<=1000:=fun q hq=>by
   rcases aac.1 hq with hq | hq
   ·obtain⟨⟨t,h1,h2⟩,h3⟩:=hp q hq
    exact⟨⟨t,aaz _ h1,h2⟩,h3⟩
   ·rw[yX] at hq
    subst hq
    exact⟨⟨s,by simp,rfl⟩,by simp only;omega,by simp only;omega⟩
  have Lj:(m.parts++[(((s.first:Nat):Int),(((fb (s.rs.take j)).length:Nat):Int))]).length<=ss.length:=by
   rw[eM];simp;omega
  rw[abc,jL,if_neg (by rw[hE];exact fun q=>q rfl),if_neg (by rw[hm,e0];decide),adN,BK,j2]
  simp only
  by_cases hc:(fb (s.rs.take j)).length<((fb s.rs).take k).length
  ·rw[if_pos hc]
   obtain⟨d1,d2,d3⟩:=Tn ((r.map fun s=>((s.first:Nat):Int)).reverse) m.m (hm▸iQ.off) (hm▸iQ.cq)
   have IX:=d3 (bU (s.first:Nat)) fun z eF=>by obtain⟨t,ht,rfl⟩:=hz r z eF;exact TJ t ht
   rw[hm,g1] at IX
   have Nl:∀ u∈a++[s],cS.cw (kF ((r.map fun s=>((s.first:Nat):Int)).reverse) m.m) (bU (u.first:Nat))=0:=fun u hu=>by
    have:=d3 (bU (u.first:Nat)) fun z eF=>by
     obtain⟨t,ht,rfl⟩:=hz r z eF
     rcases aac.1 hu with hu | hu
     ·exact aaZ t (.tail _ ht) u hu
     ·rw[yX] at hu;subst hu;exact TJ t ht
    rw[JO (m:=m0) (d1.trans iQ.off.symm) (by rw[this,hm])]
    refine iQ.cw ?_
    rw[eM]
    rcases aac.1 hu with hu | hu
    ·exact aaz _ hu
    ·rw[yX] at hu;subst hu;simp
   rw[hm] at d1 d2 Nl ⊢
   generalize kF ((r.map fun s=>((s.first:Nat):Int)).reverse) m0=m1 at *
   obtain⟨f1,f2⟩:=Iz d2
   have hcut:gT m1 (bU (s.first:Nat)) (((fb (s.rs.take j)).length:Nat):Int)=(0,{ m1 with fs:=fM (bU (s.first:Nat)) ⟨g.nm,g.b.take (((fb (s.rs.take j)).length:Nat):Int).toNat,min g.sure (((fb (s.rs.take j)).length:Nat):Int).toNat⟩ m1.fs }):=by
    unfold gT
    rw[if_neg (by rw[Nl s (by simp)];decide),IX]
    simp only
    rw[if_neg (by rw[g3];omega),if_neg (by rw[f1];decide),f2]
   have hgn:g.nm=bU (s.first:Nat):=by
    unfold cS.look at g1
    simpa using List.find?_some g1
   rw[hcut]
   refine⟨rfl,hf,rfl,⟨s.first+j,?_,?_⟩,d1,d2,fun q py => ?_,Lj⟩
   ·refine qN ?_
    rcases agB j s.rs.length with h | h
    ·exact h
    ·rw[acI h] at hc
     rw[abN] at hc
     omega
   ·rw[AK]
    show m.ab++_=_
    rw[ly]
   ·obtain⟨⟨t,h1,h2⟩,h3⟩:=x0 q py
    refine⟨?_,⟨t,?_,h2⟩,h3⟩
    ·have hx:=Nl t h1
     rw[<-h2] at hx
     exact ZO (m:=m1) (g:=⟨g.nm,g.b.take (((fb (s.rs.take j)).length:Nat):Int).toNat,min g.sure (((fb (s.rs.take j)).length:Nat):Int).toNat⟩) hgn rfl rfl hx
    ·rw[eM]
     rcases aac.1 h1 with hu | hu
     ·exact aaz _ hu
     ·rw[yX] at hu;subst hu;simp
  ·rw[if_neg hc]
   by_cases hj:j=s.rs.length
   ·subst hj
    have hA:ss=(a++[s])++r:=by rw[eM];simp
    rw[aia] at x0 Lj ⊢
    exact Y0 c hR hl hq hn cC iQ r (a++[s]) { m with parts:=m.parts++[(((s.first:Nat):Int),(((fb s.rs).length:Nat):Int))],ab:=m.ab++s.rs } hA hm (by
     show m.ab++s.rs=_
     rw[ly,rn,D1];simp[b8]) hf (by simp;omega) x0
   ·have gG:j<s.rs.length:=by omega
    cases r with
    | nil=>
     rw[ag6,jL]
     refine⟨rfl,hf,rfl,⟨s.first+j,qN gG,?_⟩,?_,?_,fun q py => ?_,Lj⟩
     ·rw[AK];show m.ab++_=_;rw[ly]
     ·show m.m.off=false;rw[hm];exact iQ.off
     ·show m.m.cq=0;rw[hm];exact iQ.cq
     ·obtain⟨⟨t,h1,h2⟩,h3⟩:=x0 q py
      have ht:t∈ss:=by rw[eM];exact h1
      refine⟨?_,⟨t,ht,h2⟩,h3⟩
      show cS.cw m.m _=0
      rw[hm,h2]
      exact iQ.cw ht
    | cons t r=>
     have ht:t.first=(b8 (a++[s])).length:=by
      have:=MI (a++[s]) 0 t r (by rw[adf];exact eM▸c)
      omega
     rw[rn,D1] at ht
     have Ja:t.first=(b8 a).length+s.rs.length:=by rw[ht];simp[b8]
     rw[abc,jL,if_pos (by
      unfold cJ
      simp only[hf,ly,aaO,abN]
      omega)]
     obtain⟨d1,d2,d3⟩:=Tn ((((t.first:Nat):Int)::r.map fun s=>((s.first:Nat):Int)).reverse) m.m (hm▸iQ.off) (hm▸iQ.cq)
     refine⟨rfl,hf,rfl,⟨s.first+j,qN gG,?_⟩,d1,d2,fun q py => ?_,Lj⟩
     ·rw[AK];show m.ab++_=_;rw[ly]
     ·obtain⟨⟨u,h1,h2⟩,h3⟩:=x0 q py
      have hu:u∈ss:=by
       rw[eM]
       rcases aac.1 h1 with hu | hu
       ·exact aaz _ hu
       ·rw[yX] at hu;subst hu;simp
      refine⟨?_,⟨u,hu,h2⟩,h3⟩
      show cS.cw (kF _ m.m) _=0
      have:=d3 (bU (u.first:Nat)) fun z eF=>by
       obtain⟨y,hy,rfl⟩:=hz (t::r) z eF
       rcases aac.1 h1 with hu | hu
       ·exact aaZ y (.tail _ hy) u hu
       ·rw[yX] at hu;subst hu;exact TJ y hy
      rw[h2,JO (m:=m0) (d1.trans iQ.off.symm) (by rw[this,hm])]
      exact iQ.cw hu
end Go.Proofs.YtbdlbhlhnpblpaaGreatDoor.kf
