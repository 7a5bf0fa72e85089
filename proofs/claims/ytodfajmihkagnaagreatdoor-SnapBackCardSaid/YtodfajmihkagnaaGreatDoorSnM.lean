/- Laws that the proof uses. -/
import Derived.Test.YtodfajmihkagnaaGreatDoorSnA
set_option linter.unusedVariables false
set_option linter.unusedSimpArgs false
set_option maxRecDepth 100000
set_option maxHeartbeats 4000000
namespace Go.Proofs.YtodfajmihkagnaaGreatDoor.bD
open Go Am Am.K lD na kJ pf
theorem aht {f g:Fm}(hf:okM f)(hg:okM g){a b:Nat}(ha:a<=17592186044415)(hb:b<=17592186044415){X Y:Str}(h:nZ f a++X=nZ g b++Y):iv f=iv g/\a=b/\X=Y:=by unfold nZ at h;rw[abr,abr] at h;have h1:=Hi (n:=2*a) zzz (Az f++X);rw[h,Hi (n:=2*b) zzz] at h1;have e1:2*b=2*a:=congrArg (·.1) h1;have e2:Az g++Y=Az f++X:=congrArg (·.2.1) h1;have h2:=ZV hf X;rw[<-e2,ZV hg] at h2;exact⟨(congrArg (·.1) h2).symm,zzz,(congrArg (·.2.1) h2).symm⟩
theorem aoP:∀(l:List (Str×Str)) (f f':Fm),jz f l=some f'->(f.aM.map (·.1)).Nodup->(f'.aM.map (·.1)).Nodup
 |[],f,f',h,hn=>by cases h;exact hn
 |x::r,f,f',h,hn=>by
  unfold jz at h;split at h
  ·rename_i hc;refine aoP r _ _ h ?_;have h2:=hc.2.2;unfold mH at h2⊢;split at h2;·cases h2
   ·rename_i n1;rw[zz1 n1];split at h2;·rename_i n2;exact absurd h2 n2
    ·rename_i n2;rw[zz1 n2];split at h2;·cases h2
     ·rename_i n3;rw[zz1 n3];show (List.map (λy:Str×Str=>y.1) (f.aM++[(x.1,_)])).Nodup;rw[acY,aeg];refine⟨hn,zzy,λu hu v hv e=>?_⟩;simp only[aby,ajn,No] at hv;subst hv;obtain⟨y,hy,rfl⟩:=abT.1 hu;exact absurd e (HV (by simpa using n1) y hy)
  ·cases h
theorem asF {S:SS}{f:Fm}(h:nP S=some f):(f.aM.map (·.1)).Nodup:=by
 unfold nP at h;cases oZ:qT S with
 |true=>rw[oZ] at h;cases h
 |false=>
  rw[oZ] at h;have h':((jz {pL with ck:=S.ck} (S.nms.zip S.aM)).bind λf=>(lQ f (S.rs.zip S.fF)).bind λf=>nM f S.ks)=some f:=h;obtain⟨f1,h1,h'⟩:=aaV.1 h';obtain⟨f2,h2,h3⟩:=aaV.1 h';obtain⟨_,_,_,b4,_⟩:=NL _ _ _ h2;obtain⟨_,_,c3,_,_⟩:=TU _ _ _ h3;rw[c3,b4];exact aoP _ _ _ h1 amN
theorem abn {b:Str}(hb:bB b){r:Fm×Nat}(h:lf b=some r):okM r.1/\cq r.1 r.2=b/\r.2<=17592186044415:=by
 unfold lf at h;split at h;·cases h
 ·split at h;·cases h
  ·rename_i f hf;split at h;·rename_i z;cases h;obtain⟨k1,k2,k3⟩:=ahG (aY (b.take (b.length-4)) false).2 (IV (s:=(b.take (b.length-4),false)) λc hc=>hb c (alp hc));exact⟨aem hf (asF hf) k2 k1 k3,z.2.2,by show (rR b).toNat<=_;have:=z.2.1;omega⟩
   ·cases h
section
variable {f:Fm}(hf:okM f){off:Nat}(ho:off<=17592186044415) include hf ho
theorem az2 {n:Nat}(hn:n<(cq f off).length):lf ((cq f off).take n)=none:=by
 cases h:lf ((cq f off).take n) with
 |none=>rfl|some r=>
  obtain⟨g1,g2,g3⟩:=abn (λc hc=>Hu hf off c (alp hc)) h;have e:cq f off=cq r.1 r.2++(cq f off).drop n:=by rw[g2,ajx]
  have hl:((cq f off).drop n).length=(cq f off).length-n:=aeF;unfold cq at e;rw[abr] at e;obtain⟨_,_,z⟩:=aht hf g1 ho g3 e;have:=congrArg List.length z;rw[aal,BY,BY] at this;unfold cq at hl hn;omega
theorem aHf {t:Nat}(ht:t<256):lf (cq f off++[t])=none:=by
 cases h:lf (cq f off++[t]) with
 |none=>rfl|some r=>
  obtain⟨g1,g2,g3⟩:=abn (oK (Hu hf off) λc hc=>by rw[No] at hc;omega) h;unfold cq at g2;rw[abr] at g2;obtain⟨_,_,z⟩:=aht g1 hf g3 ho g2;have:=congrArg List.length z;rw[aal,BY,BY] at this;simp at this
end
theorem WH:∀(b:Str) (s:Nat×Nat),s.1<65521->(b.foldl sj s).1=(s.1+b.sum)%65521
 |[],s,h=>by rw[List.sum_nil,aed,ahr h];rfl
 |v::b,s,h=>by rw[List.foldl_cons,WH b (sj s v) (aax s v).1,al8];unfold sj;simp only;omega
theorem an8:∀(b:Str) (i v t:Nat),b[i]?=some v->(b.set i t).sum+v=b.sum+t
 |[],i,v,t,h=>by simp at h
 |a::b,0,v,t,h=>by simp only[ada,acD] at h;subst h;simp only[List.set_cons_zero,al8];omega
 |a::b,i+1,v,t,h=>by simp only[acJ] at h;have:=an8 b i v t h;simp only[List.set_cons_succ,al8];omega
theorem asC {v w:Nat}(hv:v<2^32)(hw:w<2^32)(h:yJ v=yJ w):v=w:=by unfold yJ at h;simp only[List.cons_append,afP,List.cons.injEq,and_true] at h;obtain⟨a,b,c,d⟩:=h;omega
theorem ais (b:Str):zB b<2^32:=by have:=Sq b;unfold zB;omega
theorem aHO {b:Str}(hb:bB b){i v t:Nat}(h:b[i]?=some v)(ht:t<256)(aF:v≠t):zB (b.set i t)≠zB b:=by intro e;have h1:=WH b (1,0) zzx;have h2:=WH (b.set i t) (1,0) zzx;have h3:=an8 b i v t h;have hv:=hb v (aac h);have a:=Sq b;have c:=Sq (b.set i t);unfold zB at e;unfold JB at e a c;simp only at h1 h2;omega
theorem asi {f:Fm}(hf:okM f){off:Nat}(ho:off<=17592186044415){i v t:Nat}(hv:(cq f off)[i]?=some v)(ht:t<256)(aF:v≠t):lf ((cq f off).set i t)=none:=by
 cases h:lf ((cq f off).set i t) with
 |none=>rfl|some r=>
  have hb:=Hu hf off;obtain⟨g1,g2,g3⟩:=abn (λc hc=>(adt hc).elim (hb c) λq=>zzz) h;have hl:(cq r.1 r.2).length=(cq f off).length:=by rw[g2,acV]
  unfold cq at hl;rw[aal,aal,BY,BY] at hl;have aIE:(cq f off).set i t≠cq f off:=by intro q;have aV:=(aag.1 hv).1;have:((cq f off).set i t)[i]?=some t:=aeH aV;rw[q,hv] at this;exact aF (acd this)
  rcases alV i (nZ f off).length with q|q
  ·have e:cq r.1 r.2=(nZ f off).set i t++yJ (zB (nZ f off)):=by rw[g2];unfold cq;rw[List.set_append_left _ _ q]
   unfold cq at e;obtain⟨e1,e2⟩:=List.append_inj e (by rw[acV];omega);rw[e1] at e2;have bQ:(nZ f off)[i]?=some v:=by unfold cq at hv;rw[abd q] at hv;exact hv
   exact absurd (asC (ais _) (ais _) e2) (aHO (Xl hf off) bQ ht aF)
  ·have e:cq r.1 r.2=nZ f off++(yJ (zB (nZ f off))).set (i-(nZ f off).length) t:=by rw[g2];unfold cq;rw[amh _ _ q]
   unfold cq at e;obtain⟨e1,_⟩:=List.append_inj e zzz;refine absurd ?_ aIE;rw[<-g2];unfold cq;rw[e1]
theorem GW {m:Nat}{f:K.Fn m->R}{k:K.Fn m}{C:R->Prop}(T:K.Fn m->Prop)(hk:T k)(hf:∀t,T t->C (f t)):C (JN m f k):=hf k hk
def rO (x:R):Prop:=∃H',x=some (.bool true,H')
theorem amX {x y c1 c2 c3 c4:AV}{l:List Ev}{H:Hp}(hl:l.length<=1000)(hx:RL H 8 x (np l)):∀(r:List Ev) (i:Nat),i<=l.length->l.drop i=r->
  (∀rC:K.Fn 6,Qr JN GO cK rC x y c1 c2 c3 c4 (zi (i:Nat)) H=some (.bool true,H))\/∀rC:K.Fn 6,Qr JN GO cK rC x y c1 c2 c3 c4 (zi (i:Nat)) H=rC x y c1 c2 c3 c4 H
 |[],i,hi,h=>by obtain rfl:=drop_nil hi h;have dO:=yf hx;refine .inr λrC=>?_;rw[WR];simp only[Rc,dO,df,zz0,simprocAttr]
 |e::r,i,hi,h=>by
  obtain⟨h1,h2,h3⟩:=dU h;have es:=dC h1 zzz;have dO:=yf hx;obtain⟨m,o,q1,q2,q3,q4,q5⟩:=hx.at zzx (DE h2);have c7:cellAt H m (o+7)=some (.str e.dt):=q5 7 _ rfl;by_cases hh:950<e.dt.length;·have d1:decide ((950:Int)<((e.dt.length:Nat):Int))=true:=zz3 zzz;refine .inl λrC=>?_;rw[WR];simp(disch:=try exact zqz)only[Rc,dO,aN h1,q1,c7,d1,ar,aq,zz0,simprocAttr]
  have d1:decide ((950:Int)<((e.dt.length:Nat):Int))=false:=zz4 zzz;refine (amX (y:=y) (c1:=c1) (c2:=c2) (c3:=c3) (c4:=c4) hl hx r (i+1) h1 h3).imp (λi1 rC=>?_) λi1 rC=>?_
  all_goals
   rw[WR];simp(disch:=try exact zqz)only[Rc,dO,aN h1,q1,c7,d1,es,i1,ar,aq,zz0,simprocAttr]
theorem ajF {x:AV}{p q:Nat}{l:List Ev}(hl:l.length<=1000):∀(r:List Ev) (i:Nat) (H:Hp) (a b:FA) (f:Fm),i<=l.length->l.drop i=r->RL H 8 x (np l)->(∀j∈ak x,j∉own p a/\j∉own q b)->FL H p a f->FL H q b f->CG p q a b->FI f->Gl H->
  (∃H',∀uO:K.Fn 0,SN JN GO cK uO x (.ptr p 0) (.ptr q 0) (zi (i:Nat)) H=some (.bool true,H'))\/
  ∃H',∀uO:K.Fn 0,SN JN GO cK uO x (.ptr p 0) (.ptr q 0) (zi (i:Nat)) H=uO H'
 |[],i,H,a,b,f,hi,h,hx,hd,hP,hQ,hA,hI,hg=>by obtain rfl:=drop_nil hi h;have dO:=yf hx;refine .inr ⟨H,λuO=>?_⟩;rw[Zc];simp only[Q7,dO,df,zz0,simprocAttr]
 |e::r,i,H,a,b,f,hi,h,hx,hd,hP,hQ,hA,hI,hg=>by
  obtain⟨h1,h2,h3⟩:=dU h;have es:=dC h1 zzz;have dO:=yf hx;obtain⟨m,o,q1,q2,q3,q4,q5⟩:=hx.at zzx (DE h2);have c7:cellAt H m (o+7)=some (.str e.dt):=q5 7 _ rfl;by_cases hh:950<e.dt.length;·have d1:decide ((950:Int)<((e.dt.length:Nat):Int))=true:=zz3 zzz;refine .inl ⟨H,λuO=>?_⟩;rw[Zc];simp(disch:=try exact zqz)only[Q7,dO,aN h1,q1,c7,d1,ar,aq,zz0,simprocAttr]
  have d1:decide ((950:Int)<((e.dt.length:Nat):Int))=false:=zz4 zzz;have dA:=hx.1.lt;obtain⟨a',H2,w1,w2,w3⟩:=Kx hP hg hI.ok e;have mI:=hx.out w3.o λj hj z=>(hd j hj).1 z;have hQ2:FL H2 q b f:=hQ.out w3.o (λj hj z=>hA.o j z hj) λj hj z=>hA.i j z hj;have jP:=hg.out w3.o hP.lo;have bq:=hA.step w3 hQ.lt λj hj=>(hQ.dL j hj).2;obtain⟨m2,o2,r1,r2,r3,r4,r5⟩:=mI.at zzx (DE h2);cases (q1 .i64).symm.trans (r1 .i64);obtain⟨b',H3,y1,y2,y3⟩:=Kx hQ2 jP hI.ok e;have Ue:=mI.out y3.o λj hj z=>(hd j hj).2 z;have DD:FL H3 p a' (qu f e).1:=w2.out y3.o (λj hj z=>bq.o j hj z) λj hj z=>bq.k j z hj;have iB:=(bq.symm.step y3 w2.lt λj hj=>(w2.dL j hj).2).symm;obtain⟨H4,z1,z2⟩:=PI DD y2 (HL hI e).sz (HL hI e).sz;rw[Q0] at z1;have bne:((qu f e).2 != (qu f e).2)=false:=zzy;have iN:=w3.o.1;have DP:=y3.o.1;have hs:same (.agg (aQ e)) (.agg (aQ e))=true:=by simp[same,aQ,vi,qP]
  have UZ:∀j∈ak x,j∉own p a'/\j∉own q b':=λj hj=>⟨λz=>(w3.w j z).elim (hd j hj).1 λz=>by have:=dA j hj;omega,λz=>(y3.w j z).elim (hd j hj).2 λz=>by have:=dA j hj;omega⟩;refine (ajF hl r (i+1) H4 a' b' (qu f e).1 h1 h3 (Ue.au z2) UZ (DD.au z2) (y2.au z2) iB (HL hI e) ((jP.out y3.o hQ.lo).au z2)).imp (λ⟨H',i1⟩=>⟨H',λuO=>?_⟩) λ⟨H',i1⟩=>⟨H',λuO=>?_⟩
  all_goals
   rw[Zc];simp(disch:=try exact zqz)only[Q7,dO,aN h1,q1,c7,d1,q4,w1,r4,y1,bne,z1,eG hs,es,i1,ar,aq,zz0,simprocAttr]
theorem get_none {H:Hp}{x:AV}{b:Str}(hx:Rw H 1 x (bs b))(hb:bB b)(hg:Gl H)(hn:11<=H.next)(h:lf b=none):∃H',cK (zf 27) [x] H=some (.tuple [.da,zi 0,zi 2],H')/\Out [] H H':=by obtain⟨_,_,H',g1,g2,_⟩:=PT hx hb hg hn;rw[h] at g1;exact⟨H',g1,g2⟩
theorem aFN {l:Str}{i v:Nat}(h:l[i]?=some v):(bs l)[i]?=some (.int .u8 (v:Nat)):=by unfold bs;rw[ab9,h];rfl
theorem ajK (l:Str):(l.map λv:Nat=>[AV.int .u8 (v:Int)]).flatten=bs l:=acU (λv:Nat=>AV.int .u8 (v:Int)) l
theorem aIu {x y:AV}{l m:List Ev}{off cut at':Int}{t:Nat}{H:Hp}(hx:RL H 8 x (np l))(hb:∀e∈l,Gc e)(hy:RL H 8 y (np m))(ht:t<256)(hT:CQ H qg)(kD:11<=H.next):rO (cK (zf 7) [x,y,zi off,zi cut,zi at',.int .u8 (t:Nat)] H):=by
 obtain⟨H1,a1,a2⟩:=am1 (Gl.of hT kD) kD;have n1:=a2.1;have kB:=hx.au a2;have hy1:=hy.au a2;have qC:=(Gl.of hT kD).au a2;have lx:=yf kB;have ly:=yf hy1
 suffices rO (Zw JN GO cK x y (zi off) (zi cut) (zi at') (.int .u8 (t:Nat)) H) by obtain⟨H',h⟩:=this;exact⟨H',axN h⟩
 unfold Zw;simp only[a1,QW,YS,Ry,ak8,PG];by_cases h1:l.length<=40
 rotate_left
 ·have d1:decide ((40:Int)<((l.length:Nat):Int))=true:=zz3 zzz;refine⟨H1,?_⟩;simp(disch:=try exact zqz)only[lx,d1,ar,aq,zz0,simprocAttr]
 have d1:decide ((40:Int)<((l.length:Nat):Int))=false:=zz4 zzz;by_cases h2:m.length<=20
 rotate_left
 ·have d2:decide ((20:Int)<((m.length:Nat):Int))=true:=zz3 zzz;refine⟨H1,?_⟩;simp(disch:=try exact zqz)only[lx,d1,ly,d2,ar,aq,zz0,simprocAttr]
 have d2:decide ((20:Int)<((m.length:Nat):Int))=false:=zz4 zzz;by_cases h3:off<0;·have d3:decide (off<0)=true:=zz3 h3;refine⟨H1,?_⟩;simp(disch:=try exact zqz)only[lx,d1,ly,d2,d3,ar,aq,zz0,simprocAttr]
 have d3:decide (off<0)=false:=zz4 h3;by_cases h4:17592186044415<off;·have d4:decide ((17592186044415:Int)<off)=true:=zz3 h4;refine⟨H1,?_⟩;simp(disch:=try exact zqz)only[lx,d1,ly,d2,d3,d4,ar,aq,zz0,simprocAttr]
 have d4:decide ((17592186044415:Int)<off)=false:=zz4 h4;obtain⟨n,rfl⟩:∃n:Nat,off=n:=⟨off.toNat,zzz⟩;refine GW (C:=rO) (λj=>rO (j x y (zi (n:Nat)) (zi cut) (zi at') (.int .u8 (t:Nat)) H1)) ?_ λj hj=>?_
 rotate_left
 ·simp(disch:=try exact zqz)only[lx,d1,ly,d2,d3,d4,ar,aq,zz0,simprocAttr];exact hj
 refine GW (C:=rO) (λj=>rO (j x y (zi (n:Nat)) (zi cut) (zi at') (.int .u8 (t:Nat)) H1)) ?_ λj hj=>?_
 rotate_left
 ·rcases amX (y:=y) (c1:=zi (n:Nat)) (c2:=zi cut) (c3:=zi at') (c4:=.int .u8 (t:Nat)) zzz kB l 0 (aa7 _) aaY with i1|i1;·rw[show (((0:Nat):Int))=0 from rfl] at i1;refine⟨H1,?_⟩;simp(disch:=try exact zqz)only[i1,zz0,simprocAttr]
  ·rw[show (((0:Nat):Int))=0 from rfl] at i1;simp(disch:=try exact zqz)only[i1,zz0,simprocAttr];exact hj
 obtain⟨p,a,H2,m1,m2,m3,m4,m5⟩:=TZ zzz kB qC zzz;have n2:=m3.1;have hI:FI (allM vQ l):=X8 Hl;have hB:FB (allM vQ l):=Xg Zq λe he=>(hb e he).b;have ir:=YD hI hB;generalize allM vQ l=f at*
 obtain⟨z,H3,v1,v2,v3,v4⟩:=R4 m2 ir (off:=n) zzz;have n3:=v3.1;have NP:=Hu ir n;have gR:=amn ir (off:=n) zzz;obtain⟨q,b,H4,g1,g2,g3⟩:=PT v2.rw NP ((qC.au m3).au v3) zzz;have hr:=aaw ir (acB hI) (off:=n) zzz;rw[hr] at g1;simp only at g1;obtain⟨w1,_,w3,w4⟩:=g3 _ hr;have n4:=g2.1;simp only[m1,QW,v1];refine GW (C:=rO) (λj=>rO (j y (zi (n:Nat)) (zi cut) (zi at') (.int .u8 (t:Nat)) (.ptr p 0) z (.ptr q 0) (zi (n:Nat)) (zi 0) H4)) ?_ λj hj=>?_
 rotate_left
 ·simp(disch:=try exact zqz)only[g1,ar,aq,zz0,simprocAttr];exact hj
 have FU:FL H4 p a f:=(m2.au v3).au g2;obtain⟨H5,t1,t2⟩:=PI FU w1 hI.sz hI.sz;rw[Q0] at t1;have n5:=t2.1;have Uf:=(v2.rw.au g2).au t2;have lz4:=(v2.rw.au g2).gu;have lz:=Uf.gu;rw[jY] at lz lz4;refine GW (C:=rO) (λj=>rO (j y (zi cut) (zi at') (.int .u8 (t:Nat)) (.ptr p 0) z (.ptr q 0) H5)) ?_ λj hj=>?_
 rotate_left
 ·have RS:(((n:Nat):Int) != ((n:Nat):Int))=false:=zzy;have d6:((((cq f n).length:Nat):Int)==0)=false:=by simp;intro h;rw[h] at gR;simp at gR
  have d7:decide ((1048576:Int)<(((cq f n).length:Nat):Int))=false:=zz4 zzz;simp(disch:=try exact zqz)only[RS,t1,lz,d6,d7,ar,aq,zz0,simprocAttr];exact hj
 have Jh:Gl H5:=(((qC.au m3).au v3).au g2).au t2;refine GW (C:=rO) (λj=>∀H',Out [] H5 H'->rO (j y (zi at') (.int .u8 (t:Nat)) (.ptr p 0) z (.ptr q 0) H')) ?_ λj hj=>?_
 rotate_left
 ·by_cases c0:0<=cut
  rotate_left
  ·have e0:decide ((0:Int)<=cut)=false:=zz4 c0;simp(disch:=try exact zqz)only[e0,ar,aq,zz0,simprocAttr];exact hj H5 (Out.refl _ _)
  have e0:decide ((0:Int)<=cut)=true:=zz3 c0;obtain⟨c,rfl⟩:∃c:Nat,cut=c:=⟨cut.toNat,zzz⟩;by_cases c1:c<(cq f n).length
  rotate_left
  ·have e1:decide (((c:Nat):Int)<(((cq f n).length:Nat):Int))=false:=zz4 zzz;simp(disch:=try exact zqz)only[e0,lz,e1,ar,aq,zz0,simprocAttr];exact hj H5 (Out.refl _ _)
  have e1:decide (((c:Nat):Int)<(((cq f n).length:Nat):Int))=true:=zz3 zzz;obtain⟨u,u1,u2,u3⟩:=yD (n:=(cq f n).length) Uf (by rw[jY,adM]) zzx (a:=0) (b:=c) (lo:=none) (hi:=some (zi ((c:Nat):Int))) (aa7 _) zzz (Bd.no 0) (Bd.yes _ _ _);have e2:((bs (cq f n)).drop (0*1)).take ((c-0)*1)=bs ((cq f n).take c):=by rw[ag0,aaY,adM,agA];unfold bs;rw[List.map_take]
  rw[e2] at u2;obtain⟨H6,k1,k2⟩:=get_none u2 (λv hv=>NP v (alp hv)) Jh zzz (az2 ir zzz c1);simp(disch:=try exact zqz)only[e0,lz,e1,u1,k1,ar,aq,zz0,simprocAttr];exact hj H6 k2
 intro H6 o6;have hz6:=Uf.au o6;have MH:=Jh.au o6;have n6:=o6.1;obtain⟨s1,H7,b1,b2,b3,b4⟩:=He (el:=5) (el2:=5) (z:=[(.int .u8 0)]) hz6 (XW _) zzx (by rw[jY];omega);have n7:=b3.1;obtain⟨s2,H8,p1,p2,p3,p4,p5⟩:=vf (el2:=5) (z:=[(.int .u8 0)]) (vs:=[.int .u8 (t:Nat)]) b2 rfl rfl zzx (by rw[jY];simp;omega);have n8:=p3.1;have fI:=p1 H7.next rfl;have o8:Out [] H6 H8:=eR b3 p3 b4;have e8:bs (cq f n)++[.int .u8 (t:Nat)]=bs (cq f n++[t]):=by rw[Tz];rfl
 rw[e8] at p2;obtain⟨H9,k1,k2⟩:=get_none p2.rw (oK NP λc hc=>by rw[No] at hc;omega) (MH.au o8) zzz (aHf ir zzz ht);have SY:az H6 [] 5 0=some (H6.next,al H6 [] 5 0):=eh zzy;have f7:fl [(.int .u8 0)] [(0,1,.int .u8 (t:Nat))]=some [.int .u8 (t:Nat)]:=rfl;have aCq:az H7 [.int .u8 (t:Nat)] 5 0=some (H7.next,al H7 [.int .u8 (t:Nat)] 5 0):=eh zzy;refine GW (C:=rO) (λj=>rO (j y (zi at') (.int .u8 (t:Nat)) (.ptr p 0) z (.ptr q 0) (zi 2) H9)) ?_ λj hj=>?_
 rotate_left
 ·simp(disch:=try exact zqz)only[pz,SY,b1,f7,aCq,fI,k1,ar,aq,zz0,simprocAttr];exact hj
 have o9:=(o6.trans o8).trans k2;have Ye:=Uf.au o9;have hg9:=Jh.au o9;have n9:=o9.1;have QG:=Ye.gu;rw[jY] at QG;have i2:((2:Int) != 2)=false:=rfl;simp only[abc,Ry,i2,PG];refine GW (C:=rO) (λj=>∀H',Out [] H5 H'->rO (j y (.ptr p 0) (.ptr q 0) H')) ?_ λj hj=>?_
 ·intro H' o';have rz:∀j∈bD.dL a,j<H2.next:=λj hj=>(m2.dL j hj).2;have ym:=m2.lt;have hA:CG p q a b:=⟨λj hj z=>by have:=ym j hj;have:=w3 j z;omega,λj hj z=>by have:=ym j hj;have:=w4 j z;omega,λj hj z=>by have:=rz j z;have:=w3 j hj;omega⟩;have oy:Out [] H1 H':=(((m3.trans v3).trans g2).trans t2).trans o';have yC:=hy1.1.lt;rcases ajF zzz m 0 H' a b f (aa7 _) aaY (hy1.au oy) (λj hj=>⟨λz=>by have:=yC j hj;have:=m4 j z;omega,λz=>by have:=yC j hj;have:=w3 j z;omega⟩) ((FU.au t2).au o') ((w1.au t2).au o') hA hI (Jh.au o') with⟨H'',i1⟩|⟨H'',i1⟩
  all_goals
   rw[show (((0:Nat):Int))=0 from rfl] at i1;refine⟨H'',?_⟩;simp(disch:=try exact zqz)only[i1,zz0,simprocAttr]
 ·by_cases c0:0<=at'
  rotate_left
  ·have e0:decide ((0:Int)<=at')=false:=zz4 c0;simp(disch:=try exact zqz)only[e0,ar,aq,zz0,simprocAttr];exact hj H9 o9
  have e0:decide ((0:Int)<=at')=true:=zz3 c0;obtain⟨c,rfl⟩:∃c:Nat,at'=c:=⟨at'.toNat,zzz⟩;by_cases c1:c<(cq f n).length
  rotate_left
  ·have e1:decide (((c:Nat):Int)<(((cq f n).length:Nat):Int))=false:=zz4 zzz;simp(disch:=try exact zqz)only[e0,QG,e1,ar,aq,zz0,simprocAttr];exact hj H9 o9
  have e1:decide (((c:Nat):Int)<(((cq f n).length:Nat):Int))=true:=zz3 zzz;obtain⟨v,hv⟩:∃v,(cq f n)[c]?=some v:=⟨_,aaC c1⟩;obtain⟨pt,q1,q2⟩:=Ye.fW (aFN hv) .i64;by_cases hvt:v=t
  ·have e2:(((v:Nat):Int) != ((t:Nat):Int))=false:=by simp[hvt]
   simp(disch:=try exact zqz)only[e0,QG,e1,q1,q2,e2,ar,aq,zz0,simprocAttr];exact hj H9 o9
  have e2:(((v:Nat):Int) != ((t:Nat):Int))=true:=by simp;omega
  obtain⟨s3,kW,b1,b2,b3,b4⟩:=He (el:=5) (el2:=5) (z:=[(.int .u8 0)]) Ye (XW _) zzx (by rw[jY];omega);have n10:=b3.1;have azE:az H9 [] 5 0=some (H9.next,al H9 [] 5 0):=eh zzy;have ol:OL kW 5 1 s3 ((cq f n).map λv:Nat=>[AV.int .u8 (v:Int)]):=⟨by rw[ajK];exact b2,λc hc=>by obtain⟨_,_,rfl⟩:=abT.1 hc;rfl⟩;obtain⟨bb',oo,r1,r2,r3,r4,r5⟩:=ol.rl.at zzx (i:=c) (c:=[.int .u8 (v:Nat)]) (by rw[ab9,hv];rfl);obtain⟨Dq,x1,x2,x3,x4⟩:=ol.ff (k:=0) (v:=.int .u8 (t:Nat)) (by rw[ab9,hv];rfl) r1 rfl zzx;have x1':st 1 (.ptr bb' oo) (.int .u8 (t:Nat)) kW=some Dq:=x1;have es:(((cq f n).map λv:Nat=>[AV.int .u8 (v:Int)]).set c ([AV.int .u8 (v:Nat)].set 0 (.int .u8 (t:Nat))))=((cq f n).set c t).map λv:Nat=>[AV.int .u8 (v:Int)]:=by rw[List.map_set];rfl
  rw[es] at x2;have mI:=x2.1.rw;rw[ajK] at mI;have WI:Out [] H9 Dq:=eR b3 x3 b4;obtain⟨Ut,k1,k2⟩:=get_none mI (λu hu=>(adt hu).elim (NP u) λz=>zzz) (hg9.au WI) (by have:=WI.1;omega) (asi ir zzz hv ht hvt);simp(disch:=try exact zqz)only[e0,QG,e1,q1,q2,e2,pz,azE,b1,r1,x1',k1,ar,aq,zz0,simprocAttr];exact hj Ut ((o9.trans WI).trans k2)
theorem asc {H:Hp}{as':List AV}{ds:List D}(h:Hy H [.slice 8 Ln,.slice 8 Ln,.int .i64,.int .i64,.int .i64,.int .u8] as' ds)(hT:CQ H qg)(hn:11<=H.next):∃H',cK (zf 7) as' H=some (.bool true,H'):=by
 cases h with
 |cons h0 h=>
 cases h with
 |cons h1 h=>
 cases h with
 |cons h2 h=>
 cases h with
 |cons h3 h=>
 cases h with
 |cons h4 h=>
 cases h with
 |cons h5 h=>
 cases h;obtain⟨l,hl,hb⟩:=Xq (acZ h0);obtain⟨m,hm,_⟩:=Xq (acZ h1);obtain⟨z2,e2,_⟩:=S9 h2;obtain⟨z3,e3,_⟩:=S9 h3;obtain⟨z4,e4,_⟩:=S9 h4;obtain⟨z5,e5,f1,f2⟩:=S9 h5;subst e2 e3 e4 e5;have f1:(0:Int)<=z5:=f1;have f2:z5<=255:=f2;obtain⟨t,rfl⟩:∃t:Nat,z5=t:=⟨z5.toNat,zzz⟩;exact aIu hl hb hm zzz hT hn
end Go.Proofs.YtodfajmihkagnaaGreatDoor.bD
