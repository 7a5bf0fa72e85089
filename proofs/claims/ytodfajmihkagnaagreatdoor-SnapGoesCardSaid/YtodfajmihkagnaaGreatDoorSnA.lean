/- Laws that the proof uses. -/
import Derived.Test.YtodfajmihkagnaaGreatDoorFlE
import Derived.Handed
import Derived.Test.YtodfajmihkagnaaGreatDoorProg
set_option linter.unusedVariables false
set_option linter.unusedSimpArgs false
set_option maxRecDepth 100000
set_option maxHeartbeats 4000000
namespace Go.Proofs.YtodfajmihkagnaaGreatDoor.bD
open Go Am Am.K lD na kJ pf
section
section
def sj (s:Nat×Nat)(v:Nat):Nat×Nat:=((s.1+v)%65521,(s.2+(s.1+v)%65521)%65521)
def JB (b:Str):Nat×Nat:=b.foldl sj (1,0)
def zB (b:Str):Nat:=(JB b).2*65536+(JB b).1
theorem aax (s:Nat×Nat)(v:Nat):(sj s v).1<65521/\(sj s v).2<65521:=⟨amP _ zzx,amP _ zzx⟩
theorem aiN:∀(b:Str) (s:Nat×Nat),s.1<65521/\s.2<65521->(b.foldl sj s).1<65521/\(b.foldl sj s).2<65521
 |[],s,h=>h|v::b,s,h=>aiN b (sj s v) (aax s v)
theorem Sq (b:Str):(JB b).1<65521/\(JB b).2<65521:=aiN b (1,0) zzx
theorem abq (a:Nat):((a:Nat):Int).tmod 65521=((a%65521:Nat):Int):=by rw[Int.tmod_eq_emod_of_nonneg zzz];omega
theorem alW (H:Hp):cK (zf 140) [.int .u32 1] H=some (.tuple [zi 1,zi 0],H):=by refine atJ ?_;kernel_rfl
theorem aql (H:Hp):cK (zf 139) [.int .u32 1] H=some (.bool true,H):=by
 refine arw ?_;have p:=alW H;unfold ac7;simp(disch:=try exact zqz)only[p,ar,aq,zz0,simprocAttr]
 try rfl
theorem aqC {a c:Nat}(ha:a<65521)(hc:c<65521)(H:Hp):cK (zf 141) [zi (a:Nat),zi (c:Nat)] H=some (.int .u32 ((c*65536+a:Nat):Int),H):=by
 refine auT ?_;have w1:∀n:Nat,n<65521->((n:Nat):Int).tmod 65521=(n:Nat):=λn hn=>by rw[abq,ahr hn]
 have w2:∀n:Nat,n<65521->IntKind.wrap .i64 (((n:Nat):Int)+65521)=((n+65521:Nat):Int):=λn hn=>by rw[wrap_i64 zzz zzz];omega
 have w3:∀n:Nat,n<65521->(((n+65521:Nat):Int)).tmod 65521=(n:Nat):=λn hn=>by rw[abq];congr 1;omega
 have w4:∀n:Nat,n<4294967296->IntKind.wrap .u32 ((n:Nat):Int)=(n:Nat):=λn hn=>by unfold IntKind.wrap;simp[IntKind.signed,IntKind.bits];omega
 have sh:wu (.int .u32 ((c:Nat):Int)) (.int .u64 16)=some (.int .u32 ((c*65536:Nat):Int)):=by have:=Qp (k:=.u32) (j:=.u64) (a:=c) (b:=16);rw[show ((c*2^(min 16 (IntKind.bits .u32)):Nat):Int)=((c*65536:Nat):Int) from rfl,w4 _ zzz] at this;exact this
 have so:zx (.int .u32 ((c*65536:Nat):Int)) (.int .u32 ((a:Nat):Int))=some (.int .u32 ((c*65536+a:Nat):Int)):=by
  have e:(c*65536)|||a=c*65536+a:=by rw[Nat.or_comm];exact alm (i:=16) zzz
  have:=Vu (k:=.u32) (a:=c*65536) (b:=a) (by show c*65536<4294967296;omega) (by show a<4294967296;omega) (by rw[e];exact w4 _ zzz);rw[e] at this;exact this
 have r:∀x:Int,wk (zi x) (zi 65521)=some (zi (x.tmod 65521)):=λx=>aoW .i64 x 65521 zzx;unfold akw;simp(disch:=try exact zqz)only[r,w1 c hc,w1 a ha,w2 c hc,w2 a ha,w3 c hc,w3 a ha,w4 c zzz,w4 a zzz,sh,so,ar,aq,zz0,simprocAttr]
theorem amI {x:AV}{l:Str}{H:Hp}(hl:l.length<16000000)(hb:∀c∈l,c<256)(hx:Rw H 1 x (bs l)):∀(r:Str) (i:Nat) (s:Nat×Nat),s.1<65521/\s.2<65521->i<=l.length->l.drop i=r->
  ∀pT:K.Fn 2,Rz JN GO cK pT (zi (s.1:Nat)) (zi (s.2:Nat)) x (zi (l.length:Nat)) (zi (i:Nat)) H=pT (zi ((r.foldl sj s).1:Nat)) (zi ((r.foldl sj s).2:Nat)) H
 |[],i,s,hs,hi,h=>by obtain rfl:=drop_nil hi h;intro pT;rw[ad7];simp only[WS,df,List.foldl_nil,zz0,simprocAttr]
 |v::r,i,s,hs,hi,h=>by
  obtain⟨h1,h2,h3⟩:=dU h;have es:=dC h1 zzz;obtain⟨q,q1,q2⟩:=hx.fW (i:=i) (v:=.int .u8 (v:Nat)) (by unfold bs;rw[ab9,h2];rfl) .i64;have hv:v<256:=hb v (aac h2);have w1:IntKind.wrap .i64 ((v:Nat):Int)=(v:Nat):=wrap_i64 zzz zzz;have w2:IntKind.wrap .i64 (((s.1:Nat):Int)+(v:Nat))=((s.1+v:Nat):Int):=by rw[wrap_i64 zzz zzz];omega
  have w3:IntKind.wrap .i64 (((s.2:Nat):Int)+(((s.1+v)%65521:Nat):Int))=((s.2+(s.1+v)%65521:Nat):Int):=by rw[wrap_i64 zzz zzz];omega
  have r1:∀a:Nat,wk (zi ((a:Nat):Int)) (zi 65521)=some (zi ((a%65521:Nat):Int)):=λa=>by rw[aoW .i64 _ 65521 zzx,abq]
  have ih:∀pT:K.Fn 2,Rz JN GO cK pT (zi (((s.1+v)%65521:Nat):Int)) (zi (((s.2+(s.1+v)%65521)%65521:Nat):Int)) x (zi (l.length:Nat)) (zi ((i+1:Nat):Int)) H=pT (zi ((r.foldl sj (sj s v)).1:Nat)) (zi ((r.foldl sj (sj s v)).2:Nat)) H:=amI hl hb hx r (i+1) (sj s v) (aax s v) h1 h3;intro pT;rw[ad7];simp(disch:=try exact zqz)only[WS,aN h1,q1,q2,w1,w2,r1,w3,es,ih,List.foldl_cons,ar,aq,zz0,simprocAttr]
theorem asb {x:AV}{l:Str}{H:Hp}(hl:l.length<16000000)(hb:∀c∈l,c<256)(hx:Rw H 1 x (bs l)):cK (zf 65) [x] H=some (.int .u32 ((zB l:Nat):Int),H):=by
 have dO:=hx.gu;rw[jY] at dO;have i1:=amI hl hb hx l 0 (1,0) zzx (aa7 _) aaY;rw[show (((0:Nat):Int))=0 from rfl,show ((((1,0):Nat×Nat).1:Nat):Int)=1 from rfl] at i1;have g:=aql H;have p:=alW H;have lt:=Sq l;have m:=aqC lt.1 lt.2 H;unfold JB at m;have on:cK (zf 99) [.int .u32 1,x] H=some (.tuple [.int .u32 ((zB l:Nat):Int),.bool true],H):=by refine aId ?_;unfold ad2;simp(disch:=try exact zqz)only[g,p,dO,i1,m,ar,aq,zz0,simprocAttr];try rfl
 refine aBV ?_;unfold alb;simp(disch:=try exact zqz)only[on,ar,aq,zz0,simprocAttr]
def ey (n:Nat):Str:=if n<128 then [n] else (n%128+128)::ey (n / 128) termination_by n decreasing_by omega
theorem JM {n:Nat}(h:n<128):ey n=[n]:=by rw[ey,zz2 h]
theorem L3 {n:Nat}(h:¬n<128):ey n=(n%128+128)::ey (n / 128):=by rw[ey,zz1 h]
theorem aGE:∀m:Nat,m<256->m|||128=m%128+128:=zzx
structure EO (H:Hp)(p:Nat)(x:AV)(l:Str):Prop where
 c:Cs H p [x] 115 0
 o:Ow H 5 1 x (bs l)
 ne:p∉ak x
section
variable {H H':Hp}{l:Str}{x:AV}
theorem EO.out {p:Nat}{S:List Nat}(h:EO H p x l)(k:Out S H H')(h1:p∉S)(h2:∀j∈ak x,j∉S):EO H' p x l:=⟨h.c.out k h1,h.o.out k h2,h.ne⟩
theorem EO.au {p:Nat}(h:EO H p x l)(k:Out [] H H'):EO H' p x l:=h.out k zzy λj _=>zzy
structure EW (H H':Hp)(p:Nat)(x x':AV):Prop where
 o:Out (p::ak x) H H'
 w:∀j∈ak x',j∈ak x\/H.next<=j
theorem EW.refl (H:Hp)(p:Nat)(x:AV):EW H H p x x:=⟨Out.refl _ _,λj hj=>.inl hj⟩
theorem EW.trans {H'':Hp}{p:Nat}{x' OD:AV}(h:EW H H' p x x')(k:EW H' H'' p x' OD):EW H H'' p x OD:=
 ⟨h.o.then k.o λj hj=>(aaD.1 hj).elim (λe=>.inl (e ▸ .head _)) λq=>(h.w j q).imp (λz=>.tail _ z) id,λj hj=>(k.w j hj).elim (h.w j) λq=>.inr (afz h.o.1 q)⟩
theorem EO.push {p:Nat}(h:EO H p x l)(v:Nat)(hl:l.length<16777216):∃x' H1 H2,(∀i,i=H.next->cL 5 1 [(.int .u8 0)] false x (.slice i 0 1 1 true 1) (al H [.int .u8 (v:Nat)] 5 0)=some (x',H1))/\st 1 (.ptr p 0) x' H1=some H2/\EO H2 p x' (l++[v])/\EW H H2 p x x':=by
 obtain⟨x',H1,p1,p2,p3,p4,p5⟩:=vf (el2:=5) (z:=[(.int .u8 0)]) (vs:=[.int .u8 (v:Nat)]) h.o rfl rfl zzx (by rw[jY];show _+1<=_;omega);have ye:=h.c.out p3 h.ne;obtain⟨H2,w1,w2,w3,w4⟩:=ff ye zzx (o:=0) zzy (v:=x') p5;have aF:p∉ak x':=λq=>(p4 p q).elim h.ne λq=>by have:=h.c.1;omega
 have hb:bs (l++[v])=bs l++[.int .u8 (v:Nat)]:=by rw[Tz];rfl
 exact⟨x',H1,H2,p1,w1,⟨w2,by rw[hb];exact p2.out w3 λj hj q=>by rw[No] at q;subst q;exact aF hj,aF⟩,(p3.mono λj hj=>.tail _ hj).then w3 λj hj=>.inl (by rw[No] at hj;subst hj;exact .head _),p4⟩
theorem EO.aIe {p:Nat}(h:EO H p x l)(s:Str)(hl:l.length+s.length<=16777216):∃x' H1 H2,cL 5 1 [(.int .u8 0)] false x (.str s) H=some (x',H1)/\st 1 (.ptr p 0) x' H1=some H2/\EO H2 p x' (l++s)/\EW H H2 p x x':=by
 obtain⟨x',H1,a1,a2,a3,a4⟩:=N0 (n:=s.length) (new:=bs s) h.o (by rw[jY,adM]) (ak4 s) zzx (by rw[jY,jY];exact hl);have JX:cL 5 1 [(.int .u8 0)] false x (.str s) H=some (x',H1):=by
  unfold cL;have:BZ 1 [(.int .u8 0)] false (.str s) H=some (s.length,bs s):=by unfold BZ;simp[bs]
  rw[this];exact a1
 have ye:=h.c.out a3 h.ne;obtain⟨H2,w1,w2,w3,w4⟩:=ff ye zzx (o:=0) zzy (v:=x') a2.lr;have aF:p∉ak x':=λq=>(a4 p q).elim h.ne λq=>by have:=h.c.1;omega
 exact⟨x',H1,H2,JX,w1,⟨w2,by rw[Tz];exact a2.out w3 λj hj q=>by rw[No] at q;subst q;exact aF hj,aF⟩,(a3.mono λj hj=>.tail _ hj).then w3 λj hj=>.inl (by rw[No] at hj;subst hj;exact .head _),a4⟩
theorem wrap_u8 (n:Nat):IntKind.wrap .u8 ((n:Nat):Int)=((n%256:Nat):Int):=by unfold IntKind.wrap;simp[IntKind.signed,IntKind.bits]
theorem arh (n:Nat):zx (.int .u8 ((n%256:Nat):Int)) (.int .u8 128)=some (.int .u8 ((n%128+128:Nat):Int)):=by
 have e:(n%256)|||128=n%128+128:=by rw[aGE _ (amP _ zzx)];omega
 have:=Vu (k:=.u8) (a:=n%256) (b:=128) (by show n%256<256;omega) zzx (by rw[e,wrap_u8];congr 1;omega);rw[e] at this;exact this
theorem axD (n:Nat):sN (.int .u64 ((n:Nat):Int)) (.int .u64 7)=some (.int .u64 ((n / 128:Nat):Int)):=by have:=Pd (k:=.u64) (j:=.u64) (a:=n) (b:=7);exact this
theorem aEx {p:Nat}:∀(n:Nat) (H:Hp) (x:AV) (l:Str),n<2^64->EO H p x l->l.length+n<=0+l.length+n->l.length+(ey n).length<=16000000->
  ∃m pre x' H',(∀j1:K.Fn 2,YE JN GO cK j1 (.ptr p 0) (.int .u64 (n:Nat)) H=j1 (.ptr p 0) (.int .u64 (m:Nat)) H')/\m<128/\ey n=pre++[m]/\EO H' p x' (l++pre)/\EW H H' p x x':=by
 intro n;induction n using Nat.strongRecOn with
 |_ n ih=>
  intro H x l hn h _ hl;by_cases hs:n<128;·have d:decide ((128:Int)<=((n:Nat):Int))=false:=zz4 zzz;refine⟨n,[],x,H,λj1=>?_,hs,JM hs,by rw[acQ];exact h,EW.refl _ _ _⟩;rw[anq];simp(disch:=try exact zqz)only[X3,d,ar,aq,zz0,simprocAttr]
  ·have d:decide ((128:Int)<=((n:Nat):Int))=true:=zz3 zzz;rw[L3 hs,aaP] at hl;obtain⟨x1,H1,H2,a1,a2,a3,a4⟩:=h.push (n%128+128) zzz;have b1:=a1 H.next rfl;obtain⟨m,pre,x',H',i1,i2,i3,i4,i5⟩:=ih (n / 128) zzz H2 x1 (l++[n%128+128]) zzz a3 zzz (by rw[aal];show l.length+1+_<=_;omega);have e0:cellAt H p 0=some x:=h.c.cellAt rfl;have w:=wrap_u8 n;have o:=arh n;have s7:=axD n;refine⟨m,(n%128+128)::pre,x',H',λj1=>?_,i2,by rw[L3 hs,i3];rfl,by rw[abr] at i4;exact i4,a4.trans i5⟩;rw[anq];simp(disch:=try exact zqz)only[X3,d,e0,w,o,b1,a2,s7,i1,ar,aq,zz0,simprocAttr]
theorem Ay {p:Nat}(h:EO H p x l){n:Nat}(hn:n<2^64)(hl:l.length+(ey n).length<=16000000):∃x' H',cK (zf 62) [.ptr p 0,.int .u64 (n:Nat)] H=some (.tuple [],H')/\EO H' p x' (l++ey n)/\EW H H' p x x':=by obtain⟨m,pre,x1,H1,i1,i2,i3,i4,i5⟩:=aEx n H x l hn h zzz hl;rw[i3,aal] at hl;obtain⟨x',H2,H3,a1,a2,a3,a4⟩:=i4.push m (by rw[aal];have:([m]:List Nat).length=1:=rfl;omega);have b1:=a1 H1.next rfl;have e0:cellAt H1 p 0=some x1:=i4.c.cellAt rfl;have w:=wrap_u8 m;rw[ahr zzz] at w;refine⟨x',H3,av4 ?_,by rw[i3,<-abr];exact a3,i5.trans a4⟩;unfold ao9;simp(disch:=try exact zqz)only[i1,e0,w,b1,a2,ar,aq,zz0,simprocAttr]
theorem FR {p:Nat}(h:EO H p x l){s:Str}(hs:s.length<16000000)(hl:l.length+(ey s.length).length+s.length<=16000000):∃x' H',cK (zf 63) [.ptr p 0,.str s] H=some (.tuple [],H')/\EO H' p x' (l++(ey s.length++s))/\EW H H' p x x':=by
 obtain⟨x1,H1,u1,u2,u3⟩:=Ay h (n:=s.length) zzz zzz;obtain⟨x',H2,H3,a1,a2,a3,a4⟩:=u2.aIe s (by rw[aal];omega);have e0:cellAt H1 p 0=some x1:=u2.c.cellAt rfl;have w:IntKind.wrap .u64 ((s.length:Nat):Int)=((s.length:Nat):Int):=by unfold IntKind.wrap;simp[IntKind.signed,IntKind.bits];omega
 refine⟨x',H3,aEf ?_,by rw[<-abr];exact a3,u3.trans a4⟩;unfold agH;simp(disch:=try exact zqz)only[w,u1,e0,a1,a2,ar,aq,zz0,simprocAttr]
end
theorem wrap_u64 {n:Nat}(h:n<2^64):IntKind.wrap .u64 ((n:Nat):Int)=(n:Nat):=by unfold IntKind.wrap;simp[IntKind.signed,IntKind.bits];omega
theorem axW {n:Nat}(h:n<2^62)(H:Hp):cK (zf 98) [zi (n:Nat)] H=some (.int .u64 ((2*n:Nat):Int),H):=by
 have w:=wrap_u64 (n:=n) zzz;have w0:IntKind.wrap .u64 0=0:=zzx;have sl:wu (.int .u64 ((n:Nat):Int)) (.int .u64 1)=some (.int .u64 ((2*n:Nat):Int)):=by have:=Qp (k:=.u64) (j:=.u64) (a:=n) (b:=1);rw[show (n*2^(min 1 (IntKind.bits .u64)):Nat)=n*2 from rfl,wrap_u64 zzz,anP] at this;exact this
 have sr:sN (zi ((n:Nat):Int)) (.int .u64 63)=some (zi 0):=by have:=Pd (k:=.i64) (j:=.u64) (a:=n) (b:=63);rw[show (n / 2^(min 63 (IntKind.bits .i64)):Nat)=n / 9223372036854775808 from rfl,Nat.div_eq_of_lt zzz] at this;exact this
 have sx:By (.int .u64 ((2*n:Nat):Int)) (.int .u64 0)=some (.int .u64 ((2*n:Nat):Int)):=by have:=aGj (k:=.u64) (a:=2*n) (b:=0) (by show 2*n<2^64;omega) zzx (by rw[Nat.xor_zero];exact wrap_u64 zzz);rw[Nat.xor_zero] at this;exact this
 refine aGr ?_;unfold ad9;simp(disch:=try exact zqz)only[w,w0,sl,sr,sx,ar,aq,zz0,simprocAttr]
noncomputable def gy (n:Nat):Int:=IntKind.wrap .i64 ((mj .i64 (IntKind.wrap .i64 ((n / 2:Nat):Int)) ^^^ mj .i64 (IntKind.wrap .i64 (-(((n%2:Nat):Int)))):Nat):Int)
theorem ayv {n:Nat}(h:n<2^64)(H:Hp):cK (zf 100) [.int .u64 (n:Nat)] H=some (zi (gy n),H):=by
 have sr:sN (.int .u64 ((n:Nat):Int)) (.int .u64 1)=some (.int .u64 ((n / 2:Nat):Int)):=Pd (k:=.u64) (j:=.u64) (a:=n) (b:=1);have sa:zn (.int .u64 ((n:Nat):Int)) (.int .u64 1)=some (.int .u64 ((n%2:Nat):Int)):=anK (k:=.u64) (a:=n) (m:=1) (by exact h) zzx (wrap_u64 zzz);have w1:IntKind.wrap .i64 ((n%2:Nat):Int)=((n%2:Nat):Int):=wrap_i64 zzz zzz;have sx:∀a b:Int,By (zi a) (zi b)=some (zi (IntKind.wrap .i64 ((mj .i64 a ^^^ mj .i64 b:Nat):Int))):=λa b=>by unfold By ii;simp
 have sn:∀a:Int,dR .neg (zi a)=some (zi (IntKind.wrap .i64 (-a))):=λa=>by simp[dR]
 refine aDC ?_;unfold af9 gy;simp(disch:=try exact zqz)only[sr,sa,w1,sx,sn,ar,aq,zz0,simprocAttr]
theorem Vj {n:Nat}(h:n<2^62):gy (2*n)=(n:Nat):=by unfold gy;rw[show 2*n / 2=n by omega,show 2*n%2=0 by omega,wrap_i64 (a:=((n:Nat):Int)) zzz zzz,GH (k:=.i64) (n:=n) (by show n<2^64;omega)];rw[show mj .i64 (IntKind.wrap .i64 (-(((0:Nat)):Int)))=0 from zzx,Nat.xor_zero];exact wrap_i64 zzz zzz
theorem acN {H:Hp}{p:Nat}{x:AV}{l:Str}(h:EO H p x l){n:Nat}(hn:n<2^62)(hl:l.length+(ey (2*n)).length<=16000000):∃x' H',cK (zf 61) [.ptr p 0,zi (n:Nat)] H=some (.tuple [],H')/\EO H' p x' (l++ey (2*n))/\EW H H' p x x':=by have f:=axW hn H;obtain⟨x',H',u1,u2,u3⟩:=Ay h (n:=2*n) zzz hl;refine⟨x',H',aut ?_,u2,u3⟩;unfold akR;simp(disch:=try exact zqz)only[f,u1,ar,aq,zz0,simprocAttr]
def rB:Nat->Nat->Str->Option (Nat×Str)
 |_,_,[]=>none|k,v,b::r=>if 10<=k then none else if 128<=b then rB (k+1) ((v+(b%128)*2^(7*k))%2^64) r else if (b=0/\0<k)\/(7*k=63/\1<b) then none else some ((v+(b%128)*2^(7*k))%2^64,r)
structure EI (H:Hp)(p:Nat)(x:AV)(l:Str)(bad:Bool):Prop where
 c:Cs H p [x,.bool bad] 126 0
 r:Rw H 1 x (bs l)
 ne:p∉ak x
 lt:∀b∈l,b<256
 ln:l.length<=2000000
 b0:bad=true->l=[]
structure ER (H H':Hp)(p:Nat)(x x':AV):Prop where
 o:Out [p] H H'
 w:∀j∈ak x',j∈ak x
theorem ER.refl (H:Hp)(p:Nat)(x:AV):ER H H p x x:=⟨Out.refl _ _,λj hj=>hj⟩
section
variable {H H':Hp}{bad:Bool}{l:Str}{x:AV}
theorem ER.trans {H'':Hp}{p:Nat}{x' OD:AV}(h:ER H H' p x x')(k:ER H' H'' p x' OD):ER H H'' p x OD:=⟨h.o.trans k.o,λj hj=>h.w j (k.w j hj)⟩
theorem EI.out {p:Nat}{S:List Nat}(h:EI H p x l bad)(k:Out S H H')(h1:p∉S)(h2:∀j∈ak x,j∉S):EI H' p x l bad:=⟨h.c.out k h1,h.r.out k h2,h.ne,h.lt,h.ln,h.b0⟩
theorem EI.au {p:Nat}(h:EI H p x l bad)(k:Out [] H H'):EI H' p x l bad:=h.out k zzy λj _=>zzy
theorem QN {p:Nat}(h:EI H p x l bad):∃H',cK (zf 142) [.ptr p 0] H=some (.tuple [],H')/\EI H' p .ah [] true/\ER H H' p x .ah:=by obtain⟨H1,a1,a2,a3,a4⟩:=ff h.c zzx (o:=1) zzy (v:=.bool true) rfl;obtain⟨H2,b1,b2,b3,b4⟩:=ff a2 zzx (o:=0) zzy (v:=.ah) rfl;refine⟨H2,asA ?_,⟨b2,.nil,by simp[ak],λb hb=>(by cases hb),zzy,λ_=>rfl⟩,⟨a3.trans b3,λj hj=>by simp[ak] at hj⟩⟩;unfold agm;simp(disch:=try exact zqz)only[a1,b1,ar,aq,zz0,simprocAttr]
theorem EI.cut {p:Nat}(h:EI H p x l bad){k:Nat}(hk:k<=l.length)(hb:bad=false):∃x' H',nK 1 x (some (zi (k:Nat))) none none=some x'/\st 1 (.ptr p 0) x' H=some H'/\EI H' p x' (l.drop k) bad/\ER H H' p x x':=by
 obtain⟨x',s1,s2,s3⟩:=yD (n:=l.length) h.r (by rw[jY,adM]) zzx (a:=k) (b:=l.length) (lo:=some (zi (k:Nat))) (hi:=none) hk (aaO _) (Bd.yes _ _ _) (Bd.no _);have e:((bs l).drop (k*1)).take ((l.length-k)*1)=bs (l.drop k):=by rw[adM,adM,afe (by rw[aeF,jY];omega)];unfold bs;rw[List.map_drop]
 rw[e] at s2;obtain⟨H',a1,a2,a3,a4⟩:=ff h.c zzx (o:=0) zzy (v:=x') s2.one;exact⟨x',H',s1,a1,⟨a2,s2.out a3 λj hj q=>by rw[No] at q;subst q;exact h.ne (s3 _ hj),λq=>h.ne (s3 _ q),λb q=>h.lt b (List.mem_of_mem_drop q),by rw[aeF];have:=h.ln;omega,λq=>by rw[hb] at q;cases q⟩,⟨a3,s3⟩⟩
theorem axd {v B i:Nat}(hv:v<2^i)(hi:i<=64):v|||(B*2^i)%2^64=(v+B*2^i)%2^64/\(v+B*2^i)%2^64<2^64:=by
 have e:(2:Nat)^64=2^(64-i)*2^i:=by rw[<-Nat.pow_add];congr 1;omega
 have hw:(B*2^i)%2^64=(B%2^(64-i))*2^i:=by rw[e,Nat.mul_mod_mul_right]
 have aR:B%2^(64-i)<2^(64-i):=amP _ (Nat.pow_pos zzx);have hs:v+(B%2^(64-i))*2^i<2^64:=by have:(B%2^(64-i)+1)*2^i<=2^(64-i)*2^i:=ad4 _ aR;rw[e];rw[afs,aj4] at this;omega
 have hm:(v+B*2^i)%2^64=v+(B%2^(64-i))*2^i:=by rw[Nat.add_mod,hw,ahr (a:=v) zzz,ahr hs]
 refine⟨?_,amP _ zzx⟩;rw[hw,hm,alm hv];omega
theorem aza (n:Nat):IntKind.wrap .u64 ((n:Nat):Int)=((n%2^64:Nat):Int):=by unfold IntKind.wrap;simp[IntKind.signed,IntKind.bits]
theorem aID {p:Nat}(h:EI H p x l false):∀(r:Str) (k v:Nat),l.drop k=r->k<=10->k<=l.length->v<2^(7*k)->v<2^64->
  (rB k v r=none/\∀j1:K.Fn 1,Nz JN GO cK j1 (.ptr p 0) (.int .u64 (v:Nat)) (zi (k:Nat)) H=j1 (.ptr p 0) H)\/
  ∃v' r' x' H',rB k v r=some (v',r')/\(∀j1:K.Fn 1,Nz JN GO cK j1 (.ptr p 0) (.int .u64 (v:Nat)) (zi (k:Nat)) H=some (.int .u64 (v':Nat),H'))/\v'<2^64/\EI H' p x' r' false/\ER H H' p x x':=by
 have e0:cellAt H p 0=some x:=h.c.cellAt rfl;have e1:cellAt H p 1=some (.bool false):=h.c.cellAt rfl;have dO:=h.r.gu;rw[jY] at dO;have mu:=h.ln;intro r;induction r with
 |nil=>
  intro k v hr hk kN hv ajV;have hU:k=l.length:=by have:=congrArg List.length hr;rw[aeF] at this;simp at this;omega
  have d2:decide (((k:Nat):Int)<((l.length:Nat):Int))=false:=zz4 zzz;refine .inl ⟨by rw[rB],λj1=>?_⟩;rw[Fo];cases d1:decide (((k:Nat):Int)<10)<;>simp(disch:=try exact zqz)only[zb,e0,e1,d1,dO,d2,ar,aq,zz0,simprocAttr]
 |cons b r ih=>
  intro k v hr hk kN hv ajV;obtain⟨h1,h2,h3⟩:=dU hr;have hb:=h.lt b (aac h2);by_cases MC:10<=k;·have d1:decide (((k:Nat):Int)<10)=false:=zz4 zzz;refine .inl ⟨by rw[rB,zz2 MC],λj1=>?_⟩;rw[Fo];simp(disch:=try exact zqz)only[zb,e0,e1,d1,dO,ar,aq,zz0,simprocAttr]
  have d1:decide (((k:Nat):Int)<10)=true:=zz3 zzz;have d2:decide (((k:Nat):Int)<((l.length:Nat):Int))=true:=zz3 (by have:=(aag.1 h2).1;omega);obtain⟨q,q1,q2⟩:=h.r.fW (i:=k) (v:=.int .u8 (b:Nat)) (by unfold bs;rw[ab9,h2];rfl) .i64;have m1:zn (.int .u8 ((b:Nat):Int)) (.int .u8 127)=some (.int .u8 ((b%128:Nat):Int)):=anK (k:=.u8) (a:=b) (m:=7) (by show b<256;exact hb) zzx (by rw[wrap_u8];congr 1;omega);have m2:IntKind.wrap .u64 ((b%128:Nat):Int)=((b%128:Nat):Int):=wrap_u64 zzz;have m3:IntKind.wrap .i64 (7*((k:Nat):Int))=((7*k:Nat):Int):=by rw[wrap_i64 zzz zzz];omega
  have m4:wu (.int .u64 ((b%128:Nat):Int)) (zi ((7*k:Nat):Int))=some (.int .u64 (((b%128*2^(7*k))%2^64:Nat):Int)):=by have:=Qp (k:=.u64) (j:=.i64) (a:=b%128) (b:=7*k);rw[show min (7*k) (IntKind.bits .u64)=7*k from amV (by show 7*k<=64;omega),aza] at this;exact this
  obtain⟨s1,s2⟩:=axd (v:=v) (B:=b%128) hv (i:=7*k) zzz;have m5:zx (.int .u64 ((v:Nat):Int)) (.int .u64 (((b%128*2^(7*k))%2^64:Nat):Int))=some (.int .u64 (((v+b%128*2^(7*k))%2^64:Nat):Int)):=by have:=Vu (k:=.u64) (a:=v) (b:=(b%128*2^(7*k))%2^64) ajV (amP _ zzx) (by rw[s1];exact wrap_u64 s2);rw[s1] at this;exact this
  have m6:IntKind.wrap .i64 (((k:Nat):Int)+1)=((k+1:Nat):Int):=by rw[wrap_i64 zzz zzz];omega
  by_cases xf:128<=b
  ·have d3:decide ((128:Int)<=((b:Nat):Int))=true:=zz3 zzz;have bQ:(v+b%128*2^(7*k))%2^64<2^(7*(k+1)):=by refine Nat.lt_of_le_of_lt (Nat.mod_le _ _) ?_;rw[show 7*(k+1)=7*k+7 by omega,Nat.pow_add];have:(b%128+1)*2^(7*k)<=2^7*2^(7*k):=ad4 _ (by have:=amP b (show 0<128 by decide);omega);rw[afs,aj4] at this;rw[anP (2^(7*k))];omega
   have:=(aag.1 h2).1;rcases ih (k+1) ((v+b%128*2^(7*k))%2^64) h3 zzz zzz bQ s2 with⟨i1,i2⟩|⟨v',r',x',H',i1,i2,i3,i4,i5⟩;·refine .inl ⟨by rw[rB,zz1 MC,zz2 xf];exact i1,λj1=>?_⟩;rw[Fo];simp(disch:=try exact zqz)only[zb,e0,e1,d1,dO,d2,q1,q2,m1,m2,m3,m4,m5,d3,m6,i2,ar,aq,zz0,simprocAttr]
   ·refine .inr ⟨v',r',x',H',by rw[rB,zz1 MC,zz2 xf];exact i1,λj1=>?_,i3,i4,i5⟩;rw[Fo];simp(disch:=try exact zqz)only[zb,e0,e1,d1,dO,d2,q1,q2,m1,m2,m3,m4,m5,d3,m6,i2,ar,aq,zz0,simprocAttr]
  ·have d3:decide ((128:Int)<=((b:Nat):Int))=false:=zz4 zzz;have aKf:=(aag.1 h2).1;by_cases afH:(b=0/\0<k)\/(7*k=63/\1<b)
   ·refine .inl ⟨by rw[rB,zz1 MC,zz1 xf,zz2 afH],λj1=>?_⟩;rw[Fo];by_cases b0:b=0
    ·have t0:(((b:Nat):Int)==0)=true:=by simp[b0]
     have t1:decide ((0:Int)<((k:Nat):Int))=true:=zz3 zzz;simp(disch:=try exact zqz)only[zb,e0,e1,d1,dO,d2,q1,q2,m1,m2,m3,m4,m5,d3,t0,t1,ar,aq,zz0,simprocAttr]
    ·have t0:(((b:Nat):Int)==0)=false:=by simp;omega
     have t2:(((7*k:Nat):Int)==63)=true:=by simp;omega
     have t3:decide ((1:Int)<((b:Nat):Int))=true:=zz3 zzz;simp(disch:=try exact zqz)only[zb,e0,e1,d1,dO,d2,q1,q2,m1,m2,m3,m4,m5,d3,t0,t2,t3,ar,aq,zz0,simprocAttr]
   ·obtain⟨x',H',c1,c2,c3,c4⟩:=h.cut (k:=k+1) zzz rfl;rw[h3] at c3;refine .inr ⟨_,r,x',H',by rw[rB,zz1 MC,zz1 xf,zz1 afH],λj1=>?_,s2,c3,c4⟩;rw[Fo];by_cases b0:b=0
    ·have k0:k=0:=zzz;have t0:(((b:Nat):Int)==0)=true:=by simp[b0]
     have t1:decide ((0:Int)<((k:Nat):Int))=false:=zz4 zzz;have t2:(((7*k:Nat):Int)==63)=false:=by simp;omega
     simp(disch:=try exact zqz)only[zb,e0,e1,d1,dO,d2,q1,q2,m1,m2,m3,m4,m5,d3,t0,t1,t2,m6,c1,c2,ar,aq,zz0,simprocAttr]
    ·have t0:(((b:Nat):Int)==0)=false:=by simp;omega
     by_cases vZ:7*k=63
     ·have t2:(((7*k:Nat):Int)==63)=true:=by simp;omega
      have t3:decide ((1:Int)<((b:Nat):Int))=false:=zz4 zzz;simp(disch:=try exact zqz)only[zb,e0,e1,d1,dO,d2,q1,q2,m1,m2,m3,m4,m5,d3,t0,t2,t3,m6,c1,c2,ar,aq,zz0,simprocAttr]
     ·have t2:(((7*k:Nat):Int)==63)=false:=by simp;omega
      simp(disch:=try exact zqz)only[zb,e0,e1,d1,dO,d2,q1,q2,m1,m2,m3,m4,m5,d3,t0,t2,m6,c1,c2,ar,aq,zz0,simprocAttr]
def aY (l:Str)(bad:Bool):Nat×Str×Bool:=match rB 0 0 l with
 |some (v,r)=>(v,r,bad)|none=>(0,[],true)
theorem Vr {p:Nat}(h:EI H p x l bad):∃x' H',cK (zf 101) [.ptr p 0] H=some (.int .u64 ((aY l bad).1:Nat),H')/\(aY l bad).1<2^64/\EI H' p x' (aY l bad).2.1 (aY l bad).2.2/\ER H H' p x x':=by
 cases bad with
 |true=>
  obtain rfl:=h.b0 rfl;have e1:cellAt H p 1=some (.bool true):=h.c.cellAt rfl;obtain⟨H',f1,f2,f3⟩:=QN h;refine⟨_,H',ZA ?_,zzx,f2,f3⟩;have i1:∀j1:K.Fn 1,Nz JN GO cK j1 (.ptr p 0) (.int .u64 0) (zi 0) H=j1 (.ptr p 0) H:=λj1=>by rw[Fo];simp(disch:=try exact zqz)only[zb,e1,ar,aq,zz0,simprocAttr]
  unfold PJ;simp(disch:=try exact zqz)only[i1,f1,ar,aq,zz0,simprocAttr];try rfl
 |false=>
  rcases aID h l 0 0 aaY zzz (aa7 _) zzx zzx with⟨i1,i2⟩|⟨v',r',x',H',i1,i2,i3,i4,i5⟩
  ·rw[show (((0:Nat):Int))=0 from rfl] at i2;obtain⟨H',f1,f2,f3⟩:=QN h;have e:aY l false=(0,[],true):=by unfold aY;rw[i1]
   rw[e];refine⟨_,H',ZA ?_,zzx,f2,f3⟩;unfold PJ;simp(disch:=try exact zqz)only[i2,f1,ar,aq,zz0,simprocAttr];try rfl
  ·rw[show (((0:Nat):Int))=0 from rfl] at i2;have e:aY l false=(v',r',false):=by unfold aY;rw[i1]
   rw[e];refine⟨x',H',ZA ?_,i3,i4,i5⟩;unfold PJ;simp(disch:=try exact zqz)only[i2,ar,aq,zz0,simprocAttr]
theorem Wh {p:Nat}(h:EI H p x l bad):∃x' H',cK (zf 67) [.ptr p 0] H=some (zi (gy (aY l bad).1),H')/\EI H' p x' (aY l bad).2.1 (aY l bad).2.2/\ER H H' p x x':=by obtain⟨x',H',u1,u2,u3,u4⟩:=Vr h;have f:=ayv u2 H';refine⟨x',H',aqj ?_,u3,u4⟩;unfold ajd;simp(disch:=try exact zqz)only[u1,f,ar,aq,zz0,simprocAttr]
def eV (l:Str)(bad:Bool)(m:Nat):Nat×Str×Bool:=if (aY l bad).2.2=true\/m<(aY l bad).1\/2147483647<(aY l bad).1 then (0,[],true) else aY l bad
theorem Ef {p:Nat}(h:EI H p x l bad)(m:Nat):∃x' H',cK (zf 102) [.ptr p 0,.int .u64 (m:Nat)] H=some (zi ((eV l bad m).1:Nat),H')/\EI H' p x' (eV l bad m).2.1 (eV l bad m).2.2/\ER H H' p x x':=by
 obtain⟨x1,H1,u1,u2,u3,u4⟩:=Vr h;have e1:cellAt H1 p 1=some (.bool (aY l bad).2.2):=u3.c.cellAt rfl;unfold eV;by_cases hb:(aY l bad).2.2=true\/m<(aY l bad).1\/2147483647<(aY l bad).1
 ·rw[zz2 hb];obtain⟨H',f1,f2,f3⟩:=QN u3;refine⟨_,H',ahn ?_,f2,u4.trans f3⟩;unfold abB;cases jr:(aY l bad).2.2 with
  |true=>
   rw[jr] at e1;simp(disch:=try exact zqz)only[u1,e1,f1,ar,aq,zz0,simprocAttr];try rfl
  |false=>
   rw[jr] at e1 hb;by_cases h1:m<(aY l bad).1;·have d1:decide (((m:Nat):Int)<(((aY l bad).1:Nat):Int))=true:=zz3 zzz;simp(disch:=try exact zqz)only[u1,e1,d1,f1,ar,aq,zz0,simprocAttr];try rfl
   ·have d1:decide (((m:Nat):Int)<(((aY l bad).1:Nat):Int))=false:=zz4 zzz;have d2:decide ((2147483647:Int)<(((aY l bad).1:Nat):Int))=true:=zz3 (by
     rcases hb with q|q|q;·cases q
     ·exact absurd q h1
     ·omega)
    simp(disch:=try exact zqz)only[u1,e1,d1,d2,f1,ar,aq,zz0,simprocAttr];try rfl
 ·rw[zz1 hb];have jr:(aY l bad).2.2=false:=by cases q:(aY l bad).2.2 with|false=>rfl|true=>exact absurd (.inl q) hb
  rw[jr] at e1;have d1:decide (((m:Nat):Int)<(((aY l bad).1:Nat):Int))=false:=zz4 zzz;have d2:decide ((2147483647:Int)<(((aY l bad).1:Nat):Int))=false:=zz4 zzz;have w:IntKind.wrap .i64 (((aY l bad).1:Nat):Int)=(((aY l bad).1:Nat):Int):=wrap_i64 zzz zzz;refine⟨x1,H1,ahn ?_,u3,u4⟩;unfold abB;simp(disch:=try exact zqz)only[u1,e1,d1,d2,w,ar,aq,zz0,simprocAttr]
theorem atG {p:Nat}(h:EI H p x l bad):cK (zf 69) [.ptr p 0] H=some (.bool (!bad&&decide (l.length=0)),H):=by
 have e0:cellAt H p 0=some x:=h.c.cellAt rfl;have e1:cellAt H p 1=some (.bool bad):=h.c.cellAt rfl;have dO:=h.r.gu;rw[jY] at dO;have t:(((l.length:Nat):Int)==0)=decide (l.length=0):=by
  by_cases q:l.length=0;·rw[q];rfl
  ·rw[zz4 q];simp;intro z;exact q (by rw[z];rfl)
 refine arU ?_;unfold akg;cases bad<;>simp(disch:=try exact zqz)only[e0,e1,dO,t,ar,aq,zz0,simprocAttr]<;>rfl
def gr (l:Str)(bad:Bool)(m:Nat):Str×Str×Bool:=if (aY l bad).2.2=true\/m<(aY l bad).1\/(aY l bad).2.1.length<(aY l bad).1 then ([],[],true) else ((aY l bad).2.1.take (aY l bad).1,(aY l bad).2.1.drop (aY l bad).1,false)
theorem FV {p:Nat}(h:EI H p x l bad){m:Nat}(hm:m<2000000):∃x' H',cK (zf 103) [.ptr p 0,zi (m:Nat)] H=some (.str (gr l bad m).1,H')/\EI H' p x' (gr l bad m).2.1 (gr l bad m).2.2/\ER H H' p x x':=by
 obtain⟨x1,H1,u1,u2,u3,u4⟩:=Vr h;have e0:cellAt H1 p 0=some x1:=u3.c.cellAt rfl;have e1:cellAt H1 p 1=some (.bool (aY l bad).2.2):=u3.c.cellAt rfl;have dO:=u3.r.gu;rw[jY] at dO;have mu:=u3.ln;have d0:decide (((m:Nat):Int)<0)=false:=zz4 zzz;have w1:IntKind.wrap .u64 ((m:Nat):Int)=(m:Nat):=wrap_u64 zzz;have w2:IntKind.wrap .u64 (((aY l bad).2.1.length:Nat):Int)=((aY l bad).2.1.length:Nat):=wrap_u64 zzz;unfold gr;by_cases hb:(aY l bad).2.2=true\/m<(aY l bad).1\/(aY l bad).2.1.length<(aY l bad).1
 ·rw[zz2 hb];obtain⟨H',f1,f2,f3⟩:=QN u3;refine⟨_,H',aiz ?_,f2,u4.trans f3⟩;unfold Yi;cases jr:(aY l bad).2.2 with
  |true=>
   rw[jr] at e1;simp(disch:=try exact zqz)only[u1,e1,f1,ar,aq,zz0,simprocAttr]
  |false=>
   rw[jr] at e1 hb;by_cases h1:m<(aY l bad).1;·have d1:decide (((m:Nat):Int)<(((aY l bad).1:Nat):Int))=true:=zz3 zzz;simp(disch:=try exact zqz)only[u1,e1,d0,w1,d1,f1,ar,aq,zz0,simprocAttr]
   ·have d1:decide (((m:Nat):Int)<(((aY l bad).1:Nat):Int))=false:=zz4 zzz;have d2:decide ((((aY l bad).2.1.length:Nat):Int)<(((aY l bad).1:Nat):Int))=true:=zz3 (by
     rcases hb with q|q|q;·cases q
     ·exact absurd q h1
     ·omega)
    simp(disch:=try exact zqz)only[u1,e1,d0,w1,d1,e0,dO,w2,d2,f1,ar,aq,zz0,simprocAttr]
 ·rw[zz1 hb];have jr:(aY l bad).2.2=false:=by cases q:(aY l bad).2.2 with|false=>rfl|true=>exact absurd (.inl q) hb
  rw[jr] at e1;have d1:decide (((m:Nat):Int)<(((aY l bad).1:Nat):Int))=false:=zz4 zzz;have d2:decide ((((aY l bad).2.1.length:Nat):Int)<(((aY l bad).1:Nat):Int))=false:=zz4 zzz;have hle:(aY l bad).1<=(aY l bad).2.1.length:=zzz;obtain⟨y,y1,y2,y3⟩:=yD (n:=(aY l bad).2.1.length) u3.r (by rw[jY,adM]) zzx (a:=0) (b:=(aY l bad).1) (lo:=none) (hi:=some (.int .u64 ((aY l bad).1:Nat))) (aa7 _) hle (Bd.no 0) (Bd.yes _ _ _);have e:((bs (aY l bad).2.1).drop (0*1)).take (((aY l bad).1-0)*1)=bs ((aY l bad).2.1.take (aY l bad).1):=by rw[ag0,aaY,adM,agA];unfold bs;rw[List.map_take]
  rw[e] at y2;have b2:=MI y2 λb hb=>u3.lt b (alp hb);obtain⟨z,z1,z2,z3⟩:=yD (n:=(aY l bad).2.1.length) u3.r (by rw[jY,adM]) zzx (a:=(aY l bad).1) (b:=(aY l bad).2.1.length) (lo:=some (.int .u64 ((aY l bad).1:Nat))) (hi:=none) hle (aaO _) (Bd.yes _ _ _) (Bd.no _);have e':((bs (aY l bad).2.1).drop ((aY l bad).1*1)).take (((aY l bad).2.1.length-(aY l bad).1)*1)=bs ((aY l bad).2.1.drop (aY l bad).1):=by rw[adM,adM,afe (by rw[aeF,jY];omega)];unfold bs;rw[List.map_drop]
  rw[e'] at z2;obtain⟨H',a1,a2,a3,a4⟩:=ff u3.c zzx (o:=0) zzy (v:=z) z2.one;rw[jr] at a2;refine⟨z,H',aiz ?_,⟨a2,z2.out a3 λj hj q=>by rw[No] at q;subst q;exact u3.ne (z3 _ hj),λq=>u3.ne (z3 _ q),λb q=>u3.lt b (List.mem_of_mem_drop q),by rw[aeF];omega,λq=>by cases q⟩,u4.trans ⟨a3,z3⟩⟩;unfold Yi;simp(disch:=try exact zqz)only[u1,e1,d0,w1,d1,e0,dO,w2,d2,y1,b2,z1,a1,ar,aq,zz0,simprocAttr]
end
theorem adq:∀(k n:Nat),n<2^(7*(k+1))->(ey n).length<=k+1
 |0,n,h=>by rw[JM (by simpa using h)];simp
 |k+1,n,h=>by
  by_cases hs:n<128;·rw[JM hs];simp
  ·rw[L3 hs,aaP];have:=adq k (n / 128) (by rw[show 7*(k+1+1)=7*(k+1)+7 by omega,Nat.pow_add] at h;exact Nat.div_lt_of_lt_mul (by rw[anP];exact h));omega
theorem nW {n:Nat}(h:n<2^64):(ey n).length<=10:=adq 9 n (adi h (Nat.pow_le_pow_right zzx zzx))
def mo (s:Str):Str:=ey s.length++s
theorem rA {s:Str}(h:s.length<2000000):(mo s).length<=s.length+10:=by unfold mo;rw[aal];have:=nW (n:=s.length) zzz;omega
structure SR (t:RT):Prop where
 ph:0<=t.ph/\t.ph<=255
 tr:0<=t.tr/\t.tr<=255
 tl:0<=t.fH/\t.fH<4611686018427387904
 dt:t.iP.length<=100
def vu (t:RT):Str:=ey t.ph.toNat++(ey t.tr.toNat++(ey (2*t.fH.toNat)++mo t.iP))
theorem Tc {t:RT}(h:SR t):(vu t).length<=140:=by obtain⟨⟨a1,a2⟩,⟨b1,b2⟩,⟨c1,c2⟩,d⟩:=h;have e1:=nW (n:=t.ph.toNat) zzz;have e2:=nW (n:=t.tr.toNat) zzz;have e3:=nW (n:=2*t.fH.toNat) zzz;have e4:=rA (s:=t.iP) zzz;unfold vu;simp only[aal];omega
theorem awx (t:RT)(H:Hp):st 4 (.ptr H.next 0) (.agg (dT t)) (al H [(zi 0),(zi 0),(zi 0),(.str [])] 132 0)=some (al H (dT t) 132 0):=gJ rfl rfl rfl zzx rfl
theorem amr {p b:Nat}{dx tx sx:AV}{R:Rn}(ir:∀t∈R.rs,SR t)(hn:R.rs.length<=1000):∀(r:List RT) (i:Nat) (H:Hp) (x:AV) (l:Str),i<=R.rs.length->R.rs.drop i=r->RL H 4 tx (eL R.rs)->EO H p x l->(∀j∈ak tx,j≠p/\j∉ak x)->l.length+r.length*140<=15000000->
  ∃x' H',(∀jc:K.Fn 2,UY JN GO cK jc (.ptr p 0) (.ptr b 0) tx (zi (R.rs.length:Nat)) (zi (i:Nat)) H=jc (.ptr p 0) (.ptr b 0) H')/\EO H' p x' (l++(r.map vu).flatten)/\EW H H' p x x'
 |[],i,H,x,l,hi,h,ht,hE,hd,hl=>by obtain rfl:=drop_nil hi h;refine⟨x,H,λjc=>?_,by rw[ajn,List.flatten_nil,acQ];exact hE,EW.refl _ _ _⟩;rw[adx];simp only[abx,df,zz0,simprocAttr]
 |t::r,i,H,x,l,hi,h,ht,hE,hd,hl=>by
  obtain⟨h1,h2,h3⟩:=dU h;have es:=dC h1 zzz;have ho:=ir t (aac h2);have hk:=Tc ho;obtain⟨⟨a1,a2⟩,⟨b1,b2⟩,⟨c1,c2⟩,d0⟩:=ho;rw[aaP] at hl;obtain⟨m,o,q1,q2,q3,q4,q5⟩:=ht.at zzx (sP h2);have hz:=awx t H;have o1:=aD H (dT t) 132 0;have k1:=aP H (dT t) 132 0;have n1:(al H (dT t) 132 0).next=H.next+1:=rfl;generalize bw:al H (dT t) 132 0=H1 at*
  have ym:=hE.c.1;have w1:IntKind.wrap .u64 t.ph=(t.ph.toNat:Nat):=by rw[<-afV a1,wrap_u64 zzz];omega
  have w2:IntKind.wrap .u64 t.tr=(t.tr.toNat:Nat):=by rw[<-afV b1,wrap_u64 zzz];omega
  have w3:t.fH=(t.fH.toNat:Nat):=(afV c1).symm;unfold vu mo at hk;simp only[aal] at hk;have e0:cellAt H1 H.next 0=some (zi t.ph):=k1.cellAt rfl;have Ep:=hE.o.rw.lt;obtain⟨x1,H2,u1,u2,u3⟩:=Ay (hE.au o1) (n:=t.ph.toNat) zzz zzz;have N1:H.next∉p::ak x:=λq=>(aaD.1 q).elim (λe=>zzz) λq=>by have:=Ep _ q;omega
  have k2:=k1.out u3.o N1;have e1:cellAt H2 H.next 1=some (zi t.tr):=k2.cellAt rfl;obtain⟨x2,H3,v1,v2,v3⟩:=Ay u2 (n:=t.tr.toNat) zzz (by rw[aal];omega);have N2:H.next∉p::ak x1:=λq=>(aaD.1 q).elim (λe=>zzz) λq=>(u3.w _ q).elim (λz=>by have:=Ep _ z;omega) λz=>zzz;have k3:=k2.out v3.o N2;have e2:cellAt H3 H.next 2=some (zi t.fH):=k3.cellAt rfl;rw[w3] at e2;obtain⟨x3,H4,y1,y2,y3⟩:=acN v2 (n:=t.fH.toNat) zzz (by simp only[aal];omega);have l2:=u3.o.1;have N3:H.next∉p::ak x2:=λq=>(aaD.1 q).elim (λe=>zzz) λq=>(v3.w _ q).elim (λz=>N2 (.tail _ z)) λz=>zzz;have k4:=k3.out y3.o N3;have e3:cellAt H4 H.next 3=some (.str t.iP):=k4.cellAt rfl;obtain⟨x4,H5,z1,z2,z3⟩:=FR y2 (s:=t.iP) zzz (by simp only[aal];omega);have W:EW H H5 p x x4:=⟨(o1.mono (S':=p::ak x) λj hj=>by cases hj).then (((u3.trans v3).trans y3).trans z3).o λj hj=>.inl hj,λj hj=>((((u3.trans v3).trans y3).trans z3).w j hj).imp id λz=>zzz⟩;have ih:=amr (b:=b) (dx:=dx) (sx:=sx) ir hn r (i+1) H5 x4 _ h1 h3 (ht.out W.o λj hj q=>(aaD.1 q).elim (hd j hj).1 (hd j hj).2) z2 (λj hj=>⟨(hd j hj).1,λq=>(W.w j q).elim (hd j hj).2 λz=>by have:=ht.1.lt j hj;omega⟩) (by simp only[aal];omega);obtain⟨x',H',i1,i2,i3⟩:=ih;refine⟨x',H',λjc=>?_,?_,W.trans i3⟩;·rw[adx];simp(disch:=try exact zqz)only[abx,aN h1,q1,q4,hz,bw,e0,w1,u1,e1,w2,v1,e2,y1,e3,z1,es,i1,ar,aq,zz0,simprocAttr]
  ·have e:l++ey t.ph.toNat++ey t.tr.toNat++ey (2*t.fH.toNat)++(ey t.iP.length++t.iP)++(r.map vu).flatten=l++((t::r).map vu).flatten:=by rw[aby,agL];unfold vu mo;simp only[abr]
   rw[<-e];exact i2
theorem ai2 {p:Nat}{sx:AV}{sg:List Str}(ir:∀s∈sg,s.length<=100)(hn:sg.length<=1000):∀(r:List Str) (i:Nat) (H:Hp) (x:AV) (l:Str),i<=sg.length->sg.drop i=r->Rw H 1 sx (strs sg)->EO H p x l->(∀j∈ak sx,j≠p/\j∉ak x)->l.length+r.length*120<=15000000->
  ∃x' H',(∀uc:K.Fn 0,Zp JN GO cK uc (.ptr p 0) sx (zi (sg.length:Nat)) (zi (i:Nat)) H=uc H')/\EO H' p x' (l++(r.map mo).flatten)/\EW H H' p x x'
 |[],i,H,x,l,hi,h,ht,hE,hd,hl=>by obtain rfl:=drop_nil hi h;refine⟨x,H,λuc=>?_,by rw[ajn,List.flatten_nil,acQ];exact hE,EW.refl _ _ _⟩;rw[ahx];simp only[aaF,df,zz0,simprocAttr]
 |s::r,i,H,x,l,hi,h,ht,hE,hd,hl=>by
  obtain⟨h1,h2,h3⟩:=dU h;have es:=dC h1 zzz;have ho:=ir s (aac h2);have hk:=rA (s:=s) zzz;rw[aaP] at hl;obtain⟨q,q1,q2⟩:=ht.fW (i:=i) (v:=.str s) (by unfold strs;rw[ab9,h2];rfl) .i64;unfold mo at hk;simp only[aal] at hk;obtain⟨x1,H1,u1,u2,u3⟩:=FR hE (s:=s) zzz zzz;obtain⟨x',H',i1,i2,i3⟩:=ai2 ir hn r (i+1) H1 x1 _ h1 h3 (ht.out u3.o λj hj q=>(aaD.1 q).elim (hd j hj).1 (hd j hj).2) u2 (λj hj=>⟨(hd j hj).1,λq=>(u3.w j q).elim (hd j hj).2 λz=>by have:=ht.lt j hj;omega⟩) (by simp only[aal];omega);refine⟨x',H',λuc=>?_,?_,u3.trans i3⟩;·rw[ahx];simp(disch:=try exact zqz)only[aaF,aN h1,q1,q2,u1,es,i1,ar,aq,zz0,simprocAttr]
  ·rw[aby,agL,<-abr];exact i2
structure okW (R:Rn):Prop where
 st:0<=R.st/\R.st<=255
 ts:∀t∈R.rs,SR t
 tn:R.rs.length<=100
 sg:∀s∈R.sg,s.length<=100
 sn:R.sg.length<=100
def zY (R:Rn):Str:=ey R.st.toNat++((R.rs.map vu).flatten++(ey R.sg.length++(R.sg.map mo).flatten))
theorem yF {α:Type}{f:α->Str}{c:Nat}:∀{l:List α},(∀a∈l,(f a).length<=c)->(l.map f).flatten.length<=l.length*c
 |[],_=>zzy|a::l,h=>by rw[aby,agL,aal,aaP,afs,aj4];have:=h a (.head _);have:=yF (l:=l) λb hb=>h b (.tail _ hb);omega
theorem ayB {R:Rn}(h:okW R):(zY R).length<=26020:=by have e1:=nW (n:=R.st.toNat) (by have:=h.st;omega);have e2:=yF (f:=vu) (c:=140) (l:=R.rs) λt ht=>Tc (h.ts t ht);have e3:=nW (n:=R.sg.length) (by have:=h.sn;omega);have e4:=yF (f:=mo) (c:=110) (l:=R.sg) λs hs=>afz (rA (by have:=h.sg s hs;omega)) (by have:=h.sg s hs;omega);have:=h.tn;have:=h.sn;unfold zY;simp only[aal];omega
theorem aEw {p:Nat}{x:AV}{l:Str}{dx tx sx:AV}{R:Rn}{H:Hp}(hE:EO H p x l)(hw:okW R)(ht:RL H 4 tx (eL R.rs))(hs:Rw H 1 sx (strs R.sg))(Si:∀j∈ak tx,j≠p/\j∉ak x)(Gh:∀j∈ak sx,j≠p/\j∉ak x)(hl:l.length<=10000000):
  ∃x' H',cK (zf 64) [.ptr p 0,.agg (rv dx R.st tx sx)] H=some (.tuple [],H')/\EO H' p x' (l++zY R)/\EW H H' p x x':=by
 have aC:=hw.st;have htn:=hw.tn;have Ny:=hw.sn;have o1:=aD H (rv dx R.st tx sx) 75 0;have k1:=aP H (rv dx R.st tx sx) 75 0;have n1:(al H (rv dx R.st tx sx) 75 0).next=H.next+1:=rfl;have aO:bx 75 (.agg (rv dx R.st tx sx)) H=some (H.next,al H (rv dx R.st tx sx) 75 0):=iw zzy;generalize al H (rv dx R.st tx sx) 75 0=H1 at*
 have ym:=hE.c.1;have Ep:=hE.o.rw.lt;have asj:=ht.1.lt;have Y1:=hs.lt;have w1:IntKind.wrap .u64 R.st=(R.st.toNat:Nat):=by rw[<-afV aC.1,wrap_u64 zzz];omega
 have e1:cellAt H1 H.next 1=some (zi R.st):=k1.cellAt rfl;have b1:=nW (n:=R.st.toNat) zzz;obtain⟨x1,H2,u1,u2,u3⟩:=Ay (hE.au o1) (n:=R.st.toNat) zzz zzz;have N1:H.next∉p::ak x:=λq=>(aaD.1 q).elim (λe=>zzz) λq=>by have:=Ep _ q;omega
 have k2:=k1.out u3.o N1;have e2:cellAt H2 H.next 2=some tx:=k2.cellAt rfl;have P2:=(ht.au o1).out u3.o λj hj q=>(aaD.1 q).elim (Si j hj).1 (Si j hj).2;have oq:=(hs.au o1).out u3.o λj hj q=>(aaD.1 q).elim (Gh j hj).1 (Gh j hj).2;have aR:=P2.len zzx;rw[AJ] at aR;have b2:=yF (f:=vu) (c:=140) (l:=R.rs) λt ht=>Tc (hw.ts t ht);obtain⟨x2,H3,v1,v2,v3⟩:=amr (b:=H.next) (dx:=dx) (sx:=sx) hw.ts zzz R.rs 0 H2 x1 _ (aa7 _) aaY P2 u2 (λj hj=>⟨(Si j hj).1,λq=>(u3.w j q).elim (Si j hj).2 λz=>by have:=asj j hj;omega⟩) (by simp only[aal];omega);rw[show (((0:Nat):Int))=0 from rfl] at v1;have l2:=u3.o.1;have N2:H.next∉p::ak x1:=λq=>(aaD.1 q).elim (λe=>zzz) λq=>(u3.w _ q).elim (λz=>by have:=Ep _ z;omega) λz=>zzz;have k3:=k2.out v3.o N2;have e3:cellAt H3 H.next 3=some sx:=k3.cellAt rfl;have wO:∀j∈ak sx,j≠p/\j∉ak x1:=λj hj=>⟨(Gh j hj).1,λq=>(u3.w j q).elim (Gh j hj).2 λz=>by have:=Y1 j hj;omega⟩;have Cr:=oq.out v3.o λj hj q=>(aaD.1 q).elim (wO j hj).1 (wO j hj).2;have hls:=Cr.gu;rw[gZ] at hls;have w2:IntKind.wrap .u64 ((R.sg.length:Nat):Int)=(R.sg.length:Nat):=wrap_u64 zzz;have b3:=nW (n:=R.sg.length) zzz;obtain⟨x3,H4,y1,y2,y3⟩:=Ay v2 (n:=R.sg.length) zzz (by simp only[aal];omega);have l3:=v3.o.1;have N3:H.next∉p::ak x2:=λq=>(aaD.1 q).elim (λe=>zzz) λq=>(v3.w _ q).elim (λz=>N2 (.tail _ z)) λz=>zzz;have k4:=k3.out y3.o N3;have e4:cellAt H4 H.next 3=some sx:=k4.cellAt rfl;have Ey:∀j∈ak sx,j≠p/\j∉ak x2:=λj hj=>⟨(Gh j hj).1,λq=>(v3.w j q).elim (wO j hj).2 λz=>by have:=Y1 j hj;omega⟩;have Ki:=Cr.out y3.o λj hj q=>(aaD.1 q).elim (Ey j hj).1 (Ey j hj).2;have ain:=Ki.gu;rw[gZ] at ain;obtain⟨x4,H5,z1,z2,z3⟩:=ai2 hw.sg zzz R.sg 0 H4 x3 _ (aa7 _) aaY Ki y2 (λj hj=>⟨(Gh j hj).1,λq=>(y3.w j q).elim (Ey j hj).2 λz=>by have:=Y1 j hj;omega⟩) (by simp only[aal];omega);rw[show (((0:Nat):Int))=0 from rfl] at z1;have W:=((u3.trans v3).trans y3).trans z3;refine⟨x4,H5,aym ?_,?_,⟨(o1.mono (S':=p::ak x) λj hj=>by cases hj).then W.o λj hj=>.inl hj,λj hj=>(W.w j hj).imp id λz=>zzz⟩⟩;·unfold adA;simp(disch:=try exact zqz)only[aO,e1,w1,u1,e2,aR,v1,e3,hls,w2,y1,e4,ain,z1,ar,aq,zz0,simprocAttr]
 ·have e:l++ey R.st.toNat++(R.rs.map vu).flatten++ey R.sg.length++(R.sg.map mo).flatten=l++zY R:=by unfold zY;simp only[abr]
  rw[<-e];exact z2
structure Wr (Z:Hp)(N:Nat)(H:Hp)(b p:Nat)(a:SA)(S:SS)(x:AV)(l:Str):Prop where
 s:SV N H a S
 c:Cs H b (fe a S) 50 0
 e:EO H p x l
 bn:N<=b
 pb:b<p
 xb:∀j∈ak x,b<j
 z:jN N Z H
section
variable {H:Hp}{l:Str}{x:AV}
theorem Wr.step {Z:Hp}{N b p:Nat}{H':Hp}{a:SA}{S:SS}{x':AV}{l':Str}(h:Wr Z N H b p a S x l)(k:EO H' p x' l')(w:EW H H' p x x'):Wr Z N H' b p a S x' l':=by have hp:=h.pb;have hb:=h.bn;have oG:=h.c.1;refine⟨h.s.out w.o λj hj=>(aaD.1 hj).elim (λe=>zzz) λq=>by have:=h.xb j q;omega,h.c.out w.o λq=>(aaD.1 q).elim (λe=>zzz) λq=>by have:=h.xb _ q;omega,k,h.bn,h.pb,λj hj=>(w.w j hj).elim (h.xb j) λz=>zzz,h.z.trans ⟨_,w.o,λj hj=>(aaD.1 hj).elim (λe=>zzz) λq=>by have:=h.xb j q;omega⟩⟩
def wD (x:Str×Str):Str:=mo x.1++mo x.2
theorem aeI {Z:Hp}{N b p:Nat}{a:SA}{S:SS}(hle:S.aM.length=S.nms.length)(h1:∀s∈S.nms,s.length<=100)(h2:∀s∈S.aM,s.length<=2000)(hn:S.nms.length<=1000):∀(r:List (Str×Str)) (i:Nat) (H:Hp) (x:AV) (l:Str),i<=S.nms.length->(S.nms.zip S.aM).drop i=r->Wr Z N H b p a S x l->l.length+r.length*2200<=8000000->
  ∃x' H',(∀EM:K.Fn 2,Rh JN GO cK EM (.ptr b 0) (.ptr p 0) a.nx (zi (S.nms.length:Nat)) (zi (i:Nat)) H=EM (.ptr b 0) (.ptr p 0) H')/\Wr Z N H' b p a S x' (l++(r.map wD).flatten)
 |[],i,H,x,l,hi,h,hW,hl=>by
  have hz:(S.nms.zip S.aM).length=S.nms.length:=by rw[ajl,hle,ajT]
  obtain rfl:=drop_nil zzz h;refine⟨x,H,λEM=>?_,by rw[ajn,List.flatten_nil,acQ];exact hW⟩;rw[aoG,hz];simp only[abH,df,zz0,simprocAttr]
 |y::r,i,H,x,l,hi,h,hW,hl=>by
  have hz:(S.nms.zip S.aM).length=S.nms.length:=by rw[ajl,hle,ajT]
  obtain⟨g1,g2,g3⟩:=dU h;rw[hz] at g1;have es:=dC g1 zzz;obtain⟨y1,y2⟩:=DM g2;have l1:=h1 _ (aac y1);have l2:=h2 _ (aac y2);have k1:=rA (s:=y.1) zzz;have k2:=rA (s:=y.2) zzz;rw[aaP] at hl;unfold mo at k1 k2;simp only[aal] at k1 k2;obtain⟨q,q1,q2⟩:=hW.s.n.fW (i:=i) (v:=.str y.1) (mS y1) .i64;obtain⟨x1,H1,u1,u2,u3⟩:=FR hW.e (s:=y.1) zzz zzz;have W1:=hW.step u2 u3;have e2:cellAt H1 b 2=some a.tx:=W1.c.cellAt rfl;obtain⟨q',q3,q4⟩:=W1.s.t.fW (i:=i) (v:=.str y.2) (mS y2) .i64;obtain⟨x2,H2,v1,v2,v3⟩:=FR u2 (s:=y.2) zzz (by simp only[aal];omega);have W2:=W1.step v2 v3;obtain⟨x',H',i1,i2⟩:=aeI hle h1 h2 hn r (i+1) H2 x2 _ g1 g3 W2 (by simp only[aal];omega);refine⟨x',H',λEM=>?_,?_⟩;·rw[aoG];simp(disch:=try exact zqz)only[abH,aN g1,q1,q2,u1,e2,q3,q4,v1,es,i1,ar,aq,zz0,simprocAttr]
  ·have e:l++(ey y.1.length++y.1)++(ey y.2.length++y.2)++(r.map wD).flatten=l++((y::r).map wD).flatten:=by rw[aby,agL];unfold wD mo;simp only[abr]
   rw[<-e];exact i2
theorem aDq {R:Rn}{dx tx sx:AV}(hv:(rv dx R.st tx sx).all aZ=true)(H:Hp):st 4 (.ptr H.next 0) (.agg (rv dx R.st tx sx)) (al H [.ah,(zi 0),.ah,.ah] 75 0)=some (al H (rv dx R.st tx sx) 75 0):=gJ hv rfl rfl zzx rfl
def wX (x:Rn×Str):Str:=mo x.2++zY x.1
theorem apB {Z:Hp}{N b p:Nat}{a:SA}{S:SS}(hle:S.fF.length=S.rs.length)(h1:∀s∈S.fF,s.length<=100)(h2:∀R∈S.rs,okW R)(hn:S.rs.length<=1000):∀(r:List (Rn×Str)) (i:Nat) (H:Hp) (x:AV) (l:Str),i<=S.rs.length->(S.rs.zip S.fF).drop i=r->Wr Z N H b p a S x l->l.length+r.length*27000<=9000000->
  ∃x' H',(∀Ax:K.Fn 2,aaL JN GO cK Ax (.ptr b 0) (.ptr p 0) a.rx (zi (S.rs.length:Nat)) (zi (i:Nat)) H=Ax (.ptr b 0) (.ptr p 0) H')/\Wr Z N H' b p a S x' (l++(r.map wX).flatten)
 |[],i,H,x,l,hi,h,hW,hl=>by
  have hz:(S.rs.zip S.fF).length=S.rs.length:=by rw[ajl,hle,ajT]
  obtain rfl:=drop_nil zzz h;refine⟨x,H,λAx=>?_,by rw[ajn,List.flatten_nil,acQ];exact hW⟩;rw[agU,hz];simp only[aak,df,zz0,simprocAttr]
 |y::r,i,H,x,l,hi,h,hW,hl=>by
  have hz:(S.rs.zip S.fF).length=S.rs.length:=by rw[ajl,hle,ajT]
  obtain⟨g1,g2,g3⟩:=dU h;rw[hz] at g1;have es:=dC g1 zzz;obtain⟨y1,y2⟩:=DM g2;have hR:=h2 _ (aac y1);have l2:=h1 _ (aac y2);have k2:=rA (s:=y.2) zzz;have k3:=ayB hR;rw[aaP] at hl;unfold mo at k2;simp only[aal] at k2;obtain⟨ra,Cg⟩:∃ra,a.ras[i]?=some ra:=⟨_,aaC (by rw[hW.s.len];exact g1)⟩;have hv:=hW.s.v i ra y.1 Cg y1;have B3:(List.zipWith iA a.ras S.rs)[i]?=some (iA ra y.1):=by rw[ac2,Cg,y1]
  obtain⟨m,o,q1,q2,q3,q4,q5⟩:=hW.s.r.at zzx B3;unfold iA at q4;have aC:=aDq (R:=y.1) (dx:=ra.dx) (tx:=ra.tx) (sx:=ra.sx) (by simp[hv.d.row.one,hv.t.one,hv.s.one,iS]) H;have o1:=aD H (rv ra.dx y.1.st ra.tx ra.sx) 75 0;have c1:=aP H (rv ra.dx y.1.st ra.tx ra.sx) 75 0;generalize bw:al H (rv ra.dx y.1.st ra.tx ra.sx) 75 0=H1 at*
  have DS:Wr Z N H1 b p a S x l:=⟨hW.s.au o1,hW.c.out o1 zzy,hW.e.au o1,hW.bn,hW.pb,hW.xb,hW.z.trans (jN.Mj o1)⟩;have e4:cellAt H1 b 4=some a.ox:=DS.c.cellAt rfl;obtain⟨q,q6,q7⟩:=DS.s.o.fW (i:=i) (v:=.str y.2) (mS y2) .i64;obtain⟨x1,H2,u1,u2,u3⟩:=FR DS.e (s:=y.2) zzz zzz;have Ep:=DS.e.o.rw.lt;have ym:=hW.e.c.1;have YB:=hW.e.o.rw.lt;have c2:=c1.out u3.o λq=>(aaD.1 q).elim (λe=>zzz) λq=>by have:=YB _ q;omega
  have k4:av H2 H.next 0 4=some (rv ra.dx y.1.st ra.tx ra.sx):=c2.av 4 0 zzy;have W2:=DS.step u2 u3;have vD:=W2.s.v i ra y.1 Cg y1;have iK:∀j∈ra.fp,j<N:=λj hj=>W2.s.b j (.inr (.inr (.inr (.inr (.inr (afn.2 ⟨ra,aac Cg,hj⟩))))));have oG:=hW.bn;have NP:=hW.pb;have aeU:∀j∈ra.fp,j≠p/\j∉ak x1:=λj hj=>⟨λe=>by have:=iK j hj;omega,λq=>by have:=W2.xb j q;have:=iK j hj;omega⟩;obtain⟨x2,H3,v1,v2,v3⟩:=aEw (dx:=ra.dx) u2 hR vD.t vD.s (λj hj=>aeU j (aaT _ (aa1 _ hj))) (λj hj=>aeU j (aaT _ (aaT _ hj))) (by simp only[aal];omega);have W3:=W2.step v2 v3;obtain⟨x',H',i1,i2⟩:=apB hle h1 h2 hn r (i+1) H3 x2 _ g1 g3 W3 (by simp only[aal];omega);refine⟨x',H',λAx=>?_,?_⟩;·rw[agU];simp(disch:=try exact zqz)only[aak,aN g1,q1,q4,aC,bw,e4,q6,q7,u1,k4,v1,es,i1,ar,aq,zz0,simprocAttr]
  ·have e:l++(ey y.2.length++y.2)++zY y.1++(r.map wX).flatten=l++((y::r).map wX).flatten:=by rw[aby,agL];unfold wX mo;simp only[abr]
   rw[<-e];exact i2
def yK (x:Ke):Str:=mo x.1.1++(mo x.1.2++ey x.2.toNat)
theorem arJ (y:Ke)(H:Hp):st 3 (.ptr H.next 0) (.agg (dB y)) (al H [(.str []),(.str []),(zi 0)] 82 0)=some (al H (dB y) 82 0):=gJ rfl rfl rfl zzx rfl
theorem agY {Z:Hp}{N b p:Nat}{a:SA}{S:SS}(h1:∀y∈S.ks,y.1.1.length<=100/\y.1.2.length<=100/\0<=y.2/\y.2<=1000)(hn:S.ks.length<=1000):∀(r:List Ke) (i:Nat) (H:Hp) (x:AV) (l:Str),i<=S.ks.length->S.ks.drop i=r->Wr Z N H b p a S x l->l.length+r.length*300<=10000000->
  ∃x' H',(∀D8:K.Fn 1,Pr JN GO cK D8 (.ptr p 0) a.kx (zi (S.ks.length:Nat)) (zi (i:Nat)) H=D8 (.ptr p 0) H')/\Wr Z N H' b p a S x' (l++(r.map yK).flatten)
 |[],i,H,x,l,hi,h,hW,hl=>by obtain rfl:=drop_nil hi h;refine⟨x,H,λD8=>?_,by rw[ajn,List.flatten_nil,acQ];exact hW⟩;rw[aeL];simp only[abO,df,zz0,simprocAttr]
 |y::r,i,H,x,l,hi,h,hW,hl=>by
  obtain⟨g1,g2,g3⟩:=dU h;have es:=dC g1 zzz;obtain⟨a1,a2,a3,a4⟩:=h1 y (aac g2);have k1:=rA (s:=y.1.1) zzz;have k2:=rA (s:=y.1.2) zzz;have k3:=nW (n:=y.2.toNat) zzz;rw[aaP] at hl;unfold mo at k1 k2;simp only[aal] at k1 k2;obtain⟨m,o,q1,q2,q3,q4,q5⟩:=hW.s.k.at (c:=dB y) zzx (by rw[ab9,g2];rfl);have aC:=arJ y H;have o1:=aD H (dB y) 82 0;have c1:=aP H (dB y) 82 0;generalize bw:al H (dB y) 82 0=H1 at*
  have DS:Wr Z N H1 b p a S x l:=⟨hW.s.au o1,hW.c.out o1 zzy,hW.e.au o1,hW.bn,hW.pb,hW.xb,hW.z.trans (jN.Mj o1)⟩;have ym:=hW.e.c.1;have YB:=hW.e.o.rw.lt;have f0:cellAt H1 H.next 0=some (.str y.1.1):=c1.cellAt rfl;obtain⟨x1,H2,u1,u2,u3⟩:=FR DS.e (s:=y.1.1) zzz zzz;have N1:H.next∉p::ak x:=λq=>(aaD.1 q).elim (λe=>zzz) λq=>by have:=YB _ q;omega
  have c2:=c1.out u3.o N1;have f1:cellAt H2 H.next 1=some (.str y.1.2):=c2.cellAt rfl;have l1:=c1.1;have N2:H.next∉p::ak x1:=λq=>(aaD.1 q).elim (λe=>zzz) λq=>(u3.w _ q).elim (λz=>N1 (.tail _ z)) λz=>zzz;obtain⟨x2,H3,v1,v2,v3⟩:=FR u2 (s:=y.1.2) zzz (by simp only[aal];omega);have c3:=c2.out v3.o N2;have f2:cellAt H3 H.next 2=some (zi y.2):=c3.cellAt rfl;have w1:IntKind.wrap .u64 y.2=(y.2.toNat:Nat):=by rw[<-afV a3,wrap_u64 zzz];omega
  obtain⟨x3,H4,z1,z2,z3⟩:=Ay v2 (n:=y.2.toNat) zzz (by simp only[aal];omega);have W4:=((DS.step u2 u3).step v2 v3).step z2 z3;obtain⟨x',H',i1,i2⟩:=agY h1 hn r (i+1) H4 x3 _ g1 g3 W4 (by simp only[aal];omega);refine⟨x',H',λD8=>?_,?_⟩;·rw[aeL];simp(disch:=try exact zqz)only[abO,aN g1,q1,q4,aC,bw,f0,u1,f1,v1,f2,w1,z1,es,i1,ar,aq,zz0,simprocAttr]
  ·have e:l++(ey y.1.1.length++y.1.1)++(ey y.1.2.length++y.1.2)++ey y.2.toNat++(r.map yK).flatten=l++((y::r).map yK).flatten:=by rw[aby,agL];unfold yK mo;simp only[abr]
   rw[<-e];exact i2
theorem Tt {p:Nat}(h:EO H p x l){v i:Nat}(hi:i<4)(hl:l.length<16000000):
  ∃x' H',(∀vT:K.Fn 1,Ie JN GO cK vT (.ptr p 0) (.int .u32 (v:Nat)) (zi (i:Nat)) H=Ie JN GO cK vT (.ptr p 0) (.int .u32 (v:Nat)) (zi ((i+1:Nat):Int)) H')/\EO H' p x' (l++[v / 2^(8*i)%256])/\EW H H' p x x':=by
 obtain⟨x1,H1,H2,a1,a2,a3,a4⟩:=h.push (v / 2^(8*i)%256) zzz;have b1:=a1 H.next rfl;have d:decide (((i:Nat):Int)<4)=true:=zz3 zzz;have e0:cellAt H p 0=some x:=h.c.cellAt rfl;have o1:=aD H [.int .u8 ((v / 2^(8*i)%256:Nat):Int)] 5 0;have e1:cellAt (al H [.int .u8 ((v / 2^(8*i)%256:Nat):Int)] 5 0) p 0=some x:=(h.c.out o1 zzy).cellAt rfl;have m:IntKind.wrap .i64 (8*((i:Nat):Int))=((8*i:Nat):Int):=by rw[wrap_i64 zzz zzz];omega
 have s:sN (.int .u32 ((v:Nat):Int)) (zi ((8*i:Nat):Int))=some (.int .u32 ((v / 2^(8*i):Nat):Int)):=by have:=Pd (k:=.u32) (j:=.i64) (a:=v) (b:=8*i);rw[show min (8*i) (IntKind.bits .u32)=8*i from amV (by show 8*i<=32;omega)] at this;exact this
 have w:=wrap_u8 (v / 2^(8*i));have es:IntKind.wrap .i64 (((i:Nat):Int)+1)=((i+1:Nat):Int):=by rw[wrap_i64 zzz zzz];omega
 have hs:=lN h.o.rw;refine⟨x1,H2,λvT=>?_,a3,a4⟩;rw[aox];simp(disch:=try exact zqz)only[acH,d,e0,m,s,w,b1,a2,e1,eG hs,es,ar,aq,zz0,simprocAttr]
theorem auM {p v:Nat}(vT:K.Fn 1):Ie JN GO cK vT (.ptr p 0) (.int .u32 (v:Nat)) (zi ((4:Nat):Int)) H=vT (.ptr p 0) H:=by have d:decide (((4:Nat):Int)<4)=false:=zzx;rw[aox];simp(disch:=try exact zqz)only[acH,d,ar,aq,zz0,simprocAttr]
def yJ (v:Nat):Str:=[v / 2^(8*0)%256]++([v / 2^(8*1)%256]++([v / 2^(8*2)%256]++[v / 2^(8*3)%256]))
theorem asQ {p:Nat}(h:EO H p x l)(v:Nat)(hl:l.length<15000000):
  ∃x' H',(∀vT:K.Fn 1,Ie JN GO cK vT (.ptr p 0) (.int .u32 (v:Nat)) (zi 0) H=vT (.ptr p 0) H')/\EO H' p x' (l++yJ v)/\EW H H' p x x':=by
 obtain⟨x1,H1,a1,b1,c1⟩:=Tt h (v:=v) (i:=0) zzz zzz;obtain⟨x2,H2,a2,b2,c2⟩:=Tt b1 (v:=v) (i:=1) zzz (by rw[aal];simp;omega);obtain⟨x3,H3,a3,b3,c3⟩:=Tt b2 (v:=v) (i:=2) zzz (by simp only[aal];simp;omega);obtain⟨x4,H4,a4,b4,c4⟩:=Tt b3 (v:=v) (i:=3) zzz (by simp only[aal];simp;omega);refine⟨x4,H4,λj=>?_,by unfold yJ;rw[<-abr,<-abr,<-abr];exact b4,((c1.trans c2).trans c3).trans c4⟩;have z:=a1 j;rw[show (((0:Nat):Int))=0 from rfl] at z;rw[z,a2 j,a3 j,a4 j];exact auM j
end
end
theorem V8:∀(l:List (Str×Str)) (f f':Fm),jz f l=some f'->f'.nms=f.nms++l.map (·.1)/\f'.aM=f.aM++l/\f'.ck=f.ck
 |[],f,f',h=>by cases h;simp
 |x::r,f,f',h=>by
  unfold jz at h;split at h
  ·rename_i hc;obtain⟨a,b,c⟩:=V8 r _ _ h;have:(mH f x.1 x.2).1={f with nms:=f.nms++[x.1],aM:=f.aM++[(x.1,lE (aG x.2).1)]}:=by
    have h2:=hc.2.2;unfold mH at h2⊢;split at h2;·cases h2
    ·rename_i n1;rw[zz1 n1];split at h2;·rename_i n2;exact absurd h2 n2
     ·rename_i n2;rw[zz1 n2];split at h2;·cases h2
      ·rename_i n3;rw[zz1 n3]
   rw[this,hc.2.1] at a b c;exact⟨by rw[a];simp,by rw[b];simp,c⟩
  ·cases h
theorem TU:∀(l:List Ke) (f f':Fm),nM f l=some f'->f'.ks=f.ks++l/\f'.nms=f.nms/\f'.aM=f.aM/\f'.aw=f.aw/\f'.ck=f.ck
 |[],f,f',h=>by cases h;simp
 |x::r,f,f',h=>by
  have h':(bif qd f x then nM {f with ks:=f.ks++[x]} r else none)=some f':=h;cases hk:qd f x with
  |false=>rw[hk] at h';cases h'
  |true=>
   rw[hk] at h';obtain⟨a,b,c,d,e⟩:=TU r _ _ h';exact⟨by rw[a];simp,b,c,d,e⟩
theorem aCz {l:List (Str×Str)}(gW:(l.map (·.1)).Nodup){x:Str×Str}(h:x∈l):eE l x.1=some x.2:=by
 cases hg:eE l x.1 with
 |none=>exact absurd rfl (HV hg x h)|some t=>
  obtain⟨a,b,rfl,h3⟩:=V4 hg;rcases aa2.1 h with hx|hx;·exact absurd rfl (h3 x hx)
  ·rcases aaD.1 hx with hx|hx;·rw[hx]
   ·rw[acY,aby,aeg,akD] at gW;exact absurd (abT.2 ⟨x,hx,rfl⟩) gW.2.1.1
theorem aiL:∀(l:List (Rn×Str)) (f f':Fm),lQ f l=some f'->(∀x∈l,x.1.rs.length<=1000/\x.1.sg.length<=1000)->∀x∈l,Sm x.1
 |[],f,f',h,hb,x,hx=>by cases hx
 |y::r,f,f',h,hb,x,hx=>by
  unfold lQ at h;split at h
  ·rename_i hc;rcases aaD.1 hx with rfl|hx;·have lW:=U2 hc.2;obtain⟨z1,z2⟩:=adh f x.2;obtain⟨b1,b2⟩:=hb x (.head _);exact⟨by rw[lW];omega,by rw[lW];exactλt ht=>by have:=z2 t ht;omega,b1,zzz⟩
   ·exact aiL r _ _ h (λz hz=>hb z (.tail _ hz)) x hx
  ·cases h
theorem aE3 {S:SS}{f:Fm}(h:nP S=some f)(gW:(f.aM.map (·.1)).Nodup)(hb:∀R∈S.rs,R.rs.length<=1000/\R.sg.length<=1000):iv f=S/\(∀x∈f.aw,Sm x.1)/\f.aw.length<=64/\f.ks.length<=128/\f.nms.length=S.nms.length:=by
 unfold nP at h;cases oZ:qT S with
 |true=>rw[oZ] at h;cases h
 |false=>
  rw[oZ] at h;have h':((jz {pL with ck:=S.ck} (S.nms.zip S.aM)).bind λf=>(lQ f (S.rs.zip S.fF)).bind λf=>nM f S.ks)=some f:=h;obtain⟨f1,h1,h'⟩:=aaV.1 h';obtain⟨f2,h2,h3⟩:=aaV.1 h';obtain⟨a1,a2,a3⟩:=V8 _ _ _ h1;obtain⟨r1,r2⟩:=TM _ _ _ h1;obtain⟨b1,b2,b3,b4,b5⟩:=NL _ _ _ h2;obtain⟨c1,c2,c3,c4,c5⟩:=TU _ _ _ h3;unfold qT at oZ;simp only[ahz,akX,zz5,decide_eq_false_iff_not] at oZ;obtain⟨_,_,g3,g4,g5,g6⟩:=oZ;have e1:(S.nms.zip S.aM).map (·.1)=S.nms:=by rw[List.map_fst_zip];omega
  have e2:(S.rs.zip S.fF).map (·.1)=S.rs:=by rw[List.map_fst_zip];omega
  have e3:(S.rs.zip S.fF).map (·.2)=S.fF:=by rw[List.map_snd_zip];omega
  have e4:(S.nms.zip S.aM).map (·.2)=S.aM:=by rw[List.map_snd_zip];omega
  have n1:f.nms=S.nms:=by rw[c2,b3,a1,e1];rfl
  have n2:f.aM=S.nms.zip S.aM:=by rw[c3,b4,a2];rfl
  have n3:f.aw=S.rs.zip S.fF:=by rw[c4,b2,r1];rfl
  have n4:f.ks=S.ks:=by rw[c1,b1,r2];rfl
  have n5:f.ck=S.ck:=by rw[c5,b5,a3]
  have n6:f.nms.map (jo f)=S.aM:=by
   rw[n1]
   conv=>lhs;rw[<-e1]
   conv=>rhs;rw[<-e4]
   rw[anY];refine List.map_congr_left λx hx=>?_;show (eE f.aM x.1).getD []=x.2;rw[aCz gW (by rw[n2];exact hx)];rfl
  refine⟨?_,?_,by rw[n3,ajl];omega,by rw[n4];omega,by rw[n1]⟩;·unfold iv;rw[n6,n5,n1,n3,n4,e2,e3]
  ·rw[n3];exact aiL _ _ _ h2 λx hx=>hb x.1 (List.of_mem_zip hx).1
theorem SV.mono {N M:Nat}{H:Hp}{a:SA}{S:SS}(h:SV N H a S)(hm:N<=M):SV M H a S:=⟨h.n,h.t,h.r,h.v,h.len,h.o,h.k,λj hj=>adi (h.b j hj) hm⟩
end
theorem aF6 (r:Str):∀(n k v:Nat),n*2^(7*k)<2^64->(0<k->0<n)->k<=9->rB k v (ey n++r)=some ((v+n*2^(7*k))%2^64,r):=by
 intro n;induction n using Nat.strongRecOn with
 |_ n ih=>
  intro k v hn h0 hk;by_cases hs:n<128
  ·rw[JM hs,List.singleton_append,rB,zz1 zzz,zz1 zzz,zz1 ?_,ahr hs];rintro (⟨q,z⟩|⟨q,z⟩);·have:=h0 z;omega
   ·obtain rfl:k=9:=zzz;have:2*2^(7*9)<=n*2^(7*9):=ad4 _ z;omega
  ·have h8:k<=8:=by
    rcases alV k 9 with q|q;·omega
    ·obtain rfl:k=9:=zzz;have:2*2^(7*9)<=n*2^(7*9):=ad4 _ zzz;omega
   have e:2^(7*(k+1))=128*2^(7*k):=by rw[show 7*(k+1)=7*k+7 by omega,Nat.pow_add,anP]
   have hle:n / 128*2^(7*(k+1))+n%128*2^(7*k)=n*2^(7*k):=by rw[e,<-Nat.mul_assoc,<-afs];congr 1;omega
   rw[L3 hs,List.cons_append,rB,zz1 zzz,zz2 zzz,ih (n / 128) zzz (k+1) _ zzz (λ_=>zzz) zzz];rw[show (n%128+128)%128=n%128 by omega];congr 2;rw[<-hle];omega
theorem Hi {n:Nat}(h:n<2^64)(r:Str):aY (ey n++r) false=(n,r,false):=by
 have:=aF6 r n 0 0 (by simpa using h) (λq=>absurd q zzx) zzz;unfold aY;rw[this];have e:(0+n*2^(7*0))%2^64=n:=by rw[Nat.mul_zero,Nat.pow_zero,adM,ade];exact ahr h
 rw[e]
section
variable {e:Ev}{f:Fm}{i m:Nat}
theorem DN {n:Nat}(h:n<=m)(h2:n<=2147483647)(r:Str):eV (ey n++r) false m=(n,r,false):=by
 unfold eV;rw[Hi zzz];rw[zz1];rintro (q|q|q);·cases q
 ·exact absurd q (by show ¬m<n;omega)
 ·exact absurd q (by show ¬2147483647<n;omega)
theorem Fe {s:Str}(h:s.length<=m)(h2:s.length<2^64)(r:Str):gr (mo s++r) false m=(s,r,false):=by
 unfold gr mo;rw[abr,Hi h2];rw[zz1];·show ((s++r).take s.length,(s++r).drop s.length,false)=_;rw[List.take_left,List.drop_left]
 ·rintro (q|q|q);·cases q
  ·exact absurd q (by show ¬m<s.length;omega)
  ·exact absurd q (by show ¬(s++r).length<s.length;rw[aal];omega)
def rN {α:Type}(f:Str×Bool->α×Str×Bool):Nat->Str×Bool->List α×Str×Bool
 |0,s=>([],s)|n+1,s=>((f s).1::(rN f n (f s).2).1,(rN f n (f s).2).2)
theorem IT {α:Type}(f:Str×Bool->α×Str×Bool):∀(n:Nat) (s:Str×Bool),(rN f n s).1.length=n
 |0,_=>rfl|n+1,s=>by show (rN f n (f s).2).1.length+1=_;rw[IT f n]
theorem Jx {α:Type}{f:Str×Bool->α×Str×Bool}{g:α->Str}:∀(l:List α) (r:Str),(∀a∈l,∀r,f (g a++r,false)=(a,r,false))->rN f l.length ((l.map g).flatten++r,false)=(l,r,false)
 |[],r,_=>rfl|a::l,r,h=>by show ((f _).1::(rN f l.length (f _).2).1,(rN f l.length (f _).2).2)=_;rw[aby,agL,abr,h a (.head _),Jx l r λb hb=>h b (.tail _ hb)]
theorem I8 (l:Str)(b:Bool)(m:Nat):(eV l b m).1<=m:=by
 unfold eV;split;·exact aa7 _
 ·rename_i h;exact Nat.le_of_not_lt λq=>h (.inr (.inl q))
noncomputable def rT (s:Str×Bool):RT×Str×Bool:=
 let a:=eV s.1 s.2 255;let b:=eV a.2.1 a.2.2 255;let c:=aY b.2.1 b.2.2;let d:=gr c.2.1 c.2.2 64
 (⟨(a.1:Nat),(b.1:Nat),gy c.1,d.1⟩,d.2)
noncomputable def getM (D:List Tk)(s:Str×Bool):Rn×Str×Bool:=
 let a:=eV s.1 s.2 255;let t:=rN rT D.length a.2;let c:=eV t.2.1 t.2.2 16;let g:=rN (λs=>gr s.1 s.2 16) c.1 c.2
 (⟨D,(a.1:Nat),t.1,g.1⟩,g.2)
def Bo (l:List (Str×Str))(s:Str):Str:=(eE l s).getD []
def rD (s:Str×Bool):(Str×Str)×Str×Bool:=
 let a:=gr s.1 s.2 16;let b:=gr a.2.1 a.2.2 1024
 ((a.1,b.1),b.2)
noncomputable def rQ (l:List (Str×Str))(s:Str×Bool):(Rn×Str)×Str×Bool:=
 let a:=gr s.1 s.2 16;let g:=getM (aG (Bo l a.1)).1 a.2
 ((g.1,a.1),g.2)
def rY (s:Str×Bool):Ke×Str×Bool:=
 let a:=gr s.1 s.2 16;let b:=gr a.2.1 a.2.2 16;let c:=eV b.2.1 b.2.2 64
 (((a.1,b.1),((c.1:Nat):Int)),c.2)
noncomputable def wP (s:Str×Bool):SS×Str×Bool:=
 let c:=aY s.1 s.2;let n:=eV c.2.1 c.2.2 16;let d:=rN rD n.1 n.2;let m:=eV d.2.1 d.2.2 64;let q:=rN (rQ d.1) m.1 m.2;let k:=eV q.2.1 q.2.2 128;let y:=rN rY k.1 k.2
 (⟨gy c.1,d.1.map (·.1),d.1.map (·.2),q.1.map (·.1),q.1.map (·.2),y.1⟩,y.2)
def Az (f:Fm):Str:=ey (2*f.ck.toNat)++(ey f.nms.length++(((f.nms.zip (f.nms.map (jo f))).map wD).flatten++(ey f.aw.length++((f.aw.map wX).flatten++(ey f.ks.length++(f.ks.map yK).flatten)))))
def nZ (f:Fm)(off:Nat):Str:=ey (2*off)++Az f
def cq (f:Fm)(off:Nat):Str:=nZ f off++yJ (zB (nZ f off))
theorem avt {t:RT}(h:SR t)(hd:t.iP.length<=64)(r:Str):rT (vu t++r,false)=(t,r,false):=by obtain⟨⟨a1,a2⟩,⟨b1,b2⟩,⟨c1,c2⟩,d⟩:=h;unfold rT vu;simp only[abr];rw[DN zzz zzz];simp only;rw[DN zzz zzz];simp only;rw[Hi zzz];simp only;rw[Fe hd zzz,Vj zzz];simp only[afV a1,afV b1,afV c1]
structure PM (R:Rn):Prop where
 w:okW R
 d:∀t∈R.rs,t.iP.length<=64
 len:R.rs.length=R.ts.length
 n:R.rs.length<=16
 sn:R.sg.length<=16
 sg:∀s∈R.sg,s.length<=16
theorem aHs {R:Rn}(h:PM R)(r:Str):getM R.ts (zY R++r,false)=(R,r,false):=by have hs:=h.w.st;have hn:=h.sn;unfold getM zY;simp only[abr];rw[DN zzz zzz];simp only;rw[<-h.len,Jx R.rs _ λt ht r=>avt (h.w.ts t ht) (h.d t ht) r];simp only;rw[DN zzz zzz];simp only;rw[Jx (f:=λs:Str×Bool=>gr s.1 s.2 16) R.sg _ λs hs r=>Fe (h.sg s hs) (by have:=h.sg s hs;omega) r];simp only[afV hs.1]
theorem aFe {x:Str×Str}(h1:x.1.length<=16)(h2:x.2.length<=1024)(r:Str):rD (wD x++r,false)=(x,r,false):=by unfold rD wD;rw[abr,Fe h1 zzz];simp only;rw[Fe h2 zzz]
theorem azc {l:List (Str×Str)}{x:Rn×Str}(h:PM x.1)(h1:x.2.length<=16)(hp:(aG (Bo l x.2)).1=x.1.ts)(r:Str):rQ l (wX x++r,false)=(x,r,false):=by unfold rQ wX;rw[abr,Fe h1 zzz];simp only;rw[hp,aHs h]
theorem aqq {x:Ke}(h1:x.1.1.length<=16)(h2:x.1.2.length<=16)(h3:0<=x.2)(h4:x.2<=64)(r:Str):rY (yK x++r,false)=(x,r,false):=by unfold rY yK;rw[abr,Fe h1 zzz];simp only;rw[abr,Fe h2 zzz];simp only;rw[DN zzz zzz];simp only[afV h3]
def bB (s:Str):Prop:=∀c∈s,c<256
def DB (R:Rn):Prop:=∀r∈R.rs,bB r.iP
structure FB (f:Fm):Prop where
 r:∀x∈f.aw,DB x.1
 k:∀x∈f.ks,bB x.1.2
theorem fb0:FB pL:=⟨λx hx=>(by cases hx),λx hx=>(by cases hx)⟩
theorem xD:DB tt:=λr hr=>by cases hr
theorem Tb {R:Rn}(h:DB R){u:RT}(hu:bB u.iP):∀r∈R.rs.set i u,bB r.iP:=λr hr=>(mem_set hr).elim (h r) λq=>q▸hu
theorem acg {R:Rn}(h:DB R):DB (js R):=by
 intro r hr;obtain⟨i,hi⟩:=aca hr;have hz:(List.zipWith (lI R.rs R.sg) R.ts R.rs)[i]?=some r:=hi;rw[ac2] at hz;cases ht:R.ts[i]? with
 |none=>rw[ht] at hz;cases hz
 |some t=>
  cases hq:R.rs[i]? with
  |none=>rw[ht,hq] at hz;cases hz
  |some q=>
   rw[ht,hq] at hz;obtain rfl:=acd hz;have:=h q (aac hq);unfold lI;split<;>exact this
theorem adE {R:Rn}(h:DB R){t:RT}(ht:R.rs[i]?=some t)(d:Tk)(now:Int):DB (nw R i t d now):=by have hu:bB t.iP:=h t (aac ht);unfold nw;split<;>exact Tb h hu
theorem as0 {R:Rn}(h:DB R)(i:Nat)(now:Int):DB (lX now R i):=by
 unfold lX;split
 ·rename_i t d ht hd;have hu:bB t.iP:=h t (aac ht);split;·exact h
  ·split;·exact adE h ht d now
   ·split;·exact Tb h hu
    ·exact h
 ·exact h
theorem ani (now:Int):∀(m i:Nat) (R:Rn),DB R->DB (zv now m i R)
 |0,i,R,h=>h|m+1,i,R,h=>ani now m (i+1) _ (as0 h i now)
theorem axl {R:Rn}(h:DB R)(he:bB e.dt)(ck:Int):DB (nX R e ck).1:=by
 unfold nX;split
 ·unfold qn;split
  ·split
   ·rename_i t d ht hd;split
    ·split;·exact Tb h (h t (aac ht))
     ·exact xD
    ·exact xD
   ·exact xD
  ·exact xD
 ·split
  ·unfold rS;split;·exact acg (Tb h he)
   ·exact xD
  ·split
   ·unfold Ae;split
    ·split;·rename_i t d ht hd;exact adE h ht d ck
     ·exact xD
    ·exact xD
   ·split
    ·unfold u9;split;·exact xD
     ·split;·exact xD
      ·split;·exact acg (R:={R with sg:=R.sg++[e.nm]}) h
       ·exact xD
    ·unfold yU;split;·exact xD
     ·exact h
theorem aDc (ts:List Tk):DB (bh ts).1:=by
 unfold bh;split;·refine acg λr hr=>?_;obtain⟨_,rfl⟩:=List.mem_replicate.1 hr;intro c hc;cases hc
 ·exact xD
theorem afM (h:FB f)(h1:bB e.dt)(h2:bB e.ky):FB (qu f e).1:=by
 unfold qu;split
 ·split
  ·unfold mH;split;·exact h
   ·split;·exact h
    ·split;·exact h
     ·exact⟨h.r,h.k⟩
  ·split
   ·unfold Hc;split;·exact h
    ·split;·exact h
     ·split;·exact h
      ·split;·exact h
       ·split;·exact h
        ·refine⟨λx hx=>?_,λx hx=>?_⟩
         ·rcases aa2.1 hx with q|q;·exact h.r x q
          ·rw[No] at q;subst q;exact aDc _
         ·have wi:x∈(if e.ky=[] then f.ks else f.ks++[((e.nm,e.ky),e.rn)]):=hx;split at wi;·exact h.k x wi
          ·rcases aa2.1 wi with q|q;·exact h.k x q
           ·rw[No] at q;subst q;exact h2
   ·split
    ·unfold G0;split;·exact h
     ·refine⟨λx hx=>?_,h.k⟩;obtain⟨y,hy,rfl⟩:=abT.1 hx;exact ani _ _ _ _ (h.r y hy)
    ·split;·exact h
     ·split;·exact h
      ·unfold FX;split;·exact h
       ·rename_i x hx;split
        ·refine⟨λy hy=>?_,h.k⟩;rcases adt hy with q|q;·exact h.r y q
         ·subst q;exact axl (h.r x (aac hx)) h1 _
        ·exact h
 ·exact h
structure okM (f:Fm):Prop where
 nm:∀s∈f.nms,s.length<=16/\bB s/\(jo f s).length<=1024/\bB (jo f s)
 rn:∀x∈f.aw,PM x.1/\x.2∈f.nms/\(aG (jo f x.2)).1=x.1.ts/\DB x.1/\∀s∈x.1.sg,bB s
 ks:∀y∈f.ks,y.1.1∈f.nms/\y.1.2.length<=16/\bB y.1.2/\0<=y.2/\y.2<=64
 nn:f.nms.length<=16
 nr:f.aw.length<=64
 nk:f.ks.length<=128
 ck:0<=f.ck/\f.ck<=1099511627776
 sm:∀x∈f.aw,Sm x.1
theorem ajb {s:Str}(h:tY s=true):s.length<=16/\bB s:=⟨(TQ h).2.1,λc hc=>(QX c ((TQ h).2.2 c hc)).2.2.2.2⟩
theorem TN {t:Str}(h:(aG t).2=0):bB (lE (aG t).1)/\t.length<=1024/\∀k∈(aG t).1,k.on.length<=16/\bB k.on:=by
 obtain⟨g1,hF,_,_,_,g6,_⟩:=QA h;refine⟨λz hz=>?_,g6,λk hk=>?_⟩
 ·unfold lE at hz;rw[zz2 g1] at hz;rcases Q9 hz with rfl|⟨s,hs,hb⟩;·decide
  ·obtain⟨t,ht,rfl⟩:=abT.1 hs;exact (aaH hF ht z hb).2
 ·rcases hF.on k hk with q|⟨q1,q2⟩;·rw[q];exact⟨zzy,λc hc=>by cases hc⟩
  ·exact⟨q1,λc hc=>(QX c (q2 c hc)).2.2.2.2⟩
theorem Us {s t:Str}(h:eE f.aM s=some t):jo f s=t:=by unfold jo;rw[h];rfl
theorem YD (h:FI f)(hb:FB f):okM f:=by
 have rP:∀{s t:Str},eE f.aM s=some t->s∈f.nms:=λhs=>by rw[<-h.nt];exact abT.2 ⟨_,Fs hs,rfl⟩
 refine⟨λs hs=>?_,λx hx=>?_,λy hy=>?_,h.nn,h.nr,by have:=h.nk;have:=h.nr;omega,h.ck,λx hx=>(h.run x hx).1.i0.ok.sm⟩;·rw[<-h.nt] at hs;obtain⟨x,hx,rfl⟩:=abT.1 hs;obtain⟨a,b,c⟩:=h.tx x hx;obtain⟨u,v⟩:=ajb a;obtain⟨w1,w2,_⟩:=TN b;rw[Us (aap (by rw[h.nt];exact h.nd) hx)];exact⟨u,v,w2,by rw[c] at w1;exact w1⟩
 ·obtain⟨hr,t,ht,hp⟩:=h.run x hx;obtain⟨a,b,c⟩:=h.tx _ (Fs ht);have sf:=(TN b).2.2;have rK:∀s∈x.1.sg,s.length<=16/\bB s:=λs hs=>by obtain⟨_,k,hk,rfl⟩:=hr.sk s hs;exact sf k (by rw[hp];exact hk)
  have n2:=hr.i0.n2;have g:=hr.sg;have st:=hr.st;have bd:=hr.i0.bd.t;have tr:∀r∈x.1.rs,0<=r.tr/\r.tr<=255:=λr dH=>by obtain⟨i,hi⟩:=aca dH;have aV:=(aag.1 hi).1;have ht:x.1.ts[i]?=some (x.1.ts[i]'(by rw[<-hr.i0.ok.len];exact aV)):=aaC _;have u:=hr.i0.tr i _ r ht hi;have v:=hr.i0.td _ (aac ht);omega
  refine⟨⟨⟨zzz,λr dH=>?_,zzz,λs hs=>by have:=(rK s hs).1;omega,zzz⟩,λr dH=>(hr.ti r dH).dt,hr.i0.ok.len,n2,g,λs hs=>(rK s hs).1⟩,rP ht,by rw[Us ht];exact hp,hb.r x hx,λs hs=>(rK s hs).2⟩;have ti:=hr.ti r dH;exact⟨by have:=ti.ph;omega,tr r dH,by have:=ti.tl;omega,by have:=ti.dt;omega⟩
 ·obtain⟨a,b,⟨z,c1,c2⟩,d,e⟩:=h.kk y hy;have:=h.nr;obtain⟨_,t,ht,_⟩:=h.run z (aac c1);exact⟨by rw[<-c2];exact rP ht,e,hb.k y hy,zzz,zzz⟩
theorem alS:∀(l:List (Str×Str)) (f f':Fm),jz f l=some f'->∀x∈l,tY x.1=true/\(aG x.2).2=0/\lE (aG x.2).1=x.2
 |[],f,f',h,x,hx=>by cases hx
 |y::r,f,f',h,x,hx=>by
  unfold jz at h;split at h
  ·rename_i hc;rcases aaD.1 hx with rfl|hx
   ·refine⟨hc.1,?_,hc.2.1⟩;have h2:=hc.2.2;unfold mH at h2;split at h2;·cases h2
    ·split at h2;·rename_i n2;exact absurd h2 n2
     ·rename_i n2;exact ajy.1 n2
   ·exact alS r _ _ h x hx
  ·cases h
theorem alq:∀(l:List (Rn×Str)) (f f':Fm),lQ f l=some f'->∀x∈l,∃t,eE f.aM x.2=some t/\wo x.1 (aG t).1=true
 |[],f,f',h,x,hx=>by cases hx
 |y::r,f,f',h,x,hx=>by
  unfold lQ at h;split at h
  ·rename_i hc;rcases aaD.1 hx with rfl|hx;·obtain⟨t,ht⟩:=ajm.1 hc.1;refine⟨t,ht,?_⟩;have:=hc.2;unfold tJ at this;rw[ht] at this;exact this
   ·exact alq r _ _ h x hx
  ·cases h
theorem afm:∀(l:List Ke) (f f':Fm),nM f l=some f'->∀y∈l,1<=y.2/\y.2<=(f.aw.length:Int)/\y.1.2.length<=16/\∃x∈f.aw,x.2=y.1.1
 |[],f,f',h,x,hx=>by cases hx
 |z::r,f,f',h,y,hy=>by
  have h':(bif qd f z then nM {f with ks:=f.ks++[z]} r else none)=some f':=h;cases hk:qd f z with
  |false=>rw[hk] at h';cases h'
  |true=>
   rw[hk] at h';rcases aaD.1 hy with rfl|hy
   ·unfold qd at hk;simp only[aaM,zz5] at hk;obtain⟨a,b,c,d,e,_⟩:=hk;refine⟨a,b,e,?_⟩;cases hq:f.aw[(y.2-1).toNat]? with
    |none=>rw[hq] at c;simp at c|some x=>
     rw[hq] at c;exact⟨x,aac hq,by simpa using c⟩
   ·exact afm r _ _ h' y hy
theorem aem {S:SS}(h:nP S=some f)(gW:(f.aM.map (·.1)).Nodup)(hb:∀R∈S.rs,R.rs.length<=16/\R.sg.length<=16/\DB R)(hn:S.nms.length<=16)(hk:∀y∈S.ks,bB y.1.2):okM f:=by
 obtain⟨p1,p2,p3,p4,p5⟩:=aE3 h gW λR hR=>by have:=hb R hR;omega
 unfold nP at h;cases oZ:qT S with
 |true=>rw[oZ] at h;cases h
 |false=>
  rw[oZ] at h;have h':((jz {pL with ck:=S.ck} (S.nms.zip S.aM)).bind λf=>(lQ f (S.rs.zip S.fF)).bind λf=>nM f S.ks)=some f:=h;obtain⟨f1,h1,h'⟩:=aaV.1 h';obtain⟨f2,h2,h3⟩:=aaV.1 h';obtain⟨a1,a2,a3⟩:=V8 _ _ _ h1;obtain⟨r1,r2⟩:=TM _ _ _ h1;obtain⟨b1,b2,b3,b4,b5⟩:=NL _ _ _ h2;obtain⟨c1,c2,c3,c4,c5⟩:=TU _ _ _ h3;unfold qT at oZ;simp only[ahz,akX,zz5,decide_eq_false_iff_not] at oZ;obtain⟨g1,g2,g3,g4,g5,g6⟩:=oZ;have n1:f.nms=(S.nms.zip S.aM).map (·.1):=by rw[c2,b3,a1];rfl
  have n2:f.aM=S.nms.zip S.aM:=by rw[c3,b4,a2];rfl
  have n3:f.aw=S.rs.zip S.fF:=by rw[c4,b2,r1];rfl
  have n4:f.ks=S.ks:=by rw[c1,b1,r2];rfl
  have n5:f.ck=S.ck:=by rw[c5,b5,a3]
  have t1:f1.aM=f.aM:=by rw[c3,b4]
  have hT:=alS _ _ _ h1;have rP:∀{s t:Str},eE f.aM s=some t->s∈f.nms:=λhs=>by rw[n1,<-n2];exact abT.2 ⟨_,Fs hs,rfl⟩
  have iR:∀x∈f.aw,∃t,eE f.aM x.2=some t/\wo x.1 (aG t).1=true:=λx hx=>by rw[n3] at hx;rw[<-t1];exact alq _ _ _ h2 x hx
  refine⟨λs hs=>?_,λx hx=>?_,λy hy=>?_,zzz,p3,p4,by rw[n5];omega,p2⟩;·rw[n1,<-n2] at hs;obtain⟨x,hx,rfl⟩:=abT.1 hs;obtain⟨a,b,c⟩:=hT x (by rw[<-n2];exact hx);obtain⟨u,v⟩:=ajb a;obtain⟨w1,w2,_⟩:=TN b;rw[Us (aap gW hx)];exact⟨u,v,w2,by rw[c] at w1;exact w1⟩
  ·obtain⟨t,ht,hm⟩:=iR x hx;obtain⟨a,b,c⟩:=hT _ (by rw[<-n2];exact Fs ht);have lW:=U2 hm;unfold wo at hm;simp only[aaM,zz5] at hm;obtain⟨m1,m2,m3,m4,m5,m6⟩:=hm;unfold nu at m2;simp only[aaM,zz5] at m2;have wi:=hx;rw[n3] at wi;obtain⟨u1,u2,u3⟩:=hb x.1 (List.of_mem_zip wi).1;have hg:=IL b;have sf:=(TN b).2.2;have rK:∀s∈x.1.sg,s.length<=16/\bB s:=λs hs=>by
    obtain⟨i,hi⟩:=aca hs;have aV:=(aag.1 hi).1;have:=acT.1 m6 (uk (aG t).1 x.1.sg s i) (aac (i:=i) (by rw[ac2,hi,List.getElem?_range aV]));unfold uk at this;simp only[id_eq,aaM,List.any_eq_true] at this;obtain⟨_,_,k,hk,q⟩:=this;have q':k.on=s:=by simpa using q
    rw[<-q'];exact sf k hk
   refine⟨⟨⟨zzz,λr hr=>?_,zzz,λs hs=>by have:=(rK s hs).1;omega,zzz⟩,λr hr=>?_,by rw[lW];exact m3,u1,u2,λs hs=>(rK s hs).1⟩,rP ht,by rw[Us ht];exact lW.symm,u3,λs hs=>(rK s hs).2⟩
   all_goals
    obtain⟨i,hi⟩:=aca hr;have aV:=(aag.1 hi).1;have hk:(aG t).1[i]?=some ((aG t).1[i]'(by rw[<-m3];exact aV)):=aaC _;have q:=acT.1 m5 (Ar ((aG t).1[i]'(by rw[<-m3];exact aV)) r) (aac (i:=i) (by rw[ac2,hi,hk]));unfold Ar nu at q;simp only[id_eq,aaM,zz5,alL,decide_eq_false_iff_not] at q;obtain⟨q1,q2,q3,q4,q5,_⟩:=q;have o3:=(hg.2.2.2.2.2 _ (aac hk)).2;unfold uA at o3;simp only[ahz,akX,aaM,zz5] at o3
    first|omega|exact⟨zzz,zzz,zzz,zzz⟩
  ·obtain⟨a,b,c,x,hx,hy2⟩:=afm _ _ _ h3 y (by rw[<-n4];exact hy);have e:f2.aw=f.aw:=c4.symm;rw[e] at b hx;obtain⟨t,ht,_⟩:=iR x hx;exact⟨by rw[<-hy2];exact rP ht,c,hk y (by rw[<-n4];exact hy),zzz,zzz⟩
theorem xE:∀n:Nat,bB (ey n):=by
 intro n;induction n using Nat.strongRecOn with
 |_ n ih=>
  by_cases hs:n<128;·rw[JM hs];intro c hc;rw[No] at hc;omega
  ·rw[L3 hs];intro c hc;rcases aaD.1 hc with rfl|q;·omega
   ·exact ih (n / 128) zzz c q
theorem oK {a b:Str}(h:bB a)(k:bB b):bB (a++b):=λc hc=>(aa2.1 hc).elim (h c) (k c)
theorem NC {α:Type}{g:α->Str}{l:List α}(h:∀a∈l,bB (g a)):bB (l.map g).flatten:=λc hc=>by obtain⟨m,hm,hc⟩:=akG.1 hc;obtain⟨a,ha,rfl⟩:=abT.1 hm;exact h a ha c hc
theorem Fj {s:Str}(h:bB s):bB (mo s):=oK (xE _) h
theorem ay7 (h:okM f):bB (Az f):=by
 refine oK (xE _) (oK (xE _) (oK (NC λx hx=>?_) (oK (xE _) (oK (NC λx hx=>?_) (oK (xE _) (NC λx hx=>?_))))));·obtain⟨i,hi⟩:=aca hx;obtain⟨a,b⟩:=DM hi;rw[ab9,aaq] at b;obtain⟨s,hs,e⟩:=b;rw[a] at hs;cases hs;obtain⟨_,q1,_,q2⟩:=h.nm x.1 (aac a);exact oK (Fj q1) (by rw[<-e];exact Fj q2)
 ·obtain⟨_,a,_,c,d⟩:=h.rn x hx;exact oK (Fj (h.nm _ a).2.1) (oK (xE _) (oK (NC λt ht=>oK (xE _) (oK (xE _) (oK (xE _) (Fj (c t ht))))) (oK (xE _) (NC λs hs=>Fj (d s hs)))))
 ·obtain⟨a,_,b,_⟩:=h.ks x hx;exact oK (Fj (h.nm _ a).2.1) (oK (Fj b) (xE _))
theorem Xl (h:okM f)(off:Nat):bB (nZ f off):=oK (xE _) (ay7 h)
theorem ahJ {R:Rn}(h:PM R):(zY R).length<=4100:=by have e1:=nW (n:=R.st.toNat) (by have:=h.w.st;omega);have e2:=yF (f:=vu) (c:=140) (l:=R.rs) λt ht=>Tc (h.w.ts t ht);have e3:=nW (n:=R.sg.length) (by have:=h.sn;omega);have e4:=yF (f:=mo) (c:=26) (l:=R.sg) λs hs=>afz (rA (by have:=h.sg s hs;omega)) (by have:=h.sg s hs;omega);have:=h.n;have:=h.sn;unfold zY;simp only[aal];omega
theorem aBQ (h:okM f):(Az f).length<=400000:=by
 have ck:=h.ck;have n1:=h.nn;have n2:=h.nr;have n3:=h.nk;have a1:=nW (n:=2*f.ck.toNat) zzz;have a2:=nW (n:=f.nms.length) zzz;have a3:=nW (n:=f.aw.length) zzz;have a4:=nW (n:=f.ks.length) zzz;have b1:=yF (f:=wD) (c:=1060) (l:=f.nms.zip (f.nms.map (jo f))) λx hx=>by obtain⟨i,hi⟩:=aca hx;obtain⟨a,b⟩:=DM hi;rw[ab9,aaq] at b;obtain⟨s,hs,e⟩:=b;rw[a] at hs;cases hs;obtain⟨q1,_,q2,_⟩:=h.nm x.1 (aac a);rw[e] at q2;have u1:=rA (s:=x.1) zzz;have u2:=rA (s:=x.2) zzz;unfold wD;rw[aal];omega
 rw[ajl,abv,ajT] at b1;have b2:=yF (f:=wX) (c:=4200) (l:=f.aw) λx hx=>by obtain⟨a,b,_⟩:=h.rn x hx;have u1:=rA (s:=x.2) (by have:=(h.nm _ b).1;omega);have u2:=ahJ a;have:=(h.nm _ b).1;unfold wX;rw[aal];omega
 have b3:=yF (f:=yK) (c:=70) (l:=f.ks) λy hy=>by obtain⟨a,b,_,c,d⟩:=h.ks y hy;have u0:=(h.nm _ a).1;have u1:=rA (s:=y.1.1) zzz;have u2:=rA (s:=y.1.2) zzz;have u3:=nW (n:=y.2.toNat) zzz;unfold yK;simp only[aal];omega
 unfold Az;simp only[aal];omega
theorem aoz (h:okM f){off:Nat}(ho:off<2^62):(nZ f off).length<=400010:=by have:=aBQ h;have:=nW (n:=2*off) zzz;unfold nZ;rw[aal];omega
theorem aiP (g:Str->Str):∀(l:List Str) (s:Str),s∈l->Bo (l.zip (l.map g)) s=g s
 |a::l,s,h=>by
  unfold Bo eE;rw[aby,List.zip_cons_cons,List.find?_cons];by_cases q:a=s;·subst q;simp
  ·have e:(a==s)=false:=by simpa using q
   rw[e];exact aiP g l s ((aaD.1 h).elim (λz=>absurd z.symm q) id)
theorem ZV (h:okM f)(X:Str):wP (Az f++X,false)=(iv f,X,false):=by
 have ck:=h.ck;have n1:=h.nn;have n2:=h.nr;have n3:=h.nk;have hz:(f.nms.zip (f.nms.map (jo f))).length=f.nms.length:=by rw[ajl,abv,ajT]
 unfold wP Az;simp only[abr];rw[Hi zzz];simp only;rw[DN zzz zzz];simp only;have s1:=λr=>Jx (f:=rD) (g:=wD) (f.nms.zip (f.nms.map (jo f))) r λx hx r=>by obtain⟨i,hi⟩:=aca hx;obtain⟨a,b⟩:=DM hi;rw[ab9,aaq] at b;obtain⟨s,hs,e⟩:=b;rw[a] at hs;cases hs;obtain⟨q1,_,q2,_⟩:=h.nm x.1 (aac a);exact aFe q1 (by rw[<-e];exact q2) r
 rw[hz] at s1;rw[s1];simp only;rw[DN zzz zzz];simp only;rw[Jx (f:=rQ (f.nms.zip (f.nms.map (jo f)))) (g:=wX) f.aw _ λx hx r=>by obtain⟨a,b,c,_⟩:=h.rn x hx;exact azc a (h.nm _ b).1 (by rw[aiP _ _ _ b];exact c) r];simp only;rw[DN zzz zzz];simp only;rw[Jx (f:=rY) (g:=yK) f.ks _ λy hy r=>by obtain⟨a,b,_,c,d⟩:=h.ks y hy;exact aqq (h.nm _ a).1 b c d r];have e1:(f.nms.zip (f.nms.map (jo f))).map (·.1)=f.nms:=List.map_fst_zip (by rw[abv];exact aaO _);have e2:(f.nms.zip (f.nms.map (jo f))).map (·.2)=f.nms.map (jo f):=List.map_snd_zip (by rw[abv];exact aaO _);simp only[e1,e2,Vj (n:=f.ck.toNat) zzz,afV ck.1];rfl
end
theorem BY (v:Nat):(yJ v).length=4:=rfl
theorem aAA (v:Nat):bB (yJ v):=λc hc=>by unfold yJ at hc;simp only[aa2,No] at hc;rcases hc with rfl|rfl|rfl|rfl<;>exact amP _ zzx
theorem Hu {f:Fm}(h:okM f)(off:Nat):bB (cq f off):=oK (Xl h off) (aAA _)
theorem R4 {H:Hp}{p:Nat}{a:FA}{f:Fm}(h:FL H p a f)(hm:okM f){off:Nat}(ho:off<=17592186044415):
  ∃x H',cK (zf 26) [.ptr p 0,zi (off:Nat)] H=some (x,H')/\Ow H' 5 1 x (bs (cq f off))/\Out [] H H'/\∀j∈ak x,H.next<=j:=by
 have ck:=hm.ck;have q1:=hm.nn;have q2:=hm.nr;have q3:=hm.nk;obtain⟨sa,q,H1,s1,s2,s3⟩:=aqz h zzz zzz zzz hm.sm;have n1:=s3.1;have S1:=s2.sv;have o2:=aD H1 (fe sa (iv f)) 50 0;have c2:=aP H1 (fe sa (iv f)) 50 0;have m2:(al H1 (fe sa (iv f)) 50 0).next=H1.next+1:=rfl;have aC:st 6 (.ptr H1.next 0) (.agg (fe sa (iv f))) (al H1 [(zi 0),.ah,.ah,.ah,.ah,.ah] 50 0)=some (al H1 (fe sa (iv f)) 50 0):=gJ (by simp[fe,S1.n.one,S1.t.one,S1.r.one,S1.o.one,S1.k.one,iS]) rfl rfl zzx rfl;generalize bq:al H1 (fe sa (iv f)) 50 0=H2 at*
 have o3:=aD H2 [.ah] 115 0;have c3:=aP H2 [.ah] 115 0;generalize iB:al H2 [.ah] 115 0=H3 at*
 have W3:Wr H1 H1.next H3 H1.next H2.next sa (iv f) .ah []:=⟨S1.au (o2.trans o3),c2.out o3 zzy,⟨c3,.nil,by simp[ak]⟩,aaO _,zzz,λj hj=>by simp[ak] at hj,jN.Mj (o2.trans o3)⟩;have u1:=nW (n:=2*off) zzz;have u2:=nW (n:=2*f.ck.toNat) zzz;have u3:=nW (n:=f.nms.length) zzz;have u4:=nW (n:=f.aw.length) zzz;have u5:=nW (n:=f.ks.length) zzz;obtain⟨x4,H4,a1,a2,a3⟩:=acN W3.e (n:=off) zzz (by simp;omega);have W4:=W3.step a2 a3;have e4:cellAt H4 H1.next 0=some (zi ((f.ck.toNat:Nat):Int)):=by rw[afV ck.1];exact W4.c.cellAt rfl
 obtain⟨x5,H5,b1,b2,b3⟩:=acN a2 (n:=f.ck.toNat) zzz (by simp;omega);have W5:=W4.step b2 b3;have e5:cellAt H5 H1.next 1=some sa.nx:=W5.c.cellAt rfl;have l5:=W5.s.n.gu;rw[gZ] at l5;have w5:IntKind.wrap .u64 ((f.nms.length:Nat):Int)=(f.nms.length:Nat):=wrap_u64 zzz;obtain⟨x6,H6,y1,y2,y3⟩:=Ay b2 (n:=f.nms.length) zzz (by simp;omega);have W6:=W5.step y2 y3;have e6:cellAt H6 H1.next 1=some sa.nx:=W6.c.cellAt rfl;have hz:((iv f).nms.zip (iv f).aM).length=f.nms.length:=by show (f.nms.zip (f.nms.map (jo f))).length=_;rw[ajl,abv,ajT]
 have AY:((iv f).rs.zip (iv f).fF)=f.aw:=acC f.aw;have JD:(iv f).rs.length=f.aw.length:=by show (f.aw.map (·.1)).length=_;rw[abv]
 have L6:([]++ey (2*off)++ey (2*f.ck.toNat)++ey f.nms.length).length<=30:=by simp;omega
 obtain⟨x7,H7,g1,W7⟩:=aeI (S:=iv f) (by show (f.nms.map (jo f)).length=f.nms.length;rw[abv]) (λs hs=>by have:=(hm.nm s hs).1;omega) (λs hs=>by obtain⟨t,ht,rfl⟩:=abT.1 hs;have:=(hm.nm t ht).2.2.1;omega) (by show f.nms.length<=1000;omega) _ 0 H6 x6 _ (aa7 _) aaY W6 (by rw[hz];omega);rw[show (((0:Nat):Int))=0 from rfl] at g1;have L7:=yF (f:=wD) (c:=1060) (l:=(iv f).nms.zip (iv f).aM) λx hx=>by obtain⟨i,hi⟩:=aca hx;obtain⟨a,b⟩:=DM hi;have b:(f.nms.map (jo f))[i]?=some x.2:=b;rw[ab9,aaq] at b;obtain⟨s,hs,e⟩:=b;have a:f.nms[i]?=some x.1:=a;rw[a] at hs;cases hs;obtain⟨q1,_,q2,_⟩:=hm.nm x.1 (aac a);rw[e] at q2;have u1:=rA (s:=x.1) zzz;have u2:=rA (s:=x.2) zzz;unfold wD;rw[aal];omega
 rw[hz] at L7;have e7:cellAt H7 H1.next 3=some sa.rx:=W7.c.cellAt rfl;have l7:=W7.s.r.len zzx;rw[aeV,W7.s.len,ajT,JD] at l7;have w7:IntKind.wrap .u64 ((f.aw.length:Nat):Int)=(f.aw.length:Nat):=wrap_u64 zzz;obtain⟨x8,H8,i1,i2,i3⟩:=Ay W7.e (n:=f.aw.length) zzz (by rw[aal];omega);have W8:=W7.step i2 i3;have e8:cellAt H8 H1.next 3=some sa.rx:=W8.c.cellAt rfl;obtain⟨x9,H9,j1,W9⟩:=apB (S:=iv f) (by rw[JD];show (f.aw.map (·.2)).length=_;rw[abv]) (λs hs=>by
  obtain⟨x,hx,rfl⟩:=abT.1 hs;have:=(hm.nm _ (hm.rn x hx).2.1).1;omega) (λR hR=>by
  obtain⟨x,hx,rfl⟩:=abT.1 hR;exact (hm.rn x hx).1.w) (by rw[JD];omega) _ 0 H8 x8 _ (aa7 _) aaY W8 (by rw[AY];simp only[aal] at L6⊢;omega)
 rw[show (((0:Nat):Int))=0 from rfl,JD] at j1;rw[AY] at W9;have L9:=yF (f:=wX) (c:=4200) (l:=f.aw) λx hx=>by obtain⟨a,b,_⟩:=hm.rn x hx;have u1:=rA (s:=x.2) (by have:=(hm.nm _ b).1;omega);have u2:=ahJ a;have:=(hm.nm _ b).1;unfold wX;rw[aal];omega
 have e9:cellAt H9 H1.next 5=some sa.kx:=W9.c.cellAt rfl;have l9:=W9.s.k.len zzx;rw[abv] at l9;have l9:aE sa.kx=some (zi (f.ks.length:Nat)):=l9;have w9:IntKind.wrap .u64 ((f.ks.length:Nat):Int)=(f.ks.length:Nat):=wrap_u64 zzz;obtain⟨cH,kW,k1,k2,k3⟩:=Ay W9.e (n:=f.ks.length) zzz (by simp only[aal] at L6⊢;omega);have W10:=W9.step k2 k3;have e10:cellAt kW H1.next 5=some sa.kx:=W10.c.cellAt rfl;obtain⟨bZ,Dq,r1,Ol⟩:=agY (S:=iv f) (λy hy=>by obtain⟨a,b,_,c,d⟩:=hm.ks y hy;have:=(hm.nm _ a).1;exact⟨zzz,zzz,c,zzz⟩) (by show f.ks.length<=1000;omega) _ 0 kW cH _ (aa7 _) aaY W10 (by show _+f.ks.length*300<=_;simp only[aal] at L6⊢;omega);rw[show (((0:Nat):Int))=0 from rfl] at r1;have ayO:[]++ey (2*off)++ey (2*f.ck.toNat)++ey f.nms.length++(((iv f).nms.zip (iv f).aM).map wD).flatten++ey f.aw.length++(f.aw.map wX).flatten++ey f.ks.length++((iv f).ks.map yK).flatten=nZ f off:=by unfold nZ Az;simp only[abr,afP];rfl
 rw[ayO] at Ol;have e11:cellAt Dq H2.next 0=some bZ:=Ol.e.c.cellAt rfl;have kM:=aoz hm (off:=off) zzz;have t1:=asb zzz (Xl hm off) Ol.e.o.rw;obtain⟨bI,Ut,v1,v2,v3⟩:=asQ Ol.e (zB (nZ f off)) zzz;have W12:=Ol.step v2 v3;have e12:cellAt Ut H2.next 0=some bI:=v2.c.cellAt rfl;refine⟨bI,Ut,aoY ?_,v2.o,?_,λj hj=>by have:=W12.xb j hj;omega⟩;·have d1:decide (((off:Nat):Int)<0)=false:=zz4 zzz;have d2:decide ((17592186044415:Int)<((off:Nat):Int))=false:=zz4 zzz;have g1':∀j,Rh JN GO cK j (.ptr H1.next 0) (.ptr H2.next 0) sa.nx (zi (f.nms.length:Nat)) (zi 0) H6=j (.ptr H1.next 0) (.ptr H2.next 0) H7:=g1;have Bn:∀j,Pr JN GO cK j (.ptr H2.next 0) sa.kx (zi (f.ks.length:Nat)) (zi 0) kW=j (.ptr H2.next 0) Dq:=r1;have l5':aE sa.nx=some (zi (f.nms.length:Nat)):=l5;unfold Yo;simp(disch:=try exact zqz)only[d1,d2,s1,aC,bq,iB,a1,e4,b1,e5,l5',w5,y1,e6,g1',e7,l7,w7,i1,e8,j1,e9,l9,w9,k1,e10,Bn,e11,t1,v1,e12,d2,ar,aq,zz0,simprocAttr]
 ·obtain⟨T,t1,t2⟩:=W12.z;exact eR s3 t1 λj hj=>by have:=t2 j hj;omega
theorem arp {H:Hp}{p:Nat}{off:Int}(ho:off<0\/17592186044415<off):cK (zf 26) [.ptr p 0,zi off] H=some (.ah,H):=by
 refine aoY ?_;unfold Yo;by_cases h:off<0;·have d1:decide (off<0)=true:=zz3 h;simp(disch:=try exact zqz)only[d1,ar,aq,zz0,simprocAttr]
 ·have d1:decide (off<0)=false:=zz4 h;have d2:decide ((17592186044415:Int)<off)=true:=zz3 zzz;simp(disch:=try exact zqz)only[d1,d2,ar,aq,zz0,simprocAttr]
structure Sl where
 o:Nat
 es:Nat
 ty:Nat
 x:AV
 L:List (List AV)
def pq (q:Nat)(K:List Nat)(S:List Sl):List (List Nat):=[q]::K::S.map (λs=>ak s.x)
structure OB (N:Nat)(H:Hp)(q:Nat)(F:List AV)(el:Nat)(K:List Nat)(S:List Sl):Prop where
 c:Cs H q F el 0
 ow:∀(i:Nat) (s:Sl),S[i]?=some s->OL H s.ty s.es s.x s.L/\F[s.o]?=some s.x/\0<s.es
 od:(S.map (·.o)).Nodup
 dj:(pq q K S).Pairwise Dj
 fr:∀l∈pq q K S,∀j∈l,N<=j/\j<H.next
section
variable {F:List AV}{H H':Hp}{K:List Nat}{N el i:Nat}{S:List Sl}
theorem OB.nq {q:Nat}(h:OB N H q F el K S):N<=q/\q<H.next:=h.fr [q] (.head _) q (.head _)
theorem WD {q:Nat}{s:Sl}(h:S[i]?=some s):(pq q K S)[i+2]?=some (ak s.x):=by show (S.map λs=>ak s.x)[i]?=_;rw[ab9,h];rfl
theorem OB.more {q:Nat}{K':List Nat}{T:List Nat}(h:OB N H q F el K S)(k:Out T H H')(hT:∀j∈T,j<N)(hK:∀j∈K',j∈K\/(H.next<=j/\j<H'.next)):OB N H' q F el K' S:=by
 have hn:=k.1;have ne:∀l∈pq q K S,∀j∈l,j∉T:=λl hl j hj z=>by have:=h.fr l hl j hj;have:=hT j z;omega
 have hq:=h.nq;have hKq:∀j∈K',N<=j/\j<H'.next:=λj hj=>(hK j hj).elim (λz=>by have:=h.fr K (.tail _ (.head _)) j z;omega) λz=>zzz;have hd:=h.dj;unfold pq at hd;rw[List.pairwise_cons,List.pairwise_cons] at hd;obtain⟨d1,d2,d3⟩:=hd;refine⟨h.c.out k (ne _ (.head _) q (.head _)),λi s hs=>?_,h.od,?_,λl hl j hj=>?_⟩;·obtain⟨a,b,c⟩:=h.ow i s hs;exact⟨a.out k (ne _ (aac (WD hs))),b,c⟩
 ·unfold pq;rw[List.pairwise_cons,List.pairwise_cons];refine⟨λl hl=>?_,λl hl j hj z=>?_,d3⟩
  ·rcases aaD.1 hl with rfl|hl;·intro j hj z;rw[No] at hj;subst hj;exact (hK _ z).elim (d1 K (.head _) _ (.head _)) λz=>zzz
   ·exact d1 l (.tail _ hl)
  ·exact (hK j hj).elim (λw=>d2 l hl j w z) λw=>by have:=h.fr l (.tail _ (.tail _ hl)) j z;omega
 ·unfold pq at hl;rcases aaD.1 hl with rfl|hl;·rw[No] at hj;subst hj;omega
  ·rcases aaD.1 hl with rfl|hl;·exact hKq j hj
   ·have:=h.fr l (.tail _ (.tail _ hl)) j hj;omega
theorem OB.au {q:Nat}(h:OB N H q F el K S)(k:Out [] H H'):OB N H' q F el K S:=h.more k (λj hj=>by cases hj) λj hj=>.inl hj
def Wa (N:Nat)(K:List Nat)(H H':Hp):Prop:=∃T,Out T H H'/\∀j∈T,N<=j/\j∉K
theorem Wa.n (h:Wa N K H H'):jN N H H':=by obtain⟨T,a,b⟩:=h;exact⟨T,a,λj hj=>(b j hj).1⟩
theorem OB.push {q:Nat}(h:OB N H q F el K S){s:Sl}(hs:S[i]?=some s){vs z:List AV}(hv:vs.all aZ=true)(hn:vs.length=s.es)(hl:(s.L.length+1)*s.es<=16777216):
  ∃x' H1 H2,(∀j,j=H.next->cL s.ty s.es z false s.x (.slice j 0 1 1 true s.es) (al H vs s.ty 0)=some (x',H1))/\st 1 (.ptr q s.o) x' H1=some H2/\OB N H2 q (F.set s.o x') el K (S.set i ⟨s.o,s.es,s.ty,x',s.L++[vs]⟩)/\Wa N K H H2:=by
 obtain⟨w1,w2,w3⟩:=h.ow i s hs;obtain⟨x',H1,p1,p2,p3,p4,p5⟩:=OL.push (el2:=s.ty) (z:=z) w1 hv hn w3 hl;have hS:=WD (q:=q) (K:=K) hs;have h0:(pq q K S)[0]?=some [q]:=rfl;have sep:∀{j:Nat} {l:List Nat},i+2≠j->(pq q K S)[j]?=some l->∀y∈l,y∉ak s.x:=λmO hj=>(zq h.dj mO hS hj).symm;have hq:=h.nq;have hqs:q∉ak s.x:=sep zzz h0 q (.head _);have hqx:q∉ak x':=λe=>(p4 q e).elim hqs λe=>zzz;have hF:s.o<F.length:=(aag.1 w2).1;obtain⟨H2,s1,s2,s3,s4⟩:=ff (h.c.out p3 hqs) zzx (o:=s.o) hF p5;have n1:=p3.1;have mR:pq q K (S.set i ⟨s.o,s.es,s.ty,x',s.L++[vs]⟩)=(pq q K S).set (i+2) (ak x'):=by unfold pq;rw[List.set_cons_succ,List.set_cons_succ,List.map_set]
 have aV:i<S.length:=(aag.1 hs).1;refine⟨x',H1,H2,p1,s1,⟨s2,λk t ht=>?_,?_,?_,λl qZ j hj=>?_⟩,⟨ak s.x++[q],(p3.mono λj hj=>aa1 _ hj).trans (s3.mono λj hj=>aaT _ hj),λj hj=>?_⟩⟩
 ·by_cases hk:i=k;·subst hk;rw[aeH aV] at ht;cases ht;refine⟨p2.out s3 λj hj e=>by rw[No] at e;subst e;exact hqx hj,?_,w3⟩;show (F.set s.o x')[s.o]?=some x';rw[aeH hF]
  ·rw[ajA hk] at ht;obtain⟨a,b,c⟩:=h.ow k t ht;have hT:=WD (q:=q) (K:=K) ht;have ho:s.o≠t.o:=λe=>by
    have kN:=(aag.1 ht).1;have e1:(S.map (·.o))[i]?=some s.o:=by rw[ab9,hs];rfl
    have e2:(S.map (·.o))[k]?=some s.o:=by rw[ab9,ht,e];rfl
    obtain⟨i1,i2⟩:=aag.1 e1;obtain⟨k1,k2⟩:=aag.1 e2;have od:=amj.1 h.od;rcases Nat.lt_or_gt_of_ne hk with z|z;·exact od i k i1 k1 z (i2.trans k2.symm)
    ·exact od k i k1 i1 z (k2.trans i2.symm)
   refine⟨(a.out p3 (sep zzz hT)).out s3 λj hj e=>?_,?_,c⟩;·rw[No] at e;subst e;exact zq h.dj (i:=0) (j:=k+2) zzz h0 hT _ (.head _) hj
   ·rw[ajA ho];exact b
 ·rw[List.map_set];have e1:(S.map (·.o))[i]?=some s.o:=by rw[ab9,hs];rfl
  have:(S.map (·.o)).set i s.o=S.map (·.o):=by
   apply akn;intro k;by_cases hk:i=k;·subst hk;rw[aeH (by rw[abv];exact aV),e1]
   ·rw[ajA hk]
  rw[this];exact h.od
 ·rw[mR];exact KQ h.dj hS (λm hm j hj=>(h.fr m hm j hj).2) p4
 ·rw[mR] at qZ;have:=s3.1;rcases adt qZ with z|rfl;·have:=h.fr l z j hj;omega
  ·have:=p2.rl.1.lt j hj;refine⟨(p4 j hj).elim (λz=>(h.fr _ (aac hS) j z).1) λz=>zzz,zzz⟩
 ·have hK:(pq q K S)[1]?=some K:=rfl;rcases aa2.1 hj with z|z;·exact⟨(h.fr _ (aac hS) j z).1,λw=>sep zzz hK j w z⟩
  ·rw[No] at z;subst z;exact⟨hq.1,zq h.dj (i:=0) (j:=1) zzx h0 hK _ (.head _)⟩
end
def eK (N p:Nat)(H H':Hp):Prop:=∃T,Out T H H'/\∀j∈T,N<=j\/j=p
theorem eK.refl (N p:Nat)(H:Hp):eK N p H H:=⟨[],Out.refl _ _,λj hj=>by cases hj⟩
section
variable {H H':Hp}{N:Nat}{x x':AV}
theorem eK.trans {p:Nat}{H'':Hp}(h:eK N p H H')(k:eK N p H' H''):eK N p H H'':=by obtain⟨T,t1,t2⟩:=h;obtain⟨U,u1,u2⟩:=k;exact⟨T++U,(t1.mono λj hj=>aa1 _ hj).trans (u1.mono λj hj=>aaT _ hj),λj hj=>(aa2.1 hj).elim (t2 j) (u2 j)⟩
theorem eK.n {p:Nat}(h:jN N H H'):eK N p H H':=by obtain⟨T,a,b⟩:=h;exact⟨T,a,λj hj=>.inl (b j hj)⟩
theorem eK.p {N p:Nat}{H H':Hp}(h:Out [p] H H'):eK N p H H':=⟨_,h,λj hj=>.inr (by simpa using hj)⟩
theorem eK.nx {p:Nat}(h:eK N p H H'):H.next<=H'.next:=by obtain⟨T,t,_⟩:=h;exact t.1
theorem eK.down {p:Nat}(h:eK N p H H')(hn:H.next<=N):Out [p] H H':=by obtain⟨T,t,u⟩:=h;exact⟨t.1,λj hj hs=>t.2 j hj λq=>(u j q).elim (λz=>zzz) λz=>hs (by rw[z];exact .head _)⟩
structure EJ (N:Nat)(H:Hp)(p:Nat)(x:AV)(s:Str×Bool):Prop where
 e:EI H p x s.1 s.2
 p:p<N
 x:∀j∈ak x,j<N
theorem EJ.step {p:Nat}{s s':Str×Bool}(h:EJ N H p x s)(k:EI H' p x' s'.1 s'.2)(w:ER H H' p x x'):EJ N H' p x' s':=⟨k,h.p,λj hj=>h.x j (w.w j hj)⟩
theorem EJ.vd {p:Nat}{s:Str×Bool}(h:EJ N H p x s)(k:jN N H H'):EJ N H' p x s:=by obtain⟨T,t,u⟩:=k;exact⟨h.e.out t (λz=>by have:=u p z;have:=h.p;omega) λj hj z=>by have:=u j z;have:=h.x j hj;omega,h.p,h.x⟩
theorem OB.er {q:Nat}{F:List AV}{el:Nat}{K:List Nat}{S:List Sl}{p:Nat}(h:OB N H q F el K S)(k:ER H H' p x x')(hp:p<N):OB N H' q F el K S:=
 h.more k.o (λj hj=>by rw[No] at hj;omega) λj hj=>.inl hj
def fK (l:List Str):List (List AV):=l.map λs=>[.str s]
theorem abN (l:List Str):(fK l).flatten=strs l:=acU .str l
theorem ai9 {N p b0 q:Nat}{dx sx st:AV}{Kp:List Nat}{G:List (List AV)}{m:Nat}(hm:m<=1000):∀(n i:Nat) (H:Hp) (x tx:AV) (s:Str×Bool) (L:List RT),i+n=m->L.length=i->OB N H q [dx,st,tx,sx] 75 Kp [⟨2,4,132,tx,eL L⟩,⟨3,1,9,sx,G⟩]->EJ N H p x s->
  ∃x' ax H',(∀fP:K.Fn 3,VL JN GO cK fP (.ptr p 0) (.ptr b0 0) (.ptr q 0) (zi (m:Nat)) (zi (i:Nat)) H=fP (.ptr p 0) (.ptr b0 0) (.ptr q 0) H')/\
   OB N H' q [dx,st,ax,sx] 75 Kp [⟨2,4,132,ax,eL (L++(rN rT n s).1)⟩,⟨3,1,9,sx,G⟩]/\EJ N H' p x' (rN rT n s).2/\(∀j∈ak x',j∈ak x)/\eK N p H H'
 |0,i,H,x,tx,s,L,hi,hL,hO,hE=>by obtain rfl:i=m:=zzz;refine⟨x,tx,H,λfP=>?_,by rw[show (rN rT 0 s).1=[] from rfl,acQ];exact hO,hE,λj hj=>hj,eK.refl _ _ _⟩;rw[afD];simp only[aaX,df,zz0,simprocAttr]
 |n+1,i,H,x,tx,s,L,hi,hL,hO,hE=>by
  have h1:i<m:=zzz;have es:=dC h1 zzz;have k0:cellAt H q 2=some tx:=hO.c.cellAt rfl;obtain⟨x1,H1,a1,a2,a3⟩:=Ef hE.e 255;rw[show ((255:Nat):Int)=255 from rfl] at a1;have E1:EJ N H1 p x1 (eV s.1 s.2 255).2:=hE.step a2 a3;have O1:=hO.er a3 hE.p;obtain⟨x2,H2,b1,b2,b3⟩:=Ef E1.e 255;rw[show ((255:Nat):Int)=255 from rfl] at b1;have E2:EJ N H2 p x2 (eV (eV s.1 s.2 255).2.1 (eV s.1 s.2 255).2.2 255).2:=E1.step b2 b3;have O2:=O1.er b3 hE.p;generalize ha:eV s.1 s.2 255=A at*
  generalize hb:eV A.2.1 A.2.2 255=B at*
  obtain⟨x3,H3,c1,c2,c3⟩:=Wh E2.e;have E3:EJ N H3 p x3 (aY B.2.1 B.2.2).2:=E2.step c2 c3;have O3:=O2.er c3 hE.p;generalize hc:aY B.2.1 B.2.2=C at*
  obtain⟨x4,H4,d1,d2,d3⟩:=FV E3.e (m:=64) zzz;rw[show ((64:Nat):Int)=64 from rfl] at d1;have E4:EJ N H4 p x4 (gr C.2.1 C.2.2 64).2:=E3.step d2 d3;have O4:=O3.er d3 hE.p;generalize hd:gr C.2.1 C.2.2 64=D at*
  have hT:rT s=(⟨(A.1:Nat),(B.1:Nat),gy C.1,D.1⟩,D.2):=by unfold rT;simp only[ha,hb,hc,hd]
  have f1:fl [(zi 0),(zi 0),(zi 0),(.str [])] [(0,1,zi (A.1:Nat)),(1,1,zi (B.1:Nat)),(2,1,zi (gy C.1)),(3,1,.str D.1)]=some [zi (A.1:Nat),zi (B.1:Nat),zi (gy C.1),.str D.1]:=rfl;have f2:fl [(zi 0),(zi 0),(zi 0),(.str [])] [(0,4,.agg [zi (A.1:Nat),zi (B.1:Nat),zi (gy C.1),.str D.1])]=some [zi (A.1:Nat),zi (B.1:Nat),zi (gy C.1),.str D.1]:=rfl;have cF:az H4 [zi (A.1:Nat),zi (B.1:Nat),zi (gy C.1),.str D.1] 132 0=some (H4.next,al H4 [zi (A.1:Nat),zi (B.1:Nat),zi (gy C.1),.str D.1] 132 0):=eh zzy;have O5:=O4.au (aD H4 [zi (A.1:Nat),zi (B.1:Nat),zi (gy C.1),.str D.1] 132 0);have k1:cellAt H1 q 2=some tx:=O1.c.cellAt rfl;have k2:cellAt H2 q 2=some tx:=O2.c.cellAt rfl;have k3:cellAt H3 q 2=some tx:=O3.c.cellAt rfl;have k4:cellAt H4 q 2=some tx:=O4.c.cellAt rfl;have k5:cellAt (al H4 [zi (A.1:Nat),zi (B.1:Nat),zi (gy C.1),.str D.1] 132 0) q 2=some tx:=O5.c.cellAt rfl;obtain⟨ax,H5,H6,p1,p2,p3,p4⟩:=O4.push (i:=0) (s:=⟨2,4,132,tx,eL L⟩) rfl (vs:=[zi (A.1:Nat),zi (B.1:Nat),zi (gy C.1),.str D.1]) (z:=[(zi 0),(zi 0),(zi 0),(.str [])]) rfl rfl (by show ((eL L).length+1)*4<=_;rw[AJ,hL];omega);have fI:=p1 H4.next rfl;have hrt:eL L++[[zi (A.1:Nat),zi (B.1:Nat),zi (gy C.1),.str D.1]]=eL (L++[⟨(A.1:Nat),(B.1:Nat),gy C.1,D.1⟩]):=by simp[eL,dT]
  have O6:OB N H6 q [dx,st,ax,sx] 75 Kp [⟨2,4,132,ax,eL (L++[⟨(A.1:Nat),(B.1:Nat),gy C.1,D.1⟩])⟩,⟨3,1,9,sx,G⟩]:=by rw[<-hrt];exact p3
  have E6:=E4.vd p4.n;obtain⟨x',tx2,H',i1,i2,i3,i4,i5⟩:=ai9 (b0:=b0) hm n (i+1) H6 x4 ax D.2 (L++[⟨(A.1:Nat),(B.1:Nat),gy C.1,D.1⟩]) zzz (by rw[aal,hL];rfl) O6 E6;have iR:rN rT (n+1) s=(⟨(A.1:Nat),(B.1:Nat),gy C.1,D.1⟩::(rN rT n D.2).1,(rN rT n D.2).2):=by show ((rT s).1::_,_)=_;rw[hT]
  have ot:=lN (hO.ow 0 _ rfl).1.1.rw;refine⟨x',tx2,H',λfP=>?_,by rw[iR];simpa using i2,by rw[iR];exact i3,λj hj=>a3.w j (b3.w j (c3.w j (d3.w j (i4 j hj)))),((((eK.p a3.o).trans (eK.p b3.o)).trans (eK.p c3.o)).trans (eK.p d3.o)).trans ((eK.n p4.n).trans i5)⟩;rw[afD];simp(disch:=try exact zqz)only[aaX,aN h1,k0,a1,b1,c1,d1,f1,f2,cF,fI,p2,k1,k2,k3,k4,k5,eG ot,es,i1,ar,aq,zz0,simprocAttr]
theorem ajN {N p b0 q:Nat}{dx tx st:AV}{Kp:List Nat}{G:List (List AV)}{m:Nat}(hm:m<=1000):∀(n i:Nat) (H:Hp) (x sx:AV) (s:Str×Bool) (L:List Str),i+n=m->L.length=i->OB N H q [dx,st,tx,sx] 75 Kp [⟨2,4,132,tx,G⟩,⟨3,1,9,sx,fK L⟩]->EJ N H p x s->
  ∃x' aA H',(∀EA:K.Fn 2,abe JN GO cK EA (.ptr p 0) (.ptr b0 0) (.ptr q 0) (zi (m:Nat)) (zi (i:Nat)) H=EA (.ptr b0 0) (.ptr q 0) H')/\
   OB N H' q [dx,st,tx,aA] 75 Kp [⟨2,4,132,tx,G⟩,⟨3,1,9,aA,fK (L++(rN (λs=>gr s.1 s.2 16) n s).1)⟩]/\EJ N H' p x' (rN (λs=>gr s.1 s.2 16) n s).2/\(∀j∈ak x',j∈ak x)/\eK N p H H'
 |0,i,H,x,sx,s,L,hi,hL,hO,hE=>by obtain rfl:i=m:=zzz;refine⟨x,sx,H,λEA=>?_,by rw[show (rN (λs:Str×Bool=>gr s.1 s.2 16) 0 s).1=[] from rfl,acQ];exact hO,hE,λj hj=>hj,eK.refl _ _ _⟩;rw[aoE];simp only[Wo,df,zz0,simprocAttr]
 |n+1,i,H,x,sx,s,L,hi,hL,hO,hE=>by
  have h1:i<m:=zzz;have es:=dC h1 zzz;have k0:cellAt H q 3=some sx:=hO.c.cellAt rfl;obtain⟨x4,H4,d1,d2,d3⟩:=FV hE.e (m:=16) zzz;rw[show ((16:Nat):Int)=16 from rfl] at d1;have E4:EJ N H4 p x4 (gr s.1 s.2 16).2:=hE.step d2 d3;have O4:=hO.er d3 hE.p;generalize hd:gr s.1 s.2 16=D at*
  have f1:fl [(.str [])] [(0,1,.str D.1)]=some [.str D.1]:=rfl;have cF:az H4 [.str D.1] 9 0=some (H4.next,al H4 [.str D.1] 9 0):=eh zzy;have O5:=O4.au (aD H4 [.str D.1] 9 0);have k4:cellAt H4 q 3=some sx:=O4.c.cellAt rfl;have k5:cellAt (al H4 [.str D.1] 9 0) q 3=some sx:=O5.c.cellAt rfl;obtain⟨aA,H5,H6,p1,p2,p3,p4⟩:=O4.push (i:=1) (s:=⟨3,1,9,sx,fK L⟩) rfl (vs:=[.str D.1]) (z:=[(.str [])]) rfl rfl (by show ((fK L).length+1)*1<=_;unfold fK;rw[abv,hL];omega);have fI:=p1 H4.next rfl;have hrt:fK L++[[.str D.1]]=fK (L++[D.1]):=by simp[fK]
  have O6:OB N H6 q [dx,st,tx,aA] 75 Kp [⟨2,4,132,tx,G⟩,⟨3,1,9,aA,fK (L++[D.1])⟩]:=by rw[<-hrt];exact p3
  have E6:=E4.vd p4.n;obtain⟨x',xy,H',i1,i2,i3,i4,i5⟩:=ajN (b0:=b0) hm n (i+1) H6 x4 aA D.2 (L++[D.1]) zzz (by rw[aal,hL];rfl) O6 E6;have iR:rN (λs:Str×Bool=>gr s.1 s.2 16) (n+1) s=(D.1::(rN (λs:Str×Bool=>gr s.1 s.2 16) n D.2).1,(rN (λs:Str×Bool=>gr s.1 s.2 16) n D.2).2):=by rw[<-hd];rfl
  have ot:=lN (hO.ow 1 _ rfl).1.1.rw;refine⟨x',xy,H',λEA=>?_,by rw[iR];simpa using i2,by rw[iR];exact i3,λj hj=>d3.w j (i4 j hj),(eK.p d3.o).trans ((eK.n p4.n).trans i5)⟩;rw[aoE];simp(disch:=try exact zqz)only[Wo,aN h1,k0,d1,f1,cF,fI,p2,k4,k5,eG ot,es,i1,ar,aq,zz0,simprocAttr]
theorem agx (t:Str):(aG t).1.length<=16:=by
 by_cases h:(aG t).2=0;·exact (IL h).2.2.1
 ·rw[PC h];exact aa7 _
theorem aC9 {p:Nat}{s:Str×Bool}(hE:EI H p x s.1 s.2)(hg:Gl H)(eY:11<=p)(text:Str):
  ∃x' dx xs tx sx H',cK (zf 105) [.ptr p 0,.str text] H=some (.agg (rv dx (getM (aG text).1 s).1.st tx sx),H')/\RV H' dx xs tx sx (getM (aG text).1 s).1/\EI H' p x' (getM (aG text).1 s).2.1 (getM (aG text).1 s).2.2/\(∀j∈ak x',j∈ak x)/\Out [p] H H'/\∀j∈pw dx xs tx sx,H.next<=j:=by
 have ym:=hE.c.1;have dA:=hE.r.lt;have o1:=aD H zR 75 0;have c1:=aP H zR 75 0;have n1:(al H zR 75 0).next=H.next+1:=rfl;have sD:az H [.ah,(zi 0),.ah,.ah] 75 0=some (H.next,al H zR 75 0):=eh zzy;generalize bw:al H zR 75 0=H1 at*
 obtain⟨dx,xs,H2,s1,s2,s3,s4⟩:=P0 (text:=text) (hg.au o1);have fX:=s2.row.one;have smd:same (.agg [dx]) (.agg [dx])=true:=by show vi _ _=true;unfold vi;rw[am4 s2.row.1];rfl
 have n2:=s3.1;have o3:=aD H2 [dx] 72 0;have c3:=aP H2 [dx] 72 0;have n3:(al H2 [dx] 72 0).next=H2.next+1:=rfl;have aC:st 1 (.ptr H2.next 0) (.agg [dx]) (al H2 [.ah] 72 0)=some (al H2 [dx] 72 0):=gJ (by simp[fX]) rfl rfl zzx rfl;generalize iB:al H2 [dx] 72 0=H3 at*
 have k3:av H3 H2.next 0 1=some [dx]:=c3.av 1 0 zzy;have e3:=((hE.au o1).au s3).au o3;obtain⟨x4,H4,a1,a2,a3⟩:=Ef e3 255;rw[show ((255:Nat):Int)=255 from rfl] at a1;generalize ha:eV s.1 s.2 255=A at*
 have n4:=a3.o.1;have c4:=c3.out a3.o (by simp;omega);have k4:av H4 H2.next 0 1=some [dx]:=c4.av 1 0 zzy;have f1:fl [.ah,(zi 0),.ah,.ah] [(0,1,.agg [dx]),(1,1,zi (A.1:Nat))]=some (rv dx (A.1:Nat) .ah .ah):=by rw[Ai (l:=[dx]) (n:=1) rfl zzy,yW rfl zzy,pz];rfl
 have yo:az H4 [.ah,(zi 0),.ah,.ah] 75 0=some (H4.next,al H4 [.ah,(zi 0),.ah,.ah] 75 0):=eh zzy;have wY:st 4 (.ptr H4.next 0) (.agg (rv dx (A.1:Nat) .ah .ah)) (al H4 [.ah,(zi 0),.ah,.ah] 75 0)=some (al H4 (rv dx (A.1:Nat) .ah .ah) 75 0):=gJ (by simp[fX,iS];decide) rfl rfl zzx rfl;have o5:=aD H4 (rv dx (A.1:Nat) .ah .ah) 75 0;have c5:=aP H4 (rv dx (A.1:Nat) .ah .ah) 75 0;have n5:(al H4 (rv dx (A.1:Nat) .ah .ah) 75 0).next=H4.next+1:=rfl;generalize hA5:al H4 (rv dx (A.1:Nat) .ah .ah) 75 0=H5 at*
 have k5:cellAt H5 H2.next 0=some dx:=(c4.out o5 zzy).cellAt rfl;have l5:=s2.aE;have hxN:∀j∈ak x,j<H4.next:=λj hj=>by have:=dA j hj;omega
 have O5:OB H4.next H5 H4.next [dx,zi (A.1:Nat),.ah,.ah] 75 [] [⟨2,4,132,.ah,eL []⟩,⟨3,1,9,.ah,fK []⟩]:=by
  refine⟨c5,λi s hs=>?_,zzx,?_,λl hl j hj=>?_⟩
  ·match i,hs with
   |0,hs=>cases hs;exact⟨OL.nil _ _ _,rfl,by show 0<4;omega⟩|1,hs=>cases hs;exact⟨OL.nil _ _ _,rfl,by show 0<1;omega⟩|i+2,hs=>simp at hs
  ·simp[pq,Dj,ak]
  ·simp only[pq,ak,aby,ajn,aaD,aj6,or_false] at hl;rcases hl with rfl|rfl|rfl|rfl;·rw[No] at hj;omega
   ·cases hj
   ·cases hj
   ·cases hj
 have E5:EJ H4.next H5 p x4 A.2:=⟨a2.au o5,zzz,λj hj=>hxN j (a3.w j hj)⟩;have hDn:=agx text;obtain⟨x6,tx,H6,g1,g2,g3,g4,g5⟩:=ai9 (b0:=H.next) zzz (aG text).1.length 0 H5 x4 .ah A.2 [] (ade _) rfl O5 E5;rw[show (((0:Nat):Int))=0 from rfl] at g1;rw[afP] at g2;generalize ht:rN rT (aG text).1.length A.2=B at*
 obtain⟨x7,H7,b1,b2,b3⟩:=Ef g3.e 16;rw[show ((16:Nat):Int)=16 from rfl] at b1;have E7:EJ H4.next H7 p x7 (eV B.2.1 B.2.2 16).2:=g3.step b2 b3;have O7:=g2.er b3 g3.p;have hC:=I8 B.2.1 B.2.2 16;generalize hc:eV B.2.1 B.2.2 16=C at*
 obtain⟨x8,sx,H8,i1,i2,i3,i4,i5⟩:=ajN (b0:=H.next) zzz C.1 0 H7 x7 .ah C.2 [] (ade _) rfl O7 E7;rw[show (((0:Nat):Int))=0 from rfl] at i1;rw[afP] at i2;have k8:av H8 H4.next 0 4=some [dx,zi (A.1:Nat),tx,sx]:=i2.c.av 4 0 zzy;have hQ:eK H4.next p H5 H8:=(g5.trans (eK.p b3.o)).trans i5;have hn8:=hQ.nx;obtain⟨U,u1,u2⟩:=hQ;have jr:H.next∉U:=λz=>(u2 _ z).elim (λw=>zzz) λw=>zzz;have cb:=((((c1.out s3 zzy).out o3 zzy).out a3.o (by simp;omega)).out o5 zzy).out u1 jr;obtain⟨T2,D2⟩:=i2.ow 0 _ rfl;obtain⟨T3,D3⟩:=i2.ow 1 _ rfl;have T2:OL H8 132 4 tx (eL B.1):=T2;have T3:OL H8 9 1 sx (fK (rN (λs=>gr s.1 s.2 16) C.1 C.2).1):=T3;obtain⟨H9,t1,t2,t3,t4⟩:=iC (n:=4) (vs:=[dx,zi (A.1:Nat),tx,sx]) cb rfl rfl (by simp[fX,T2.rl.one,T3.rl.one,iS]);have k9:av H9 H.next 0 4=some [dx,zi (A.1:Nat),tx,sx]:=t2.av 4 0 zzy;have hM:getM (aG text).1 s=(⟨(aG text).1,(A.1:Nat),B.1,(rN (λs=>gr s.1 s.2 16) C.1 C.2).1⟩,(rN (λs=>gr s.1 s.2 16) C.1 C.2).2):=by unfold getM;simp only[ha,ht,hc]
 have fr:=i2.fr;have ftx:∀j∈ak tx,H4.next<=j:=λj hj=>(fr _ (aac (i:=2) rfl) j hj).1;have fsx:∀j∈ak sx,H4.next<=j:=λj hj=>(fr _ (aac (i:=3) rfl) j hj).1;have ne:∀j,H4.next<=j->j∉[H.next]:=λj hj z=>by rw[No] at z;omega
 rw[hM];have rd8:RD H8 dx xs (aG text).1:=(((s2.au o3).out a3.o λj hj z=>by rw[No] at z;have:=s4 j hj;omega).au o5).out u1 λj hj z=>by have h2:=s2.lt j hj;have h4:=s4 j hj;exact (u2 j z).elim (λw=>zzz) λw=>zzz
 refine⟨x8,dx,xs,tx,sx,H9,awD ?_,⟨rd8.out t3 λj hj z=>by rw[No] at z;have:=s4 j hj;omega,T2.rl.out t3 λj hj=>ne j (ftx j hj),?_⟩,i3.e.out t3 (by simp;omega) λj hj z=>by rw[No] at z;have:=dA j (a3.w j (g4 j (b3.w j (i4 j hj))));omega,λj hj=>a3.w j (g4 j (b3.w j (i4 j hj))),?_,λj hj=>?_⟩;·unfold aj2;simp(disch:=try exact zqz)only[sD,s1,aC,iB,k3,a1,f1,yo,wY,k4,eG smd,k5,l5,g1,b1,i1,k8,t1,k9,ar,aq,zz0,simprocAttr]
 ·have:=T3.1.rw.out t3 λj hj=>ne j (fsx j hj);rw[abN] at this;exact this
 ·refine⟨zzz,λj hj hs=>?_⟩;have aF:j∉U:=λz=>(u2 j z).elim (λw=>zzz) λw=>hs (by rw[w];exact .head _);rw[t3.2 j zzz (λz=>by rw[No] at z;omega),u1.2 j zzz aF,o5.2 j zzz zzy,a3.o.2 j zzz hs,o3.2 j zzz zzy,s3.2 j zzz zzy,o1.2 j hj zzy]
 ·rcases aa2.1 hj with z|z;·have:=s4 j z;omega
  ·rcases aa2.1 z with z|z;·have:=ftx j z;omega
   ·have:=fsx j z;omega
end
theorem af6 (s:Str):∀L:List (Str×Str),match (L.map (·.1)).findIdx? (λa=>s==a) with
  |some i=>∃x,L[i]?=some x/\x.2=Bo L s|none=>Bo L s=[]
 |[]=>rfl|y::L=>by
  have ih:=af6 s L;unfold Bo eE at ih⊢;rw[aby,ajW,List.find?_cons];by_cases h:s=y.1
  ·have e1:(s==y.1)=true:=by simp[h]
   have e2:(y.1==s)=true:=by simp[h]
   rw[e1,e2];exact⟨y,rfl,rfl⟩
  ·have e1:(s==y.1)=false:=by simpa using h
   have e2:(y.1==s)=false:=by simpa using λq=>h q.symm
   rw[e1,e2];cases hf:(L.map (·.1)).findIdx? (λa=>s==a) with
   |none=>rw[hf] at ih;exact ih|some i=>rw[hf] at ih;exact ih
abbrev OS (N:Nat)(H:Hp)(q:Nat)(ck:Int)(a:SA)(L:List (Str×Str))(Q:List (Rn×Str))(Y:List Ke):Prop:=
 OB N H q [zi ck,a.nx,a.tx,a.rx,a.ox,a.kx] 50 (a.ras.flatMap RA.fp) [⟨1,1,9,a.nx,fK (L.map (·.1))⟩,⟨2,1,9,a.tx,fK (L.map (·.2))⟩,⟨3,4,75,a.rx,List.zipWith iA a.ras (Q.map (·.1))⟩,⟨4,1,9,a.ox,fK (Q.map (·.2))⟩,⟨5,3,82,a.kx,Y.map dB⟩]
theorem aaG (l:List Str):(fK l).length=l.length:=by unfold fK;rw[abv]
theorem YU (l:List Str)(s:Str):fK l++[[.str s]]=fK (l++[s]):=by simp[fK]
theorem afG {N p b0 q m:Nat}{ck:Int}(hm:m<=1000){Q:List (Rn×Str)}{Y:List Ke}:∀(n i:Nat) (H:Hp) (x:AV) (a:SA) (s:Str×Bool) (L:List (Str×Str)),i+n=m->L.length=i->OS N H q ck a L Q Y->EJ N H p x s->
  ∃x' a' H',(∀bA:K.Fn 3,abP JN GO cK bA (.ptr p 0) (.ptr b0 0) (.ptr q 0) (zi (m:Nat)) (zi (i:Nat)) H=bA (.ptr p 0) (.ptr b0 0) (.ptr q 0) H')/\
   OS N H' q ck a' (L++(rN rD n s).1) Q Y/\EJ N H' p x' (rN rD n s).2/\(∀j∈ak x',j∈ak x)/\eK N p H H'/\a'.ras=a.ras
 |0,i,H,x,a,s,L,hi,hL,hO,hE=>by obtain rfl:i=m:=zzz;refine⟨x,a,H,λbA=>?_,by rw[show (rN rD 0 s).1=[] from rfl,acQ];exact hO,hE,λj hj=>hj,eK.refl _ _ _,rfl⟩;rw[anU];simp only[abp,df,zz0,simprocAttr]
 |n+1,i,H,x,a,s,L,hi,hL,hO,hE=>by
  have h1:i<m:=zzz;have es:=dC h1 zzz;have k0:cellAt H q 1=some a.nx:=hO.c.cellAt rfl;obtain⟨x1,H1,a1,a2,a3⟩:=FV hE.e (m:=16) zzz;rw[show ((16:Nat):Int)=16 from rfl] at a1;have E1:EJ N H1 p x1 (gr s.1 s.2 16).2:=hE.step a2 a3;have O1:=hO.er a3 hE.p;generalize ha:gr s.1 s.2 16=A at*
  have f1:fl [(.str [])] [(0,1,.str A.1)]=some [.str A.1]:=rfl;have sD:az H1 [.str A.1] 9 0=some (H1.next,al H1 [.str A.1] 9 0):=eh zzy;have k1:cellAt H1 q 1=some a.nx:=O1.c.cellAt rfl;have k1':cellAt (al H1 [.str A.1] 9 0) q 1=some a.nx:=(O1.au (aD H1 [.str A.1] 9 0)).c.cellAt rfl;obtain⟨lS,H2,H3,p1,p2,p3,p4⟩:=O1.push (i:=0) (s:=⟨1,1,9,a.nx,fK (L.map (·.1))⟩) rfl (vs:=[.str A.1]) (z:=[(.str [])]) rfl rfl (by show ((fK (L.map (·.1))).length+1)*1<=_;rw[aaG,abv,hL];omega);have fI:=p1 H1.next rfl;have E3:=E1.vd p4.n;have k3:cellAt H3 q 2=some a.tx:=p3.c.cellAt rfl;obtain⟨x4,H4,d1,d2,d3⟩:=FV E3.e (m:=1024) zzz;rw[show ((1024:Nat):Int)=1024 from rfl] at d1;have E4:EJ N H4 p x4 (gr A.2.1 A.2.2 1024).2:=E3.step d2 d3;have O4:=p3.er d3 hE.p;generalize hd:gr A.2.1 A.2.2 1024=D at*
  have f4:fl [(.str [])] [(0,1,.str D.1)]=some [.str D.1]:=rfl;have yo:az H4 [.str D.1] 9 0=some (H4.next,al H4 [.str D.1] 9 0):=eh zzy;have k4:cellAt H4 q 2=some a.tx:=O4.c.cellAt rfl;have k4':cellAt (al H4 [.str D.1] 9 0) q 2=some a.tx:=(O4.au (aD H4 [.str D.1] 9 0)).c.cellAt rfl;obtain⟨ax,H5,H6,r1,r2,r3,r4⟩:=O4.push (i:=1) (s:=⟨2,1,9,a.tx,fK (L.map (·.2))⟩) rfl (vs:=[.str D.1]) (z:=[(.str [])]) rfl rfl (by show ((fK (L.map (·.2))).length+1)*1<=_;rw[aaG,abv,hL];omega);have Bn:=r1 H4.next rfl;have E6:=E4.vd r4.n;have O6:OS N H6 q ck {a with nx:=lS,tx:=ax} (L++[(A.1,D.1)]) Q Y:=by
   have e1:fK ((L++[(A.1,D.1)]).map (·.1))=fK (L.map (·.1))++[[.str A.1]]:=by rw[YU,acY];rfl
   have e2:fK ((L++[(A.1,D.1)]).map (·.2))=fK (L.map (·.2))++[[.str D.1]]:=by rw[YU,acY];rfl
   unfold OS;rw[e1,e2];exact r3
  obtain⟨x',a',H',i1,i2,i3,i4,i5,i6⟩:=afG (b0:=b0) hm n (i+1) H6 x4 {a with nx:=lS,tx:=ax} D.2 (L++[(A.1,D.1)]) zzz (by rw[aal,hL];rfl) O6 E6;have iR:rN rD (n+1) s=((A.1,D.1)::(rN rD n D.2).1,(rN rD n D.2).2):=by
   have:rD s=((A.1,D.1),D.2):=by unfold rD;simp only[ha,hd]
   show ((rD s).1::_,_)=_;rw[this]
  have vG:=lN (hO.ow 0 _ rfl).1.1.rw;have oq:=lN (hO.ow 1 _ rfl).1.1.rw;refine⟨x',a',H',λbA=>?_,by rw[iR];simpa using i2,by rw[iR];exact i3,λj hj=>a3.w j (d3.w j (i4 j hj)),(((eK.p a3.o).trans (eK.n p4.n)).trans (eK.p d3.o)).trans ((eK.n r4.n).trans i5),i6⟩;rw[anU];simp(disch:=try exact zqz)only[abp,aN h1,k0,a1,f1,sD,fI,p2,k1,k1',eG vG,k3,d1,f4,yo,Bn,r2,k4,k4',eG oq,es,i1,ar,aq,zz0,simprocAttr]
def VS (H:Hp)(ras:List RA)(Rs:List Rn):Prop:=∀(i:Nat) (r:RA) (R:Rn),ras[i]?=some r->Rs[i]?=some R->RV H r.dx r.xs r.tx r.sx R
section
variable {H:Hp}{Rs:List Rn}{ras:List RA}
theorem VS.out {H':Hp}{T:List Nat}(h:VS H ras Rs)(k:Out T H H')(hT:∀j∈T,j∉ras.flatMap RA.fp):VS H' ras Rs:=λi r R hr hR=>(h i r R hr hR).out k λj hj z=>hT j z (afn.2 ⟨r,aac hr,hj⟩)
theorem VS.snoc (h:VS H ras Rs)(hl:ras.length=Rs.length){r:RA}{R:Rn}(hR:RV H r.dx r.xs r.tx r.sx R):VS H (ras++[r]) (Rs++[R]):=λi r' R' h1 h2=>by
 rcases alV i ras.length with q|q;·rw[abd q] at h1;rw[abd zzz] at h2;exact h i r' R' h1 h2
 ·rw[abk q] at h1;rw[abk zzz] at h2;have:i-ras.length=0:=by have:=(aag.1 h1).1;rw[List.length_singleton] at this;omega
  rw[this] at h1;rw[show i-Rs.length=0 by omega] at h2;cases h1;cases h2;exact hR
theorem aiI {N p b0 q m:Nat}{ck:Int}(hm:m<=1000)(eY:11<=p)(hN:11<=N){L:List (Str×Str)}(hLn:L.length<=1000){Y:List Ke}:∀(n i:Nat) (H:Hp) (x:AV) (a:SA) (s:Str×Bool) (Q:List (Rn×Str)),i+n=m->Q.length=i->OS N H q ck a L Q Y->EJ N H p x s->Gl H->a.ras.length=i->VS H a.ras (Q.map (·.1))->
  ∃x' a' H',(∀vg:K.Fn 3,abw JN GO cK vg (.ptr p 0) (.ptr b0 0) (.ptr q 0) (zi (m:Nat)) (zi (i:Nat)) H=vg (.ptr p 0) (.ptr b0 0) (.ptr q 0) H')/\
   OS N H' q ck a' L (Q++(rN (rQ L) n s).1) Y/\EJ N H' p x' (rN (rQ L) n s).2/\(∀j∈ak x',j∈ak x)/\eK N p H H'/\a'.ras.length=m/\VS H' a'.ras ((Q++(rN (rQ L) n s).1).map (·.1))
 |0,i,H,x,a,s,Q,hi,hQ,hO,hE,hg,hr,hv=>by obtain rfl:i=m:=zzz;refine⟨x,a,H,λvg=>?_,by rw[show (rN (rQ L) 0 s).1=[] from rfl,acQ];exact hO,hE,λj hj=>hj,eK.refl _ _ _,hr,by rw[show (rN (rQ L) 0 s).1=[] from rfl,acQ];exact hv⟩;rw[aeM];simp only[Qz,df,zz0,simprocAttr]
 |n+1,i,H,x,a,s,Q,hi,hQ,hO,hE,hg,hr,hv=>by
  have h1:i<m:=zzz;have es:=dC h1 zzz;have hNn:=hO.nq;obtain⟨x1,H1,a1,a2,a3⟩:=FV hE.e (m:=16) zzz;rw[show ((16:Nat):Int)=16 from rfl] at a1;have E1:EJ N H1 p x1 (gr s.1 s.2 16).2:=hE.step a2 a3;have O1:=hO.er a3 hE.p;generalize ha:gr s.1 s.2 16=A at*
  have n1:=a3.o.1;have k1:cellAt H1 q 1=some a.nx:=O1.c.cellAt rfl;have k2:cellAt H1 q 2=some a.tx:=O1.c.cellAt rfl;have r1:=(O1.ow 0 _ rfl).1.1.rw;have r2:=(O1.ow 1 _ rfl).1.1.rw;simp only[abN] at r1 r2;have ix:=QB r1 (by rw[abv];omega) A.1;have Qo:=af6 A.1 L;have k4:cellAt H1 q 4=some a.ox:=O1.c.cellAt rfl;have f1:fl [(.str [])] [(0,1,.str A.1)]=some [.str A.1]:=rfl;have sD:az H1 [.str A.1] 9 0=some (H1.next,al H1 [.str A.1] 9 0):=eh zzy;obtain⟨oY,H2,H3,p1,p2,p3,p4⟩:=O1.push (i:=3) (s:=⟨4,1,9,a.ox,fK (Q.map (·.2))⟩) rfl (vs:=[.str A.1]) (z:=[(.str [])]) rfl rfl (by show ((fK (Q.map (·.2))).length+1)*1<=_;rw[aaG,abv,hQ];omega);have fI:=p1 H1.next rfl;have E3:=E1.vd p4.n;have k3:cellAt H3 q 3=some a.rx:=p3.c.cellAt rfl;have Q3:=p4.n;obtain⟨T3,t1,t2⟩:=p4;have n3:=t1.1;have qC:=hg.out a3.o (by simp;omega);have EK:=qC.out t1 λj hj=>by have:=t2 j hj;omega
  obtain⟨x4,dx,xs,tx,sx,H4,g1,g2,g3,g4,g5,g6⟩:=aC9 E3.e EK eY (Bo L A.1);generalize hG:getM (aG (Bo L A.1)).1 A.2=G at*
  have n4:=g5.1;have rlt:=g2.lt;have E4:EJ N H4 p x4 G.2:=⟨g3,hE.p,λj hj=>E3.x j (g4 j hj)⟩;have O4:OB N H4 q [zi ck,a.nx,a.tx,a.rx,oY,a.kx] 50 ((a.ras++[RA.mk dx xs tx sx]).flatMap RA.fp) [⟨1,1,9,a.nx,fK (L.map (·.1))⟩,⟨2,1,9,a.tx,fK (L.map (·.2))⟩,⟨3,4,75,a.rx,List.zipWith iA a.ras (Q.map (·.1))⟩,⟨4,1,9,oY,fK (Q.map (·.2))++[[.str A.1]]⟩,⟨5,3,82,a.kx,Y.map dB⟩]:=
   p3.more g5 (λj hj=>by rw[No] at hj;have:=hE.p;omega) λj hj=>by
    rw[flatMap_push] at hj;rcases aa2.1 hj with z|z;·exact .inl z
    ·exact .inr ⟨g6 j z,rlt j z⟩
  have k5:cellAt H4 q 3=some a.rx:=O4.c.cellAt rfl;have f4:fl [.ah,(zi 0),.ah,.ah] [(0,4,.agg (rv dx G.1.st tx sx))]=some (rv dx G.1.st tx sx):=by rw[Ai (l:=rv dx G.1.st tx sx) (n:=4) rfl zzy,pz];rfl
  have Na:(rv dx G.1.st tx sx).all aZ=true:=by simp[g2.d.row.one,g2.t.one,g2.s.one,iS]
  have yo:az H4 (rv dx G.1.st tx sx) 75 0=some (H4.next,al H4 (rv dx G.1.st tx sx) 75 0):=eh zzy;have k6:cellAt (al H4 (rv dx G.1.st tx sx) 75 0) q 3=some a.rx:=(O4.au (aD H4 (rv dx G.1.st tx sx) 75 0)).c.cellAt rfl;obtain⟨eH,H5,H6,u1,u2,u3,u4⟩:=O4.push (i:=2) (s:=⟨3,4,75,a.rx,List.zipWith iA a.ras (Q.map (·.1))⟩) rfl (vs:=rv dx G.1.st tx sx) (z:=[.ah,(zi 0),.ah,.ah]) Na rfl (by show ((List.zipWith iA a.ras (Q.map (·.1))).length+1)*4<=_;rw[aeV,hr];omega);have RW:=u1 H4.next rfl;have E6:=E4.vd u4.n;have Q6:=u4.n;obtain⟨T6,v1,v2⟩:=u4;have n6:=v1.1;have fT:a.ras.length=(Q.map (·.1)).length:=by rw[abv];omega
  have B3:List.zipWith iA (a.ras++[RA.mk dx xs tx sx]) ((Q++[(G.1,A.1)]).map (·.1))=List.zipWith iA a.ras (Q.map (·.1))++[rv dx G.1.st tx sx]:=by rw[acY,List.zipWith_append fT];rfl
  have O6:OS N H6 q ck {a with rx:=eH,ox:=oY,ras:=a.ras++[⟨dx,xs,tx,sx⟩]} L (Q++[(G.1,A.1)]) Y:=by
   have e2:fK ((Q++[(G.1,A.1)]).map (·.2))=fK (Q.map (·.2))++[[.str A.1]]:=by rw[YU,acY];rfl
   unfold OS;rw[e2,B3];exact u3
  have gR:∀j∈[p],j∉a.ras.flatMap RA.fp:=λj hj z=>by rw[No] at hj;have:=(hO.fr _ (.tail _ (.head _)) j z).1;have:=hE.p;omega
  have v4:VS H4 a.ras (Q.map (·.1)):=((hv.out a3.o gR).out t1 λj hj=>(t2 j hj).2).out g5 gR;have v6:VS H6 (a.ras++[⟨dx,xs,tx,sx⟩]) ((Q++[(G.1,A.1)]).map (·.1)):=by rw[acY];exact (v4.snoc fT g2).out v1 λj hj=>(v2 j hj).2
  have MH:=(EK.out g5 (by simp;omega)).out v1 λj hj=>by have:=(v2 j hj).1;omega
  obtain⟨x',a',H',i1,i2,i3,i4,i5,i6,i7⟩:=aiI (b0:=b0) hm eY hN hLn n (i+1) H6 x4 {a with rx:=eH,ox:=oY,ras:=a.ras++[⟨dx,xs,tx,sx⟩]} G.2 (Q++[(G.1,A.1)]) zzz (by rw[aal,hQ];rfl) O6 E6 MH (by rw[aal,hr];rfl) v6;have iR:rN (rQ L) (n+1) s=((G.1,A.1)::(rN (rQ L) n G.2).1,(rN (rQ L) n G.2).2):=by
   have:rQ L s=((G.1,A.1),G.2):=by unfold rQ;simp only[ha,hG]
   show ((rQ L s).1::_,_)=_;rw[this]
  have vG:=lN (hO.ow 2 _ rfl).1.1.rw;refine⟨x',a',H',λvg=>?_,by rw[iR];simpa using i2,by rw[iR];exact i3,λj hj=>a3.w j (g4 j (i4 j hj)),(((eK.p a3.o).trans (eK.n Q3)).trans (eK.p g5)).trans ((eK.n Q6).trans i5),i6,by rw[iR];simpa using i7⟩;rw[aeM];cases hf:(L.map (·.1)).findIdx? (λa=>A.1==a) with
  |none=>
   rw[hf] at Qo ix;have hz:Bo L A.1=[]:=Qo;rw[hz] at g1;have ix':cK (zf 104) [a.nx,.str A.1] H1=some (zi (-1),H1):=ix;have d0:decide ((0:Int) <= -1)=false:=zzx;simp(disch:=try exact zqz)only[Qz,aN h1,a1,k1,ix',d0,k4,f1,sD,fI,p2,k3,g1,f4,yo,RW,u2,k5,k6,eG vG,es,i1,ar,aq,zz0,simprocAttr]
  |some z=>
   rw[hf] at Qo ix;obtain⟨w,w1,w2⟩:=Qo;rw[<-w2] at g1;obtain⟨b,b1,b2⟩:=r2.fW (i:=z) (v:=.str w.2) (mS (by rw[ab9,w1];rfl)) .i64;have ix':cK (zf 104) [a.nx,.str A.1] H1=some (zi (z:Nat),H1):=ix;have d0:decide ((0:Int)<=((z:Nat):Int))=true:=zz3 zzz;simp(disch:=try exact zqz)only[Qz,aN h1,a1,k1,ix',d0,k2,b1,b2,k4,f1,sD,fI,p2,k3,g1,f4,yo,RW,u2,k5,k6,eG vG,es,i1,ar,aq,zz0,simprocAttr]
theorem amJ {N p q m:Nat}{ck:Int}(hm:m<=1000){L:List (Str×Str)}{Q:List (Rn×Str)}:∀(n i:Nat) (H:Hp) (x:AV) (a:SA) (s:Str×Bool) (Y:List Ke),i+n=m->Y.length=i->OS N H q ck a L Q Y->EJ N H p x s->VS H a.ras (Q.map (·.1))->∀b0:Nat,
  ∃x' a' H',(∀BA:K.Fn 2,XU JN GO cK BA (.ptr p 0) (.ptr b0 0) (.ptr q 0) (zi (m:Nat)) (zi (i:Nat)) H=BA (.ptr b0 0) (.ptr q 0) H')/\
   OS N H' q ck a' L Q (Y++(rN rY n s).1)/\EJ N H' p x' (rN rY n s).2/\(∀j∈ak x',j∈ak x)/\eK N p H H'/\a'.ras=a.ras/\VS H' a.ras (Q.map (·.1))
 |0,i,H,x,a,s,Y,hi,hY,hO,hE,hv,b0=>by obtain rfl:i=m:=zzz;refine⟨x,a,H,λBA=>?_,by rw[show (rN rY 0 s).1=[] from rfl,acQ];exact hO,hE,λj hj=>hj,eK.refl _ _ _,rfl,hv⟩;rw[ah9];simp only[Xu,df,zz0,simprocAttr]
 |n+1,i,H,x,a,s,Y,hi,hY,hO,hE,hv,b0=>by
  have h1:i<m:=zzz;have es:=dC h1 zzz;have k0:cellAt H q 5=some a.kx:=hO.c.cellAt rfl;obtain⟨x1,H1,a1,a2,a3⟩:=FV hE.e (m:=16) zzz;rw[show ((16:Nat):Int)=16 from rfl] at a1;have E1:EJ N H1 p x1 (gr s.1 s.2 16).2:=hE.step a2 a3;have O1:=hO.er a3 hE.p;generalize ha:gr s.1 s.2 16=A at*
  obtain⟨x2,H2,b1,b2,b3⟩:=FV E1.e (m:=16) zzz;rw[show ((16:Nat):Int)=16 from rfl] at b1;have E2:EJ N H2 p x2 (gr A.2.1 A.2.2 16).2:=E1.step b2 b3;have O2:=O1.er b3 hE.p;generalize hb:gr A.2.1 A.2.2 16=B at*
  obtain⟨x3,H3,c1,c2,c3⟩:=Ef E2.e 64;rw[show ((64:Nat):Int)=64 from rfl] at c1;have E3:EJ N H3 p x3 (eV B.2.1 B.2.2 64).2:=E2.step c2 c3;have O3:=O2.er c3 hE.p;generalize hc:eV B.2.1 B.2.2 64=C at*
  have f1:fl [(.str []),(.str [])] [(0,1,.str A.1),(1,1,.str B.1)]=some [.str A.1,.str B.1]:=rfl;have f2:fl [(.str []),(.str []),(zi 0)] [(0,2,.agg [.str A.1,.str B.1]),(2,1,zi (C.1:Nat))]=some (dB ((A.1,B.1),(C.1:Nat))):=rfl;have f3:fl [(.str []),(.str []),(zi 0)] [(0,3,.agg (dB ((A.1,B.1),(C.1:Nat))))]=some (dB ((A.1,B.1),(C.1:Nat))):=rfl;have cF:az H3 (dB ((A.1,B.1),(C.1:Nat))) 82 0=some (H3.next,al H3 (dB ((A.1,B.1),(C.1:Nat))) 82 0):=eh (by simp[dB]);have k1:cellAt H1 q 5=some a.kx:=O1.c.cellAt rfl;have k2:cellAt H2 q 5=some a.kx:=O2.c.cellAt rfl;have k3:cellAt H3 q 5=some a.kx:=O3.c.cellAt rfl;have k4:cellAt (al H3 (dB ((A.1,B.1),(C.1:Nat))) 82 0) q 5=some a.kx:=(O3.au (aD H3 (dB ((A.1,B.1),(C.1:Nat))) 82 0)).c.cellAt rfl;obtain⟨TB,H4,H5,p1,p2,p3,p4⟩:=O3.push (i:=4) (s:=⟨5,3,82,a.kx,Y.map dB⟩) rfl (vs:=dB ((A.1,B.1),(C.1:Nat))) (z:=[(.str []),(.str []),(zi 0)]) rfl rfl (by show ((Y.map dB).length+1)*3<=_;rw[abv,hY];omega);have fI:=p1 H3.next rfl;have E5:=E3.vd p4.n;have Q5:=p4.n;obtain⟨T5,t1,t2⟩:=p4;have O5:OS N H5 q ck {a with kx:=TB} L Q (Y++[((A.1,B.1),((C.1:Nat):Int))]):=by unfold OS;rw[acY];exact p3
  have gR:∀j∈[p],j∉a.ras.flatMap RA.fp:=λj hj z=>by rw[No] at hj;have:=(hO.fr _ (.tail _ (.head _)) j z).1;have:=hE.p;omega
  have v5:=(((hv.out a3.o gR).out b3.o gR).out c3.o gR).out t1 λj hj=>(t2 j hj).2;obtain⟨x',a',H',i1,i2,i3,i4,i5,i6,i7⟩:=amJ hm n (i+1) H5 x3 {a with kx:=TB} C.2 (Y++[((A.1,B.1),((C.1:Nat):Int))]) zzz (by rw[aal,hY];rfl) O5 E5 v5 b0;have iR:rN rY (n+1) s=(((A.1,B.1),((C.1:Nat):Int))::(rN rY n C.2).1,(rN rY n C.2).2):=by
   have:rY s=(((A.1,B.1),((C.1:Nat):Int)),C.2):=by unfold rY;simp only[ha,hb,hc]
   show ((rY s).1::_,_)=_;rw[this]
  have vG:=lN (hO.ow 4 _ rfl).1.1.rw;refine⟨x',a',H',λBA=>?_,by rw[iR];simpa using i2,by rw[iR];exact i3,λj hj=>a3.w j (b3.w j (c3.w j (i4 j hj))),(((eK.p a3.o).trans (eK.p b3.o)).trans (eK.p c3.o)).trans ((eK.n Q5).trans i5),i6,i7⟩;rw[ah9];simp(disch:=try exact zqz)only[Xu,aN h1,k0,a1,b1,f1,c1,f2,f3,cF,fI,p2,k1,k2,k3,k4,eG vG,es,i1,ar,aq,zz0,simprocAttr]
theorem au7 {p:Nat}{x:AV}{s:Str×Bool}(hE:EI H p x s.1 s.2)(hg:Gl H)(eY:11<=p):
  ∃x' a H',cK (zf 68) [.ptr p 0] H=some (.agg (fe a (wP s).1),H')/\SV H'.next H' a (wP s).1/\EI H' p x' (wP s).2.1 (wP s).2.2/\(∀j∈ak x',j∈ak x)/\Out [p] H H':=by
 have ym:=hE.c.1;have dA:=hE.r.lt;have o1:=aD H zS 50 0;have c1:=aP H zS 50 0;have n1:(al H zS 50 0).next=H.next+1:=rfl;have sD:az H [(zi 0),.ah,.ah,.ah,.ah,.ah] 50 0=some (H.next,al H zS 50 0):=eh zzy;generalize bw:al H zS 50 0=H1 at*
 obtain⟨x2,H2,a1,a2,a3⟩:=Wh (hE.au o1);generalize ha:aY s.1 s.2=A at*
 have n2:=a3.o.1;have f2:fl [(zi 0),.ah,.ah,.ah,.ah,.ah] [(0,1,zi (gy A.1))]=some [zi (gy A.1),.ah,.ah,.ah,.ah,.ah]:=rfl;have adf:az H2 [(zi 0),.ah,.ah,.ah,.ah,.ah] 50 0=some (H2.next,al H2 [(zi 0),.ah,.ah,.ah,.ah,.ah] 50 0):=eh zzy;have HZ:st 6 (.ptr H2.next 0) (.agg [zi (gy A.1),.ah,.ah,.ah,.ah,.ah]) (al H2 [(zi 0),.ah,.ah,.ah,.ah,.ah] 50 0)=some (al H2 [zi (gy A.1),.ah,.ah,.ah,.ah,.ah] 50 0):=gJ rfl rfl rfl zzx rfl;have o3:=aD H2 [zi (gy A.1),.ah,.ah,.ah,.ah,.ah] 50 0;have c3:=aP H2 [zi (gy A.1),.ah,.ah,.ah,.ah,.ah] 50 0;have n3:(al H2 [zi (gy A.1),.ah,.ah,.ah,.ah,.ah] 50 0).next=H2.next+1:=rfl;generalize iB:al H2 [zi (gy A.1),.ah,.ah,.ah,.ah,.ah] 50 0=H3 at*
 have hxN:∀j∈ak x2,j<H2.next:=λj hj=>by have:=dA j (a3.w j hj);omega
 have O3:OS H2.next H3 H2.next (gy A.1) ⟨.ah,.ah,.ah,.ah,.ah,[]⟩ [] [] []:=by
  refine⟨c3,λi s hs=>?_,zzx,?_,λl hl j hj=>?_⟩
  ·match i,hs with
   |0,hs=>cases hs;exact⟨OL.nil _ _ _,rfl,by show 0<1;omega⟩|1,hs=>cases hs;exact⟨OL.nil _ _ _,rfl,by show 0<1;omega⟩|2,hs=>cases hs;exact⟨OL.nil _ _ _,rfl,by show 0<4;omega⟩|3,hs=>cases hs;exact⟨OL.nil _ _ _,rfl,by show 0<1;omega⟩|4,hs=>cases hs;exact⟨OL.nil _ _ _,rfl,by show 0<3;omega⟩|i+5,hs=>simp at hs
  ·simp[pq,Dj,ak]
  ·simp only[pq,ak,aby,ajn,List.flatMap_nil,aaD,aj6,or_false] at hl;rcases hl with rfl|rfl|rfl|rfl|rfl|rfl|rfl;·rw[No] at hj;omega
   all_goals cases hj
 have E3:EJ H2.next H3 p x2 A.2:=⟨a2.au o3,zzz,hxN⟩;obtain⟨x4,H4,b1,b2,b3⟩:=Ef E3.e 16;rw[show ((16:Nat):Int)=16 from rfl] at b1;have E4:EJ H2.next H4 p x4 (eV A.2.1 A.2.2 16).2:=E3.step b2 b3;have O4:=O3.er b3 E3.p;have hB:=I8 A.2.1 A.2.2 16;generalize hb:eV A.2.1 A.2.2 16=B at*
 obtain⟨x5,s5,H5,d1,d2,d3,d4,d5,d6⟩:=afG (b0:=H.next) zzz B.1 0 H4 x4 _ B.2 [] (ade _) rfl O4 E4;rw[show (((0:Nat):Int))=0 from rfl] at d1;rw[afP] at d2;have hLn:=IT rD B.1 B.2;generalize hL:rN rD B.1 B.2=L at*
 obtain⟨x6,H6,e1,e2,e3⟩:=Ef d3.e 64;rw[show ((64:Nat):Int)=64 from rfl] at e1;have E6:EJ H2.next H6 p x6 (eV L.2.1 L.2.2 64).2:=d3.step e2 e3;have O6:=d2.er e3 E3.p;have hC:=I8 L.2.1 L.2.2 64;generalize hc:eV L.2.1 L.2.2 64=C at*
 have r5:s5.ras=[]:=d6;have aky:eK H2.next p H3 H6:=((eK.p b3.o).trans d5).trans (eK.p e3.o);have MH:Gl H6:=by obtain⟨U,u1,u2⟩:=aky;exact (((hg.au o1).out a3.o (by simp;omega)).au o3).out u1 λj hj=>(u2 j hj).elim (λz=>zzz) λz=>zzz
 obtain⟨x7,s7,H7,g1,g2,g3,g4,g5,g6,g7⟩:=aiI (b0:=H.next) zzz eY zzz zzz C.1 0 H6 x6 s5 C.2 [] (ade _) rfl O6 E6 MH (by rw[r5];rfl) (λi r R hr=>by rw[r5] at hr;simp at hr);rw[show (((0:Nat):Int))=0 from rfl] at g1;rw[afP] at g2 g7;have hQn:=IT (rQ L.1) C.1 C.2;generalize hQ:rN (rQ L.1) C.1 C.2=Q at*
 obtain⟨x8,H8,i1,i2,i3⟩:=Ef g3.e 128;rw[show ((128:Nat):Int)=128 from rfl] at i1;have E8:EJ H2.next H8 p x8 (eV Q.2.1 Q.2.2 128).2:=g3.step i2 i3;have O8:=g2.er i3 E3.p;have hD:=I8 Q.2.1 Q.2.2 128;generalize hd:eV Q.2.1 Q.2.2 128=D at*
 have v8:=g7.out i3.o λj hj z=>by rw[No] at hj;have:=(g2.fr _ (.tail _ (.head _)) j z).1;have:=E3.p;omega
 obtain⟨x9,s9,H9,j1,j2,j3,j4,j5,j6,j7⟩:=amJ zzz D.1 0 H8 x8 s7 D.2 [] (ade _) rfl O8 E8 v8 H.next;rw[show (((0:Nat):Int))=0 from rfl] at j1;rw[afP] at j2;generalize hY:rN rY D.1 D.2=Y at*
 have hR:wP s=(⟨gy A.1,L.1.map (·.1),L.1.map (·.2),Q.1.map (·.1),Q.1.map (·.2),Y.1⟩,Y.2):=by unfold wP;simp only[ha,hb,hL,hc,hQ,hd,hY]
 rw[hR];have apc:eK H2.next p H3 H9:=(((aky.trans g5).trans (eK.p i3.o)).trans j5);have n9:=apc.nx;have k9:av H9 H2.next 0 6=some [zi (gy A.1),s9.nx,s9.tx,s9.rx,s9.ox,s9.kx]:=j2.c.av 6 0 zzy;obtain⟨U,u1,u2⟩:=apc;have jr:H.next∉U:=λz=>(u2 _ z).elim (λw=>zzz) λw=>zzz;have cb:=(((c1.out a3.o (by simp;omega)).out o3 zzy).out u1 jr);have w0:=(j2.ow 0 _ rfl).1;have w1:=(j2.ow 1 _ rfl).1;have w2:=(j2.ow 2 _ rfl).1;have w3:=(j2.ow 3 _ rfl).1;have w4:=(j2.ow 4 _ rfl).1;simp only at w0 w1 w2 w3 w4;obtain⟨kW,t1,t2,t3,t4⟩:=iC (n:=6) (vs:=[zi (gy A.1),s9.nx,s9.tx,s9.rx,s9.ox,s9.kx]) cb rfl rfl (by simp[w0.rl.one,w1.rl.one,w2.rl.one,w3.rl.one,w4.rl.one,iS]);have uo:av kW H.next 0 6=some [zi (gy A.1),s9.nx,s9.tx,s9.rx,s9.ox,s9.kx]:=t2.av 6 0 zzy;have n10:=t3.1;have ne:∀{l:List Nat},l∈pq H2.next (s9.ras.flatMap RA.fp) [⟨1,1,9,s9.nx,fK (L.1.map (·.1))⟩,⟨2,1,9,s9.tx,fK (L.1.map (·.2))⟩,⟨3,4,75,s9.rx,List.zipWith iA s9.ras (Q.1.map (·.1))⟩,⟨4,1,9,s9.ox,fK (Q.1.map (·.2))⟩,⟨5,3,82,s9.kx,Y.1.map dB⟩]->∀j∈l,j∉[H.next]:=λhl j hj z=>by rw[No] at z;have:=j2.fr _ hl j hj;omega
 have lt:∀{l:List Nat},l∈pq H2.next (s9.ras.flatMap RA.fp) [⟨1,1,9,s9.nx,fK (L.1.map (·.1))⟩,⟨2,1,9,s9.tx,fK (L.1.map (·.2))⟩,⟨3,4,75,s9.rx,List.zipWith iA s9.ras (Q.1.map (·.1))⟩,⟨4,1,9,s9.ox,fK (Q.1.map (·.2))⟩,⟨5,3,82,s9.kx,Y.1.map dB⟩]->∀j∈l,j<kW.next:=λhl j hj=>by have:=j2.fr _ hl j hj;omega
 have M:∀i l,(pq H2.next (s9.ras.flatMap RA.fp) [⟨1,1,9,s9.nx,fK (L.1.map (·.1))⟩,⟨2,1,9,s9.tx,fK (L.1.map (·.2))⟩,⟨3,4,75,s9.rx,List.zipWith iA s9.ras (Q.1.map (·.1))⟩,⟨4,1,9,s9.ox,fK (Q.1.map (·.2))⟩,⟨5,3,82,s9.kx,Y.1.map dB⟩])[i]?=some l->(∀j∈l,j∉[H.next])/\∀j∈l,j<kW.next:=λi l hl=>⟨ne (aac hl),lt (aac hl)⟩;have sv:SV kW.next kW s9 ⟨gy A.1,L.1.map (·.1),L.1.map (·.2),Q.1.map (·.1),Q.1.map (·.2),Y.1⟩:=by
  have a0:=w0.1.rw.out t3 (M 2 _ rfl).1;have a1:=w1.1.rw.out t3 (M 3 _ rfl).1;have a3:=w3.1.rw.out t3 (M 5 _ rfl).1;rw[abN] at a0 a1 a3;refine⟨a0,a1,w2.rl.out t3 (M 4 _ rfl).1,?_,?_,a3,w4.rl.out t3 (M 6 _ rfl).1,λj hj=>?_⟩;·rw[j6];refine j7.out t3 λj hj z=>?_;rw[<-j6] at z;exact (M 1 _ rfl).1 j z hj
  ·rw[j6,g6];show _=(Q.1.map (·.1)).length;rw[abv,hQn]
  ·rcases hj with q|q|q|q|q|q;·exact (M 2 _ rfl).2 j q
   ·exact (M 3 _ rfl).2 j q
   ·exact (M 4 _ rfl).2 j q
   ·exact (M 5 _ rfl).2 j q
   ·exact (M 6 _ rfl).2 j q
   ·exact (M 1 _ rfl).2 j q
 have hx9:∀j∈ak x9,j∈ak x:=λj hj=>a3.w j (b3.w j (d4 j (e3.w j (g4 j (i3.w j (j4 j hj))))));refine⟨x9,s9,kW,avL ?_,sv,j3.e.out t3 (by simp;omega) (λj hj z=>by rw[No] at z;have:=dA j (hx9 j hj);omega),hx9,?_⟩;·unfold af5;have k9':av H9 H2.next 0 6=some (fe s9 ⟨gy A.1,L.1.map (·.1),L.1.map (·.2),Q.1.map (·.1),Q.1.map (·.2),Y.1⟩):=k9;have t1':st 6 (.ptr H.next 0) (.agg (fe s9 ⟨gy A.1,L.1.map (·.1),L.1.map (·.2),Q.1.map (·.1),Q.1.map (·.2),Y.1⟩)) H9=some kW:=t1;have azH:av kW H.next 0 6=some (fe s9 ⟨gy A.1,L.1.map (·.1),L.1.map (·.2),Q.1.map (·.1),Q.1.map (·.2),Y.1⟩):=uo;simp(disch:=try exact zqz)only[sD,a1,f2,adf,HZ,iB,b1,d1,e1,g1,i1,j1,k9',t1',azH,ar,aq,zz0,simprocAttr]
 ·refine⟨zzz,λj hj hs=>?_⟩;have aF:j∉U:=λz=>(u2 j z).elim (λw=>zzz) λw=>hs (by rw[w];exact .head _);rw[t3.2 j zzz (λz=>by rw[No] at z;omega),u1.2 j zzz aF,o3.2 j zzz zzy,a3.o.2 j zzz hs,o1.2 j hj zzy]
end
theorem adP:∀(l:Str) (k v v':Nat) (r:Str),bB l->rB k v l=some (v',r)->bB r
 |[],k,v,v',r,h,e=>by rw[rB] at e;cases e
 |b::l,k,v,v',r,h,e=>by
  have hl:bB l:=λc hc=>h c (.tail _ hc);rw[rB] at e;split at e;·cases e
  ·split at e;·exact adP l _ _ _ _ hl e
   ·split at e;·cases e
    ·cases e;exact hl
theorem IV {s:Str×Bool}(h:bB s.1):bB (aY s.1 s.2).2.1:=by
 unfold aY;cases hr:rB 0 0 s.1 with
 |none=>intro c hc;cases hc
 |some x=>exact adP _ _ _ _ _ h hr
theorem Eb {s:Str×Bool}(h:bB s.1)(m:Nat):bB (eV s.1 s.2 m).2.1:=by
 unfold eV;split;·intro c hc;cases hc
 ·exact IV h
theorem CU {s:Str×Bool}(h:bB s.1)(m:Nat):bB (gr s.1 s.2 m).2.1/\bB (gr s.1 s.2 m).1:=by
 have:=IV h;unfold gr;split;·exact⟨λc hc=>(by cases hc),λc hc=>by cases hc⟩
 ·exact⟨λc hc=>this c (List.mem_of_mem_drop hc),λc hc=>this c (alp hc)⟩
theorem Iw {α:Type}{f:Str×Bool->α×Str×Bool}{Q:α->Prop}(h:∀s:Str×Bool,bB s.1->bB (f s).2.1/\Q (f s).1):∀(n:Nat) (s:Str×Bool),bB s.1->bB (rN f n s).2.1/\∀a∈(rN f n s).1,Q a
 |0,s,hs=>⟨hs,λa ha=>by cases ha⟩|n+1,s,hs=>by obtain⟨a,b⟩:=h s hs;obtain⟨c,d⟩:=Iw h n (f s).2 a;exact⟨c,λx hx=>(aaD.1 hx).elim (λe=>e▸b) (d x)⟩
theorem aEE (s:Str×Bool)(h:bB s.1):bB (rT s).2.1/\bB (rT s).1.iP:=by have a:=Eb h 255;have b:=Eb (s:=(eV s.1 s.2 255).2) a 255;have c:=IV (s:=(eV (eV s.1 s.2 255).2.1 (eV s.1 s.2 255).2.2 255).2) b;exact CU (s:=(aY _ _).2) c 64
theorem aw5 {D:List Tk}(hD:D.length<=16)(s:Str×Bool)(h:bB s.1):bB (getM D s).2.1/\((getM D s).1.rs.length<=16/\(getM D s).1.sg.length<=16/\DB (getM D s).1):=by
 have a:=Eb h 255;obtain⟨b1,b2⟩:=Iw (Q:=λr:RT=>bB r.iP) aEE D.length (eV s.1 s.2 255).2 a;have c:=Eb b1 16;obtain⟨d1,d2⟩:=Iw (f:=λs:Str×Bool=>gr s.1 s.2 16) (Q:=λ_=>True) (λs h=>⟨(CU h 16).1,trivial⟩) (eV (rN rT D.length (eV s.1 s.2 255).2).2.1 (rN rT D.length (eV s.1 s.2 255).2).2.2 16).1 _ c;refine⟨d1,?_,?_,b2⟩;·show (rN rT D.length _).1.length<=16;rw[IT];exact hD
 ·show (rN _ _ _).1.length<=16;rw[IT];exact I8 _ _ _
theorem ahG (s:Str×Bool)(h:bB s.1):(wP s).1.nms.length<=16/\(∀R∈(wP s).1.rs,R.rs.length<=16/\R.sg.length<=16/\DB R)/\∀y∈(wP s).1.ks,bB y.1.2:=by
 have a:=IV h;have b:=Eb a 16;obtain⟨c,_⟩:=Iw (f:=rD) (Q:=λ_=>True) (λs h=>⟨(CU (CU h 16).1 1024).1,trivial⟩) (eV (aY s.1 s.2).2.1 (aY s.1 s.2).2.2 16).1 _ b;have d:=Eb c 64;obtain⟨e,e2⟩:=Iw (f:=rQ (rN rD (eV (aY s.1 s.2).2.1 (aY s.1 s.2).2.2 16).1 (eV (aY s.1 s.2).2.1 (aY s.1 s.2).2.2 16).2).1) (Q:=λx:Rn×Str=>x.1.rs.length<=16/\x.1.sg.length<=16/\DB x.1) (λs h=>aw5 (agx _) _ (CU h 16).1) _ _ d;have f:=Eb e 128;obtain⟨_,g⟩:=Iw (f:=rY) (Q:=λy:Ke=>bB y.1.2) (λs h=>⟨Eb (CU (CU h 16).1 16).1 64,(CU (CU h 16).1 16).2⟩) _ _ f;refine⟨?_,λR hR=>?_,g⟩;·show ((rN rD _ _).1.map (·.1)).length<=16;rw[abv,IT];exact I8 _ _ _
 ·obtain⟨x,hx,rfl⟩:=abT.1 hR;exact e2 x hx
section
variable {H:Hp}{f:Fm}{off:Nat}{x:AV}
theorem arQ {l:List AV}(hx:Rw H 1 x l)(ho:∀v∈l,aZ v=true)(hl:l.length<=16777216):
  ∃y H',cK (zf 66) [x] H=some (y,H')/\Ow H' 5 1 y l/\Out [] H H'/\(∀j∈ak y,H.next<=j):=by
 have hu:P.underlying 52=some (.slice 5):=Tryz.underlying52;by_cases h0:x=.ah
 ·subst h0;have:l=[]:=by cases hx;rfl
  subst this;refine⟨.ah,H,ald ?_,.nil,Out.refl _ _,λj hj=>by simp[ak] at hj⟩;unfold abX;simp only[OV,oM,KV hu,zz0,simprocAttr]
 ·obtain⟨y,H',h1,h2,h3,h4⟩:=He (el:=5) (el2:=5) (z:=[(.int .u8 0)]) hx ho zzx hl;refine⟨y,H',ald ?_,h2,h3,h4⟩;have hq:∃i o n c ex es',x=.slice i o n c ex es':=by
   cases hx with
   |nil=>exact absurd rfl h0|emp=>exact⟨_,_,_,_,_,_,rfl⟩|mk _ _ _ _=>exact⟨_,_,_,_,_,_,rfl⟩
  obtain⟨i,o,n,c,ex,es',rfl⟩:=hq;unfold abX;have cF:az H [] 5 0=some (H.next,al H [] 5 0):=eh zzy;simp only[N5,oM,Mo hu,pz,cF,h1,zz0,simprocAttr]
theorem adn {y:AV}{l m:Str}(hx:Rw H 1 x (bs l))(hl:bB l)(hy:Rw H 1 y (bs m))(hm:bB m):cK (zf 70) [x,y] H=some (.bool (l==m),H):=by have a:=MI hx hl;have b:=MI hy hm;refine aDG ?_;unfold af8;simp(disch:=try exact zqz)only[a,b,ar,aq,zz0,simprocAttr]
noncomputable def rR (b:Str):Int:=gy (aY (b.take (b.length-4)) false).1
noncomputable def HG (b:Str):SS×Str×Bool:=wP (aY (b.take (b.length-4)) false).2
noncomputable def lf (b:Str):Option (Fm×Nat):=
 if b.length<4\/1048576<b.length then none else match nP (HG b).1 with
 |none=>none|some f=>if ((HG b).2.2=false/\(HG b).2.1=[])/\(0<=rR b/\rR b<=17592186044415)/\cq f (rR b).toNat=b then some (f,(rR b).toNat) else none
theorem XW (l:Str):∀v∈bs l,aZ v=true:=λv hv=>by obtain⟨_,_,rfl⟩:=abT.1 hv;rfl
theorem PT {b:Str}(hx:Rw H 1 x (bs b))(hb:bB b)(hg:Gl H)(hn:11<=H.next):
  ∃p a H',cK (zf 27) [x] H=(match lf b with|none=>some (.tuple [.da,zi 0,zi 2],H')|some r=>some (.tuple [.ptr p 0,zi (r.2:Nat),zi 0],H'))/\Out [] H H'/\
   ∀r,lf b=some r->FL H' p a r.1/\okM r.1/\(∀j∈own p a,H.next<=j)/\∀j∈bD.dL a,H.next<=j:=by
 have dO:=hx.gu;rw[jY] at dO;by_cases h4:b.length<4
 ·have e:lf b=none:=by unfold lf;rw[zz2 (.inl h4)]
  have d1:decide (((b.length:Nat):Int)<4)=true:=zz3 zzz;rw[e];refine⟨0,⟨0,0,0,.ah,.ah,.ah,[]⟩,H,GZ ?_,Out.refl _ _,λr h=>by cases h⟩;unfold Ek;simp(disch:=try exact zqz)only[dO,d1,ar,aq,zz0,simprocAttr]
 have d1:decide (((b.length:Nat):Int)<4)=false:=zz4 zzz;by_cases h5:1048576<b.length
 ·have e:lf b=none:=by unfold lf;rw[zz2 (.inr h5)]
  have d2:decide ((1048576:Int)<((b.length:Nat):Int))=true:=zz3 zzz;rw[e];refine⟨0,⟨0,0,0,.ah,.ah,.ah,[]⟩,H,GZ ?_,Out.refl _ _,λr h=>by cases h⟩;unfold Ek;simp(disch:=try exact zqz)only[dO,d1,d2,ar,aq,zz0,simprocAttr]
 have d2:decide ((1048576:Int)<((b.length:Nat):Int))=false:=zz4 zzz;have w1:IntKind.wrap .i64 (((b.length:Nat):Int)-4)=((b.length-4:Nat):Int):=by rw[wrap_i64 zzz zzz];omega
 obtain⟨y,y1,y2,y3⟩:=yD (n:=b.length) hx (by rw[jY,adM]) zzx (a:=0) (b:=b.length-4) (lo:=none) (hi:=some (zi ((b.length-4:Nat):Int))) (aa7 _) zzz (Bd.no 0) (Bd.yes _ _ _);have e0:((bs b).drop (0*1)).take ((b.length-4-0)*1)=bs (b.take (b.length-4)):=by rw[ag0,aaY,adM,agA];unfold bs;rw[List.map_take]
 rw[e0] at y2;have tP:(b.take (b.length-4)).length<=1048576:=by rw[ad8];omega
 have Sn:bB (b.take (b.length-4)):=λc hc=>hb c (alp hc);have asI:rR b=gy (aY (b.take (b.length-4)) false).1:=rfl;have Ny:HG b=wP (aY (b.take (b.length-4)) false).2:=rfl;obtain⟨cx,H1,c1,c2,c3,c4⟩:=arQ y2 (XW _) (by rw[jY];omega);generalize b.take (b.length-4)=c at*
 have n1:=c3.1;have f1:fl [.ah,(.bool false)] [(0,1,cx)]=some [cx,.bool false]:=by rw[yW c2.rw.one zzy,pz];rfl
 have sD:az H1 [.ah,(.bool false)] 126 0=some (H1.next,al H1 [.ah,(.bool false)] 126 0):=eh zzy;have xg:st 2 (.ptr H1.next 0) (.agg [cx,.bool false]) (al H1 [.ah,(.bool false)] 126 0)=some (al H1 [cx,.bool false] 126 0):=gJ (by simp[c2.rw.one,ZR]) rfl rfl zzx rfl;have o2:=aD H1 [cx,.bool false] 126 0;have a2:=aP H1 [cx,.bool false] 126 0;have n2:(al H1 [cx,.bool false] 126 0).next=H1.next+1:=rfl;have awo:=c2.rw.lt;generalize bq:al H1 [cx,.bool false] 126 0=H2 at*
 have E2:EI H2 H1.next cx c false:=⟨a2,(c2.rw.au o2),λz=>by have:=awo _ z;omega,Sn,zzz,λz=>by cases z⟩;obtain⟨x3,H3,i1,i2,i3⟩:=Wh E2;have n3:=i3.o.1;have jP:=(hg.au c3).au o2;have EK:=jP.out i3.o (by simp;omega);have MF:bB (aY c false).2.1:=IV (s:=(c,false)) Sn;rw[<-asI] at i1;obtain⟨x4,sa,H4,j1,j2,j3,j4,j5⟩:=au7 (s:=(aY c false).2) i2 EK zzz;obtain⟨k1,k2,k3⟩:=ahG (aY c false).2 MF;rw[<-Ny] at j1 j2 j3 k1 k2 k3;have n4:=j5.1;have hg4:=EK.out j5 (by simp;omega);generalize hR:HG b=R at*
 have wY:st 6 (.ptr H4.next 0) (.agg (fe sa R.1)) (al H4 [(zi 0),.ah,.ah,.ah,.ah,.ah] 50 0)=some (al H4 (fe sa R.1) 50 0):=gJ (by simp[fe,j2.n.one,j2.t.one,j2.r.one,j2.o.one,j2.k.one,iS]) rfl rfl zzx rfl;have yo:az H4 [(zi 0),.ah,.ah,.ah,.ah,.ah] 50 0=some (H4.next,al H4 [(zi 0),.ah,.ah,.ah,.ah,.ah] 50 0):=eh zzy;have o5:=aD H4 (fe sa R.1) 50 0;have c5:=aP H4 (fe sa R.1) 50 0;have n5:(al H4 (fe sa R.1) 50 0).next=H4.next+1:=rfl;generalize hA5:al H4 (fe sa R.1) 50 0=H5 at*
 have k5:av H5 H4.next 0 6=some (fe sa R.1):=c5.av 6 0 (by simp[fe]);obtain⟨p,a,H6,m1,m0,m2⟩:=aH8 ((j2.au o5).mono zzz) (hg4.au o5) zzz λQ hQ=>by have:=k2 Q hQ;omega
 have oN:∀{X:Hp},Out [] H5 X->Out [] H X:=λ{X} hX=>(eR (c3.trans o2) (i3.o.trans j5) (ll n1)).trans (o5.trans hX);have E6:EI H6 H1.next x4 R.2.1 R.2.2:=(j3.au o5).au m0;have en:=atG E6;have hN:H.next<=H5.next:=zzz;cases hF:nP R.1 with
 |none=>
  have e:lf b=none:=by unfold lf;rw[zz1 zzz,hR,hF]
  rw[hF] at m1;simp only at m1;rw[e];refine⟨0,⟨0,0,0,.ah,.ah,.ah,[]⟩,H6,GZ ?_,oN m0,λr h=>by cases h⟩;unfold Ek;cases hE:(!R.2.2&&decide (R.2.1.length=0))<;>rw[hE] at en<;>simp(disch:=try exact zqz)only[dO,d1,d2,w1,y1,c1,f1,sD,xg,bq,i1,j1,yo,wY,hA5,k5,m1,en,ar,aq,zz0,simprocAttr]
 |some f=>
  rw[hF] at m1;simp only at m1;obtain⟨u1,u2,u3,u4⟩:=m2 f hF;have ir:=aem hF u1.vI k2 k1 k3;cases hE:(!R.2.2&&decide (R.2.1.length=0)) with
  |false=>
   rw[hE] at en;have e:lf b=none:=by unfold lf;rw[zz1 zzz,hR,hF];refine zz1 λq=>?_;rw[q.1.1,q.1.2] at hE;cases hE
   rw[e];refine⟨0,⟨0,0,0,.ah,.ah,.ah,[]⟩,H6,GZ ?_,oN m0,λr h=>by cases h⟩;unfold Ek;simp(disch:=try exact zqz)only[dO,d1,d2,w1,y1,c1,f1,sD,xg,bq,i1,j1,yo,wY,hA5,k5,m1,en,ar,aq,zz0,simprocAttr]
  |true=>
   rw[hE] at en;have aCK:R.2.2=false/\R.2.1=[]:=by rw[aaM,zz5] at hE;exact⟨by simpa using hE.1,amp hE.2⟩
   have hx6:Rw H6 1 x (bs b):=hx.au (oN m0);by_cases Sz:0<=rR b/\rR b<=17592186044415
   ·obtain⟨z,H7,v1,v2,v3,v4⟩:=R4 u1 ir (off:=(rR b).toNat) zzz;rw[afV Sz.1] at v1;have q:=adn v2.rw (Hu ir _) (hx6.au v3) hb;by_cases hp:cq f (rR b).toNat=b
    ·have e:lf b=some (f,(rR b).toNat):=by unfold lf;rw[zz1 zzz,hR,hF];exact zz2 ⟨aCK,Sz,hp⟩
     have qt:(cq f (rR b).toNat==b)=true:=by simp[hp]
     rw[qt] at q;rw[e];refine⟨p,a,H7,GZ ?_,oN (m0.trans v3),λr h=>?_⟩;·simp only[afV Sz.1];unfold Ek;simp(disch:=try exact zqz)only[dO,d1,d2,w1,y1,c1,f1,sD,xg,bq,i1,j1,yo,wY,hA5,k5,m1,en,v1,q,ar,aq,zz0,simprocAttr]
     ·cases h;exact⟨u1.au v3,ir,λj hj=>by have:=u3 j hj;omega,λj hj=>by have:=u4 j hj;omega⟩
    ·have e:lf b=none:=by unfold lf;rw[zz1 zzz,hR,hF];exact zz1 λq=>hp q.2.2
     have qf:(cq f (rR b).toNat==b)=false:=by simpa using hp
     rw[qf] at q;rw[e];refine⟨0,⟨0,0,0,.ah,.ah,.ah,[]⟩,H7,GZ ?_,oN (m0.trans v3),λr h=>by cases h⟩;unfold Ek;simp(disch:=try exact zqz)only[dO,d1,d2,w1,y1,c1,f1,sD,xg,bq,i1,j1,yo,wY,hA5,k5,m1,en,v1,q,ar,aq,zz0,simprocAttr]
   ·have v1:=arp (H:=H6) (p:=p) (off:=rR b) zzz;have q:=adn (l:=[]) (.nil:Rw H6 1 .ah (bs [])) (λc hc=>by cases hc) hx6 hb;have qf:(([]:Str)==b)=false:=by
     cases b with
     |nil=>exact absurd (show ([]:Str).length<4 by decide) h4|cons _ _=>rfl
    rw[qf] at q;have e:lf b=none:=by unfold lf;rw[zz1 zzz,hR,hF];exact zz1 λq=>Sz q.2.1
    rw[e];refine⟨0,⟨0,0,0,.ah,.ah,.ah,[]⟩,H6,GZ ?_,oN m0,λr h=>by cases h⟩;unfold Ek;simp(disch:=try exact zqz)only[dO,d1,d2,w1,y1,c1,f1,sD,xg,bq,i1,j1,yo,wY,hA5,k5,m1,en,v1,q,ar,aq,zz0,simprocAttr]
theorem aAl (f:Fm)(off:Nat):(cq f off).take ((cq f off).length-4)=nZ f off:=by unfold cq;rw[aal,BY,Nat.add_sub_cancel,List.take_left]
theorem amn (h:okM f)(ho:off<=17592186044415):4<=(cq f off).length/\(cq f off).length<=400014:=by have:=aoz h (off:=off) zzz;unfold cq;rw[aal,BY];omega
theorem az4 (h:okM f)(ho:off<=17592186044415)(b X:Str)(hb:b.take (b.length-4)=nZ f off++X):rR b=(off:Nat)/\HG b=(iv f,X,false):=by unfold rR HG;rw[hb];unfold nZ;rw[abr,Hi zzz];exact⟨Vj zzz,ZV h X⟩
theorem aaw (h:okM f)(hf:nP (iv f)=some f)(ho:off<=17592186044415):lf (cq f off)=some (f,off):=by have hl:=amn h ho;obtain⟨a,b⟩:=az4 h ho (cq f off) [] (by rw[aAl,acQ]);unfold lf;rw[zz1 zzz,a,b];simp only[hf];rw[zz2 ⟨⟨trivial,trivial⟩,⟨zzz,zzz⟩,by rw[abI]⟩,abI]
end
def Ad:List Ev:=[⟨1,0,0,0,0,[100],[],[97,59,98,32,97,102,116,101,114,61,97,32,114,101,116,114,121,61,50]⟩,⟨2,1,0,0,0,[100],[107],[]⟩,⟨3,1,0,1,0,[],[],[]⟩]
def Sx (e:Ev):Prop:=bB e.dt/\bB e.ky
theorem Gc.b {e:Ev}(h:Gc e):Sx e:=⟨h.dt.1,h.ky.1⟩
theorem Xg:∀{l:List Ev} {f:Fm},FB f->(∀e∈l,Sx e)->FB (allM f l)
 |[],f,h,_=>h|e::r,f,h,hb=>Xg (l:=r) (afM h (hb e (.head _)).1 (hb e (.head _)).2) λx hx=>hb x (.tail _ hx)
theorem aqd:∀e∈Ad,Sx e:=by
 intro e he;simp only[Ad,aaD,aj6,or_false] at he;rcases he with rfl|rfl|rfl
 all_goals
  constructor<;>intro c hc<;>simp only[aaD,aj6,or_false] at hc<;>omega
noncomputable def vQ:Fm:=allM pL Ad
theorem Hl:FI vQ:=X8 fi0
theorem Zq:FB vQ:=Xg fb0 aqd
theorem avT:vQ.aw.length=1:=zzw
theorem aml {p:Nat}{x:AV}{l:List Ev}(hl:l.length<=1000):∀(r:List Ev) (i:Nat) (H:Hp) (a:FA) (f:Fm),i<=l.length->l.drop i=r->RL H 8 x (np l)->(∀j∈ak x,j∉own p a)->FL H p a f->FI f->Gl H->
  ∃a' H',(∀eJ:K.Fn 1,UN JN GO cK eJ x (.ptr p 0) (zi (i:Nat)) H=eJ (.ptr p 0) H')/\FL H' p a' (allM f r)/\FSt H H' p a a'
 |[],i,H,a,f,hi,h,hx,hd,hF,hI,hg=>by obtain rfl:=drop_nil hi h;have dO:=yf hx;refine⟨a,H,λeJ=>?_,hF,FSt.same (Out.refl _ _) p a⟩;rw[ajO];simp(disch:=try exact zqz)only[acx,dO,df,ar,aq,zz0,simprocAttr]
 |e::r,i,H,a,f,hi,h,hx,hd,hF,hI,hg=>by obtain⟨h1,h2,h3⟩:=dU h;have es:=dC h1 zzz;have dO:=yf hx;obtain⟨b,o,q1,q2,q3,q4,q5⟩:=hx.at zzx (DE h2);obtain⟨a',H2,u1,u2,u3⟩:=Kx hF hg hI.ok e;have dA:=hx.1.lt;obtain⟨a2,H',i1,i2,i3⟩:=aml hl r (i+1) H2 a' (qu f e).1 h1 h3 (hx.out u3.o λj hj z=>hd j hj z) (λj hj z=>(u3.w j z).elim (hd j hj) λz=>by have:=dA j hj;omega) u2 (HL hI e) (hg.out u3.o hF.lo);refine⟨a2,H',λeJ=>?_,i2,u3.trans i3⟩;rw[ajO];simp(disch:=try exact zqz)only[acx,dO,aN h1,q1,q4,u1,es,i1,ar,aq,zz0,simprocAttr]
theorem TZ {x:AV}{l:List Ev}{H:Hp}(hl:l.length<=1000)(hx:RL H 8 x (np l))(hg:Gl H)(hn:11<=H.next):
  ∃p a H',cK (zf 25) [x] H=some (.ptr p 0,H')/\FL H' p a (allM vQ l)/\Out [] H H'/\(∀j∈own p a,H.next<=j)/\∀j∈bD.dL a,H.next<=j:=by
 have f1:fl [(zi 0),(zi 0),(zi 0),(zi 0),(zi 0),(.str []),(.str []),(.str [])] [(0,1,(zi 1)),(5,1,(.str [100])),(7,1,(.str [97,59,98,32,97,102,116,101,114,61,97,32,114,101,116,114,121,61,50]))]=some (aQ ⟨1,0,0,0,0,[100],[],[97,59,98,32,97,102,116,101,114,61,97,32,114,101,116,114,121,61,50]⟩):=rfl;have f2:fl [(zi 0),(zi 0),(zi 0),(zi 0),(zi 0),(.str []),(.str []),(.str [])] [(0,1,(zi 2)),(1,1,(zi 1)),(5,1,(.str [100])),(6,1,(.str [107]))]=some (aQ ⟨2,1,0,0,0,[100],[107],[]⟩):=rfl;have f3:fl [(zi 0),(zi 0),(zi 0),(zi 0),(zi 0),(.str []),(.str []),(.str [])] [(0,1,(zi 3)),(1,1,(zi 1)),(3,1,(zi 1))]=some (aQ ⟨3,1,0,1,0,[],[],[]⟩):=rfl;have f4:fl [(zi 0),(zi 0),(zi 0),(zi 0),(zi 0),(.str []),(.str []),(.str []),(zi 0),(zi 0),(zi 0),(zi 0),(zi 0),(.str []),(.str []),(.str []),(zi 0),(zi 0),(zi 0),(zi 0),(zi 0),(.str []),(.str []),(.str [])] [(0,8,(.agg (aQ ⟨1,0,0,0,0,[100],[],[97,59,98,32,97,102,116,101,114,61,97,32,114,101,116,114,121,61,50]⟩))),(8,8,(.agg (aQ ⟨2,1,0,0,0,[100],[107],[]⟩))),(16,8,(.agg (aQ ⟨3,1,0,1,0,[],[],[]⟩)))]=some (np Ad).flatten:=rfl;have cF:az H (np Ad).flatten 26 0=some (H.next,al H (np Ad).flatten 26 0):=eh zzx;have o1:=aD H (np Ad).flatten 26 0;have c1:=aP H (np Ad).flatten 26 0;have n1:(al H (np Ad).flatten 26 0).next=H.next+1:=rfl;generalize al H (np Ad).flatten 26 0=H1 at*
 have hr:RL H1 8 (.slice H.next 0 3 3 true 8) (np Ad):=⟨.mk c1.ro rfl (aaO _) rfl,λc hc=>by obtain⟨e,_,rfl⟩:=abT.1 hc;rfl⟩;obtain⟨p,a,H2,u1,u2,u3,u4,u5⟩:=aGw zzx (hg.au o1) zzz hr;have n2:=u3.1;have dA:=hx.1.lt;obtain⟨a',H3,i1,i2,i3⟩:=aml hl l 0 H2 a _ (aa7 _) aaY ((hx.au o1).au u3) (λj hj z=>by have:=dA j hj;have:=u4 j z;omega) u2 Hl ((hg.au o1).au u3);rw[show (((0:Nat):Int))=0 from rfl] at i1;refine⟨p,a',H3,aCI ?_,i2,eR (o1.trans u3) i3.o λj hj=>by have:=u4 j hj;omega,λj hj=>(i3.w j hj).elim (λz=>by have:=u4 j z;omega) λz=>zzz,λj hj=>(i3.i j hj).elim (λz=>by have:=u5 j z;omega) λz=>zzz⟩;unfold apa;simp(disch:=try exact zqz)only[f1,f2,f3,f4,cF,u1,i1,ar,aq,zz0,simprocAttr]
theorem axs {f:Fm}{off:Nat}(ho:off<64):4<(cq f off).length:=by unfold cq nZ;rw[JM zzz,aal,BY,aal,List.length_singleton];omega
theorem am1 {H:Hp}(hg:Gl H)(hn:11<=H.next):∃H',cK (zf 24) [] H=some (.bool true,H')/\Out [] H H':=by obtain⟨p,a,H1,m1,m2,m3,m4,m5⟩:=TZ (l:=[]) (aa7 _) (RL.nil H 8) hg hn;have m2:FL H1 p a vQ:=m2;have ir:=YD Hl Zq;have n1:=m3.1;obtain⟨x,H2,v1,v2,v3,v4⟩:=R4 m2 ir (off:=7) zzz;have n2:=v3.1;have v1:cK (zf 26) [.ptr p 0,zi 7] H1=some (x,H2):=v1;obtain⟨q,b,H3,g1,g2,g3⟩:=PT v2.rw (Hu ir 7) ((hg.au m3).au v3) zzz;have hr:=aaw ir (acB Hl) (off:=7) zzz;rw[hr] at g1;simp only at g1;have g1:cK (zf 27) [x] H2=some (.tuple [.ptr q 0,zi 7,zi 0],H3):=g1;obtain⟨h1,_,h3,h4⟩:=g3 _ hr;have f3:=(m2.au v3).au g2;obtain⟨H4,t1,t2⟩:=PI f3 h1 Hl.sz Hl.sz;rw[Q0] at t1;have l3:=aFd f3;rw[avT] at l3;have l3:cK (zf 29) [.ptr p 0] H3=some (zi 1,H3):=l3;have lx:=(v2.rw.au g2).gu;rw[jY] at lx;have d4:decide ((4:Int)<(((cq vQ 7).length:Nat):Int))=true:=zz3 (by have:=axs (f:=vQ) (off:=7) zzz;omega);refine⟨H4,aHd ?_,((m3.trans v3).trans g2).trans t2⟩;unfold agG;simp(disch:=try exact zqz)only[m1,v1,g1,l3,lx,d4,t1,ar,aq,zz0,simprocAttr]
theorem agk {x:AV}{p:Nat}{l:List Ev}(hl:l.length<=1000)(hb:∀e∈l,Sx e):∀(r:List Ev) (i:Nat) (H:Hp) (q:Nat) (a b:FA) (f:Fm),i<=l.length->l.drop i=r->RL H 8 x (np l)->(∀j∈ak x,j∉own p a)->FL H p a f->FL H q b f->FI f->FB f->Gl H->
  (∃H',∀aX:K.Fn 2,PH JN GO cK aX x (.ptr p 0) (.ptr q 0) (zi (i:Nat)) H=some (.bool true,H'))\/
  ∃q' a' b' f' H',(∀aX:K.Fn 2,PH JN GO cK aX x (.ptr p 0) (.ptr q 0) (zi (i:Nat)) H=aX (.ptr p 0) (.ptr q' 0) H')/\FL H' p a' f'/\FL H' q' b' f'/\FI f'
 |[],i,H,q,a,b,f,hi,h,hx,hd,hP,hQ,hI,hB,hg=>by obtain rfl:=drop_nil hi h;have dO:=yf hx;refine .inr ⟨q,a,b,f,H,λaX=>?_,hP,hQ,hI⟩;rw[Sc];simp only[Lb,dO,df,zz0,simprocAttr]
 |e::r,i,H,q,a,b,f,hi,h,hx,hd,hP,hQ,hI,hB,hg=>by
  obtain⟨h1,h2,h3⟩:=dU h;have es:=dC h1 zzz;have dO:=yf hx;obtain⟨m,o,q1,q2,q3,q4,q5⟩:=hx.at zzx (DE h2);have c7:cellAt H m (o+7)=some (.str e.dt):=q5 7 _ rfl;by_cases hh:950<e.dt.length;·have d1:decide ((950:Int)<((e.dt.length:Nat):Int))=true:=zz3 zzz;refine .inl ⟨H,λaX=>?_⟩;rw[Sc];simp(disch:=try exact zqz)only[Lb,dO,aN h1,q1,c7,d1,ar,aq,zz0,simprocAttr]
  have d1:decide ((950:Int)<((e.dt.length:Nat):Int))=false:=zz4 zzz;have ir:=YD hI hB;obtain⟨y,H1,v1,v2,v3,v4⟩:=R4 hQ ir (off:=i) zzz;have n1:=v3.1;have aJD:11<=q:=hQ.lo q (kZ (k:=0) rfl (.head _));have hqn:=hQ.c.1;obtain⟨LC,b2,H2,g1,g2,g3⟩:=PT v2.rw (Hu ir i) (hg.au v3) zzz;have hr:=aaw ir (acB hI) (off:=i) zzz;rw[hr] at g1;simp only at g1;obtain⟨w1,_,w3,w4⟩:=g3 _ hr;have o2:=v3.trans g2;have mI:=hx.au o2;have Ov:=hP.au o2;have jP:=hg.au o2;obtain⟨m2,Oi,r1,r2,r3,r4,r5⟩:=mI.at zzx (DE h2);cases (q1 .i64).symm.trans (r1 .i64);have gR:=hP.lt;have rz:∀j∈bD.dL a,j<H.next:=λj hj=>(hP.dL j hj).2;have dA:=hx.1.lt;have hA:CG p LC a b2:=⟨λj hj z=>by have:=gR j hj;have:=w3 j z;omega,λj hj z=>by have:=gR j hj;have:=w4 j z;omega,λj hj z=>by have:=rz j z;have:=w3 j hj;omega⟩;obtain⟨a',H3,s1,s2,s3⟩:=Kx Ov jP hI.ok e;have Ue:=mI.out s3.o λj hj z=>hd j hj z;have hQ3:FL H3 LC b2 f:=w1.out s3.o (λj hj z=>hA.o j z hj) λj hj z=>hA.i j z hj;have EK:=jP.out s3.o Ov.lo;have bq:=hA.step s3 w1.lt λj hj=>(w1.dL j hj).2;obtain⟨m3,o3,t1,t2,t3,t4,t5⟩:=Ue.at zzx (DE h2);cases (q1 .i64).symm.trans (t1 .i64);obtain⟨b',H4,y1,y2,y3⟩:=Kx hQ3 EK hI.ok e;have hx4:=Ue.out y3.o λj hj z=>by have:=dA j hj;have:=w3 j z;omega
  have FU:FL H4 p a' (qu f e).1:=s2.out y3.o (λj hj z=>bq.o j hj z) λj hj z=>bq.k j z hj;have hg4:=EK.out y3.o hQ3.lo;have bne:((qu f e).2 != (qu f e).2)=false:=zzy;have RS:(((i:Nat):Int) != ((i:Nat):Int))=false:=zzy;have hs:same (.agg (aQ e)) (.agg (aQ e))=true:=by simp[same,aQ,vi,qP]
  have iN:=o2.1;have UZ:∀j∈ak x,j∉own p a':=λj hj z=>(s3.w j z).elim (hd j hj) λz=>by have:=dA j hj;omega
  have Pk:=hb e (aac h2);rcases agk hl hb r (i+1) H4 LC a' b' (qu f e).1 h1 h3 hx4 UZ FU y2 (HL hI e) (afM hB Pk.1 Pk.2) hg4 with⟨H',i1⟩|⟨q',a2,b2',f',H',i1,i2,i3,i4⟩;·refine .inl ⟨H',λaX=>?_⟩;rw[Sc];simp(disch:=try exact zqz)only[Lb,dO,aN h1,q1,c7,d1,v1,g1,r4,s1,t4,y1,bne,RS,eG hs,es,i1,ar,aq,zz0,simprocAttr]
  ·refine .inr ⟨q',a2,b2',f',H',λaX=>?_,i2,i3,i4⟩;rw[Sc];simp(disch:=try exact zqz)only[Lb,dO,aN h1,q1,c7,d1,v1,g1,r4,s1,t4,y1,bne,RS,eG hs,es,i1,ar,aq,zz0,simprocAttr]
theorem aEh {x:AV}{l:List Ev}{H:Hp}(hx:RL H 8 x (np l))(hb:∀e∈l,Gc e)(hT:CQ H qg)(kD:11<=H.next):∃H',cK (zf 9) [x] H=some (.bool true,H'):=by
 obtain⟨H1,a1,a2⟩:=am1 (Gl.of hT kD) kD;have n1:=a2.1;have kB:=hx.au a2;have qC:=(Gl.of hT kD).au a2;have lx:=yf kB;by_cases h3:l.length<=25
 rotate_left
 ·have d1:decide ((25:Int)<((l.length:Nat):Int))=true:=zz3 zzz;refine⟨H1,U0 ?_⟩;unfold Pw;simp(disch:=try exact zqz)only[a1,lx,d1,ar,aq,zz0,simprocAttr]
 have d1:decide ((25:Int)<((l.length:Nat):Int))=false:=zz4 zzz;obtain⟨p,a,H2,m1,m2,m3,m4,m5⟩:=TZ (l:=[]) (aa7 _) (RL.nil H1 8) qC zzz;have n2:=m3.1;obtain⟨q,b,H3,u1,u2,u3,u4,u5⟩:=TZ (l:=[]) (aa7 _) (RL.nil H2 8) (qC.au m3) zzz;have m2:FL H2 p a vQ:=m2;have u2:FL H3 q b vQ:=u2;have dA:=kB.1.lt;rcases agk zzz (λe he=>(hb e he).b) l 0 H3 q a b vQ (aa7 _) aaY ((kB.au m3).au u3) (λj hj z=>by have:=dA j hj;have:=m4 j z;omega) (m2.au u3) u2 Hl Zq ((qC.au m3).au u3) with⟨H',i1⟩|⟨q',a',b',f',H',i1,i2,i3,i4⟩;·rw[show (((0:Nat):Int))=0 from rfl] at i1;refine⟨H',U0 ?_⟩;unfold Pw;simp(disch:=try exact zqz)only[a1,lx,d1,m1,u1,i1,ar,aq,zz0,simprocAttr]
 ·rw[show (((0:Nat):Int))=0 from rfl] at i1;obtain⟨H5,t1,t2⟩:=PI i2 i3 i4.sz i4.sz;rw[Q0] at t1;refine⟨H5,U0 ?_⟩;unfold Pw;simp(disch:=try exact zqz)only[a1,lx,d1,m1,u1,i1,t1,ar,aq,zz0,simprocAttr]
theorem az0 {H:Hp}{as':List AV}{ds:List D}(h:Hy H [.slice 8 Ln] as' ds)(hT:CQ H qg)(hn:11<=H.next):∃H',cK (zf 9) as' H=some (.bool true,H'):=by
 cases h with
 |cons h0 h=>
 cases h;obtain⟨l,hl,hb⟩:=Xq (acZ h0);exact aEh hl hb hT hn
end Go.Proofs.YtodfajmihkagnaaGreatDoor.bD
namespace Go.Proofs.YtodfajmihkagnaaGreatDoor.Hand
open Go
theorem auQ {P:Program}{w:World}(h:w.ShapedOpen P){g:Nat}(hg:g+1=P.globals.size)(hr:(((begin P (λ_ _=>0) default).world.heap[g]?).bind Obj.row?).isSome=true):P.globals.size<=w.heap.size:=by obtain⟨⟨zero,t⟩,hr⟩:=ajm.1 hr;obtain⟨cs,hc,_⟩:=h.1 g zero t zzz hr;have:=(acA.1 hc).1;omega
variable {H:Type}{enc:TypeId×Value->H}
theorem handed {a:Assume}{C:Checked}{os:Os}{f:FuncId}{fn:Func}{s:ChangeSpec}{conds:List PathCond}{apart fresh handsOn again:Bool}{X:World->Array Value->Prop}{g:Nat}
  (hg:g+1=C.prog.globals.size) (hr:(((begin C.prog (λ_ _=>0) default).world.heap[g]?).bind Obj.row?).isSome=true)
  (hX:∀(w w':World) (args:Array Value),w.heap=w'.heap->X w args->X w' args)
  (own:ownKnob C.prog.godebug=none) (started:os.Started) (arv:C.prog.inits.idxOf? f=none) (Oq:C.prog.funcs[f]?=some fn)
  (witness:∃ (w:World) (tape:Tape) (i:Input),w.os=os/\(w.forCall tape i).Shaped C.prog/\i.vars=[]/\Input.okWide C.prog (w.forCall tape i) .any w.heap.size f i/\
   ((s.pre enc C.prog fn conds apart (w.forCall tape i).memory i.args/\X (w.forCall tape i).memory i.args)/\sizedMet enc C.prog fn (OpenSpec.ofChange s) apart (w.forCall tape i).memory i.args)/\a.holds C.prog (lone (Frame.enter C.prog f i.args .normal) [] (w.forCall tape i)))
  (aCy:∀ (W:World) (base:Nat) (args:Array Value) (ds gs:List (DataW H)) (before:List MemPlace),C.prog.globals.size<=W.heap.size->
   (∀(j:Nat) t v,fn.params[j]?=some t->args[j]?=some v->Value.okWide C.prog W .any base t v)->
   DataW.Whole enc C.prog fn.params.toList s.vars apart W args.toList ds gs before->
   conds.all (PathCond.test C.prog ⟨fn.params.toList,ds,s.plain.varTypes C.prog,gs⟩)=true->
   (DataW.weightsEach C.prog (fn.params.toList++s.plain.varTypes C.prog) (ds++gs)).all (·<=reachBytes)=true->X W args->
   a.holds C.prog (lone (Frame.enter C.prog f args .normal) [] W)->
   Calls C.prog f args W λe W'=>∃v,e=.returned v/\s.post enc C.prog fn apart fresh handsOn again W args v W'):
  ReturnsInHanded a C os f .any (λw args=>(s.pre enc C.prog fn conds apart w args/\X w args)/\sizedMet enc C.prog fn (OpenSpec.ofChange s) apart w args) (s.post enc C.prog fn apart fresh handsOn again):=
 returnsInHanded_of_calls own started arv witness λw tape i _ ur _ ir aD6 aAO=>by obtain⟨_,_,_,fn',aFE,_,_,_,_,uX⟩:=ir;obtain rfl:fn'=fn:=acd (aFE.symm.trans Oq);obtain⟨⟨⟨ds,gs,before,hw,hc⟩,hx⟩,hz⟩:=aD6;refine (aCy (w.forCall tape i) w.heap.size i.args ds gs before (auQ ur hg hr) uX (DataW.Whole.of_heap (w':=w.forCall tape i) zzv hw) hc (hz.weights hw) (hX _ _ _ zzv hx) aAO).mono λe W' hp=>?_;obtain⟨v,rfl,hp⟩:=hp;exact ChangeSpec.post_blind hp
end Go.Proofs.YtodfajmihkagnaaGreatDoor.Hand
