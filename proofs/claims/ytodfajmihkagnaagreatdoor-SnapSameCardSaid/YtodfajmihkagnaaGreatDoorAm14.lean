/- Laws that the proof uses. -/
import Derived.Test.YtodfajmihkagnaaGreatDoorAm13
import Derived.Deep.Slices
set_option linter.unusedVariables false
set_option linter.unusedSimpArgs false
namespace Go.Proofs.YtodfajmihkagnaaGreatDoor.Am
open Go.Deep
namespace K
inductive Ty where
 |bool
 |int (k:IntKind)
 |str
 |slice (sz:Nat) (e:Ty)
 |struct (n:Nat) (fs:List (Nat×Nat×Ty))
inductive D where
 |b (x:Bool)
 |i (x:Int)
 |s (x:List Nat)
 |row (l:List D)
 |st (l:List D)
 deriving Inhabited
def xo:List (Nat×Nat×Ty)->Nat->Nat->Prop
 |[],a,n=>a=n|q::r,a,n=>q.1=a/\xo r (a+q.2.1) n
theorem xo.le:∀(fs:List (Nat×Nat×Ty)) (a n:Nat),xo fs a n->a<=n
 |[],a,n,h=>Nat.le_of_eq h|q::r,a,n,h=>afi (Nat.le_add_right _ _) (xo.le r _ n h.2)
theorem xo.lo:∀(fs:List (Nat×Nat×Ty)) (a n:Nat),xo fs a n->∀q∈fs,a<=q.1/\q.1+q.2.1<=n
 |q::r,a,n,h,x,hx=>by
  rcases aal.1 hx with rfl|hx;·have:=xo.le r _ n h.2;have:=h.1;omega
  ·have:=xo.lo r _ n h.2 x hx;omega
inductive De (P:Program):Ty->TypeId->Prop
 |bool {t:TypeId} (h:P.underlying t=some .bool):De P .bool t
 |int {t:TypeId} {k:IntKind} (h:P.underlying t=some (.int k)):De P (.int k) t
 |str {t:TypeId} (h:P.underlying t=some .string):De P .str t
 |slice {t e:TypeId} {sz:Nat} {ty:Ty} (h:P.underlying t=some (.slice e)) (hs:P.cellsOf e=sz) (h0:0<sz) (he:De P ty e):De P (.slice sz ty) t
 |struct {t:TypeId} {n:Nat} {fs:Array Field} {Gb:List (Nat×Nat×Ty)} (h:P.underlying t=some (.struct fs)) (hn:P.cellsOf t=n) (hl:Gb.length=fs.toList.length) (hc:xo Gb 0 n)
   (hf:∀(j:Nat) (f:Field) (q:Nat×Nat×Ty),fs.toList[j]?=some f->Gb[j]?=some q->q.1=f.offset/\q.2.1=P.cellsOf f.type) (ht:∀(j:Nat) (f:Field) (q:Nat×Nat×Ty),fs.toList[j]?=some f->Gb[j]?=some q->De P q.2.2 f.type):De P (.struct n Gb) t
inductive Is (H:Hp):Ty->List AV->D->Prop
 |bool (b:Bool):Is H .bool [.bool b] (.b b)
 |int (k:IntKind) (z:Int) (h:k.min<=z/\z<=k.max):Is H (.int k) [.int k z] (.i z)
 |str (s:List Nat) (h:∀c∈s,c<256) (hl:s.length<=reachBytes):Is H .str [.str s] (.s s)
 |slice {sz:Nat} {e:Ty} {x:AV} {l:List AV} {ds:List D} (hr:Rw H sz x l) (hl:l.length=ds.length*sz) (hd:∀(i:Nat) (d:D),ds[i]?=some d->Is H e ((l.drop (i*sz)).take sz) d):Is H (.slice sz e) [x] (.row ds)
 |struct {n:Nat} {fs:List (Nat×Nat×Ty)} {l:List AV} {ds:List D} (hl:l.length=n) (hn:ds.length=fs.length)
   (hd:∀(j:Nat) (q:Nat×Nat×Ty) (d:D),fs[j]?=some q->ds[j]?=some d->Is H q.2.2 ((l.drop q.1).take q.2.1) d):Is H (.struct n fs) l (.st ds)
structure OB where
 ao:AO
 b:Nat
 n:Nat
def Fits (e:Em)(N:Nat)(os:List OB):Prop:=N+os.length<=e.N/\∀j o,os[j]?=some o->e.b (N+j)=o.b/\e.d (N+j)=0/\e.n (N+j)=o.n
def Has (H:Hp)(N:Nat)(os:List OB):Prop:=N+os.length<=H.next/\∀j o,os[j]?=some o->H.h.get (N+j)=some o.ao
theorem Fits.app {e:Em}{N:Nat}{a b:List OB}(h:Fits e N (a++b)):Fits e N a/\Fits e (N+a.length) b:=by
 obtain⟨h1,h2⟩:=h;rw[aah] at h1;refine⟨⟨zzz,λj o hj=>h2 j o ?_⟩,zzz,λj o hj=>?_⟩;·rw[abi (aac.1 hj).1];exact hj
 ·rw[ak3];exact h2 _ o (by rw[abm zzz,aeE];exact hj)
theorem Has.app {H:Hp}{N:Nat}{a b:List OB}(h:Has H N (a++b)):Has H N a/\Has H (N+a.length) b:=by
 obtain⟨h1,h2⟩:=h;rw[aah] at h1;refine⟨⟨zzz,λj o hj=>h2 j o ?_⟩,zzz,λj o hj=>?_⟩;·rw[abi (aac.1 hj).1];exact hj
 ·rw[ak3];exact h2 _ o (by rw[abm zzz,aeE];exact hj)
structure VA (W:World)(ty:Ty)(cs:List Value)(N:Nat)(l:List AV)(os:List OB)(d:D):Prop where
 len:l.length=cs.length
 vr:∀e,Fits e N os->aR e l cs
 or:∀e,Fits e N os->∀j o,os[j]?=some o->∃ob,W.heap[o.b]?=some ob/\OR e (N+j) o.ao ob
 wr:∀o∈os,wr o.ao=false
 is:∀H,Has H N os->Is H ty l d
section
variable {Q:Type}{enc:TypeId×Value->Q}{P:Program}{W:World}{base:Nat}{spare:Nat->Bool}{held:Bool}
theorem adC {ty:Ty}{sz:Nat}(C:Nat->List Value)(hC:∀i,(C i).length=sz):∀(n k:Nat),(∀i,k<=i->i<k+n->∀N,∃l os d,VA W ty (C i) N l os d)->∀N,∃(L:List AV) (os:List OB) (ds:List D),L.length=n*sz/\ds.length=n/\
  (∀e,Fits e N os->aR e L ((List.range' k n).flatMap C))/\(∀e,Fits e N os->∀j o,os[j]?=some o->∃ob,W.heap[o.b]?=some ob/\OR e (N+j) o.ao ob)/\(∀o∈os,wr o.ao=false)/\
  ∀H,Has H N os->∀i d,ds[i]?=some d->Is H ty ((L.drop (i*sz)).take sz) d
 |0,k,h,N=>⟨[],[],[],zzy,rfl,λe _=>.nil e,λe _ j o hj=>by simp at hj,λo ho=>(by cases ho),λH _ i d hd=>by simp at hd⟩|n+1,k,h,N=>by
  obtain⟨l,os,d,o1⟩:=h k (aaq _) zzz N;obtain⟨L,MZ,ds,h1,h2,h3,h4,h5,h6⟩:=adC C hC n (k+1) (λi a b=>h i zzz zzz) (N+os.length);have hl:l.length=sz:=by rw[o1.len,hC]
  refine⟨l++L,os++MZ,d::ds,by rw[aah,h1,hl,Nat.succ_mul];omega,by simp[h2],λe he=>?_,λe he j o hj=>?_,λo ho=>?_,λH hH i x hx=>?_⟩;·obtain⟨f1,f2⟩:=he.app;rw[anE,List.flatMap_cons];exact (o1.vr e f1).append (h3 e f2)
  ·obtain⟨f1,f2⟩:=he.app;by_cases uh:j<os.length;·rw[abi uh] at hj;exact o1.or e f1 j o hj
   ·rw[abm zzz] at hj;obtain⟨ob,a,b⟩:=h4 e f2 _ o hj;exact⟨ob,a,by rw[show N+j=N+os.length+(j-os.length) by omega];exact b⟩
  ·exact (aaQ.1 ho).elim (o1.wr o) (h5 o)
  ·obtain⟨f1,f2⟩:=hH.app;cases i with
   |zero=>
    cases hx;rw[ahD,aaM,List.take_append_of_le_length zzz,ae2 zzz];exact o1.is H f1
   |succ i=>
    have:=h6 H f2 i x (by simpa using hx);rw[Nat.succ_mul,Nat.add_comm,<-List.drop_drop,List.drop_left' hl];exact this
theorem aoN (cs:List Value)(n:Nat)(gS:cs.length=n):∀(fs:List (Nat×Nat×Ty)) (a:Nat),xo fs a n->(∀q∈fs,∀N,∃l os d,VA W q.2.2 ((cs.drop q.1).take q.2.1) N l os d)->∀N,∃(L:List AV) (os:List OB) (ds:List D),L.length=n-a/\ds.length=fs.length/\
  (∀e,Fits e N os->aR e L (cs.drop a))/\(∀e,Fits e N os->∀j o,os[j]?=some o->∃ob,W.heap[o.b]?=some ob/\OR e (N+j) o.ao ob)/\(∀o∈os,wr o.ao=false)/\
  ∀H,Has H N os->∀(j:Nat) (q:Nat×Nat×Ty) (d:D),fs[j]?=some q->ds[j]?=some d->Is H q.2.2 ((L.drop (q.1-a)).take q.2.1) d
 |[],a,hc,h,N=>by have ha:a=n:=hc;refine⟨[],[],[],by simp;omega,rfl,λe _=>?_,λe _ j o hj=>by simp at hj,λo ho=>(by cases ho),λH _ j q d x=>by simp at x⟩;rw[aiA zzz];exact .nil e
 |q::fs,a,hc,h,N=>by
  obtain⟨l,os,d,o1⟩:=h q (.head _) N;obtain⟨L,MZ,ds,h1,h2,h3,h4,h5,h6⟩:=aoN cs n gS fs (a+q.2.1) hc.2 (λq hq=>h q (.tail _ hq)) (N+os.length);have hqa:=hc.1;have hle:=xo.le fs _ n hc.2;have hl:l.length=q.2.1:=by rw[o1.len,ad9,aeG];omega
  refine⟨l++L,os++MZ,d::ds,by rw[aah,h1,hl];omega,by simp[h2],λe he=>?_,λe he j o hj=>?_,λo ho=>(aaQ.1 ho).elim (o1.wr o) (h5 o),λH hH j q' d' x y=>?_⟩;·obtain⟨f1,f2⟩:=he.app;have:=(o1.vr e f1).append (h3 e f2);rw[hqa,<-List.drop_drop,aiP] at this;exact this
  ·obtain⟨f1,f2⟩:=he.app;by_cases uh:j<os.length;·rw[abi uh] at hj;exact o1.or e f1 j o hj
   ·rw[abm zzz] at hj;obtain⟨ob,a,b⟩:=h4 e f2 _ o hj;exact⟨ob,a,by rw[show N+j=N+os.length+(j-os.length) by omega];exact b⟩
  ·obtain⟨f1,f2⟩:=hH.app;cases j with
   |zero=>
    cases x;cases y;rw[hqa,ajA,aaM,List.take_append_of_le_length zzz,ae2 zzz];exact o1.is H f1
   |succ j=>
    have x':fs[j]?=some q':=by simpa using x
    have:=h6 H f2 j q' d' x' (by simpa using y);have iL:=(xo.lo fs _ n hc.2 q' (aab x')).1;rw[show q'.1-a=l.length+(q'.1-(a+q.2.1)) by omega,<-List.drop_drop,List.drop_left];exact this
theorem acm {α:Type}(C:Nat->List α){sz:Nat}(hC:∀i,(C i).length=sz):∀(n k j r:Nat),j<n->r<sz->((List.range' k n).flatMap C)[j*sz+r]?=(C (k+j))[r]?
 |0,k,j,r,h,_=>zzz|n+1,k,j,r,h,hr=>by
  rw[anE,List.flatMap_cons];cases j with
  |zero=>rw[ahD,adn,abi (by rw[hC];exact hr),aeA]|succ j=>
   rw[Nat.succ_mul,abm (by rw[hC];omega),hC,show j*sz+sz+r-sz=j*sz+r by omega,acm C hC n (k+1) j r zzz hr];congr 2;omega
theorem aFS (b off m n:Nat):((⟨b,off,none⟩:Addr).add m).add n=⟨b,off+m+n,none⟩:=by unfold Addr.add;by_cases hm:m=0<;>by_cases hn:n=0<;>simp[hm,hn]
theorem aep {e:TypeId}{k:Nat}{d:DataW Q}:∀{l:List (DataW Q)},d∈l->k∈d.weights P e->k∈DataW.weightsAll P e l
 |x::l,h,hk=>by
  rw[DataW.weightsAll];rcases aal.1 h with rfl|h;·exact aaG _ hk
  ·exact aaw _ (aep h hk)
theorem Mx {k:Nat}{d:DataW Q}{t:TypeId}:∀{ts:List TypeId} {ds:List (DataW Q)} {j:Nat},ts[j]?=some t->ds[j]?=some d->k∈d.weights P t->k∈DataW.weightsEach P ts ds
 |[],ds,j,h,_,_=>by simp at h
 |t0::ts,[],j,_,h,_=>by simp at h
 |t0::ts,d0::ds,0,h1,h2,hk=>by rw[DataW.weightsEach];cases h1;cases h2;exact aaG _ hk
 |t0::ts,d0::ds,j+1,h1,h2,hk=>by rw[DataW.weightsEach];exact aaw _ (Mx (j:=j) (by simpa using h1) (by simpa using h2) hk)
theorem auf (mJ:∀b,spare b=true){ty:Ty}{t:TypeId}(ht:De P ty t):∀(fuel:Nat) (cs:List Value) (x:DataW Q×List MemPlace),DataW.trod enc P W base spare held fuel t cs=some x->(∀k∈x.1.weights P t,k<=reachBytes)->∀N,∃l os d,VA W ty cs N l os d:=by
 induction ht with
 |bool hu=>
  intro fuel cs x h y8 N;obtain⟨b,rfl,_⟩:=DataW.trod_bool hu h;exact⟨[.bool b],[],.b b,rfl,λe _=>.cons (.bool b) (.nil e),λe _ j o hj=>by simp at hj,λo ho=>(by cases ho),λH _=>.bool b⟩
 |@int t k hu=>
  intro fuel cs x h y8 N;obtain⟨z,rfl,_,hw⟩:=DataW.trod_int hu h;refine⟨[.int k z],[],.i z,rfl,λe _=>.cons (.int k z) (.nil e),λe _ j o hj=>by simp at hj,λo ho=>(by cases ho),λH _=>.int k z ?_⟩;simpa[Lit.wf] using hw
 |str hu=>
  intro fuel cs x h y8 N;obtain⟨s,rfl,M5,hs⟩:=DataW.trod_string hu h;refine⟨[.str (bytes s)],[],.s (bytes s),rfl,λe _=>.cons (.str s) (.nil e),λe _ j o hj=>by simp at hj,λo ho=>(by cases ho),λH _=>.str _ (λc hc=>?_) ?_⟩;·obtain⟨u,_,rfl⟩:=abN.1 hc;exact u.toNat_lt
  ·unfold bytes;rw[abF];exact y8 _ (by rw[M5];simp[DataW.weights])
 |@slice t e sz ty hu hs h0 he ih=>
  intro fuel cs x h y8 N;rcases open_slice hu h with⟨rfl,_⟩|⟨a,len,cap,m,n,D',Pl,rfl,hb,hl,hm,Io,M5,hx⟩;·exact⟨[.ah],[],.row [],rfl,λe _=>.cons .ah (.nil e),λe _ j o hj=>by simp at hj,λo ho=>(by cases ho),λH _=>.slice .nil zzy λi d hd=>by simp at hd⟩
  rw[mJ,zz2 rfl] at Io;subst Io;rw[hs] at hx;by_cases Jg:m=0;·subst Jg;obtain rfl:len=0:=zzz;exact⟨[.slice 0 0 0 0 true sz],[],.row [],rfl,λe _=>.cons (.EG 0 0 true sz a) (.nil e),λe _ j o hj=>by simp at hj,λo ho=>(by cases ho),λH _=>.slice .emp zzy λi d hd=>by simp at hd⟩
  obtain⟨V,hV⟩:=choose_lt (α:=List Value) (p:=λi JQ=>W.cells? base (a.add (i*sz)) sz=some JQ/\DataW.trod enc P W base spare held n e JQ=some (D' i,Pl i)) (λi hi=>hx i hi);have BC:∀i,i<m->(V i).length=sz/\∀r,r<sz->W.cell? ((a.add (i*sz)).add r)=(V i)[r]?:=λi hi=>(World.cells?_some (hV i hi).1).2;obtain⟨b,off,sp⟩:=a;have azW:sp=none:=by
   have h1:=(BC 0 zzz).2 0 h0;have h2:=(BC 0 zzz).1;rw[ahD,aai zzz] at h1;have e0:((⟨b,off,sp⟩:Addr).add 0).add 0=⟨b,off,sp⟩:=by simp[Addr.add]
   rw[e0] at h1;cases sp with
   |none=>rfl|some y=>
    exfalso;unfold World.cell? at h1;split at h1;·simp at h1
    ·cases h1
  subst azW;have YR:∀i r,i<m->r<sz->W.cell? ⟨b,off+i*sz+r,none⟩=(V i)[r]?:=λi r hi hr=>by rw[<- (BC i hi).2 r hr,aFS]
  have N6:∃C el fz,W.heap[b]?=some (.cells C el fz)/\∀k v,W.cell? ⟨b,k,none⟩=some v->C[k]?=some v:=by
   have h1:=YR 0 0 zzz h0;have h2:=(BC 0 zzz).1;rw[aai zzz] at h1;unfold World.cell? at h1;split at h1;·rename_i C el fz hw;refine⟨C,el,fz,hw,λk v hk=>?_⟩;unfold World.cell? at hk;simp only[hw] at hk;simpa using hk
   ·cases h1
  obtain⟨C,el,fz,hw,hC⟩:=N6;have hCm:off+m*sz<=C.size:=by
   have h1:=YR (m-1) (sz-1) zzz zzz;have h2:=(BC (m-1) zzz).1;rw[aai zzz] at h1;have:=(abW.1 (hC _ _ h1)).1;have e1:(m-1)*sz+sz=m*sz:=by rw[<-Nat.succ_mul];congr 1;omega
   omega
  have hVl:∀i,(if i<m then V i else List.replicate sz Value.nilFunc).length=sz:=λi=>by
   split;·exact (BC i (by assumption)).1
   ·simp
  obtain⟨L,os,ds,o1,o2,o3,o4,o5,o6⟩:=adC (W:=W) (ty:=ty) (λi=>if i<m then V i else List.replicate sz Value.nilFunc) hVl len 0 (λi _ hi N=>by have him:i<m:=zzz;simp only[him,if_true];exact ih n (V i) _ (hV i him).2 (λk hk=>y8 k (by rw[M5];simp only[DataW.weights,hu];exact .tail _ (aaG _ (aep (List.mem_map_of_mem (anm.2 zzz)) hk)))) N) (N+1);have Ry:∀e,Fits e N (⟨.cells (Tr.cz .nil off L) off (off+L.length) el 2,b,C.size⟩::os)->N<e.N/\e.b N=b/\e.d N=0/\e.n N=C.size/\Fits e (N+1) os:=by intro e he;have h1:=he.2 0 _ rfl;have h2:=(Fits.app (a:=[⟨.cells (Tr.cz .nil off L) off (off+L.length) el 2,b,C.size⟩]) (b:=os) he).2;have h3:=he.1;simp only[aau] at h3;exact⟨zzz,h1.1,h1.2.1,h1.2.2,h2⟩
  refine⟨[.slice N off len m true sz],⟨.cells (Tr.cz .nil off L) off (off+L.length) el 2,b,C.size⟩::os,.row ds,rfl,λe he=>?_,λe he j o hj=>?_,λo ho=>?_,λH hH=>?_⟩;·obtain⟨f1,f2,f3,f4,f5⟩:=Ry e he;refine .cons ?_ (.nil e);have:=VR.slice (e:=e) N off len m true sz off m f1 (by rw[f3];simp) hl (aaq _) (λ_=>rfl) (by rw[f4];exact hCm);rw[f2] at this;exact this
  ·obtain⟨f1,f2,f3,f4,f5⟩:=Ry e he;cases j with
   |zero=>
    cases hj;refine⟨_,hw,?_⟩;refine .cells _ off (off+L.length) el 2 C fz f4.symm (λk v xF iw hk=>?_) zzy zzy (λ_=>f3);rw[Tr.zj,zz2 ⟨xF,iw⟩] at hk;obtain⟨v',bT,jy⟩:=(o3 e f5).get hk;refine⟨k,by rw[aeA,f3];simp,v',?_,jy⟩;have hq:k-off<len*sz:=zzz;have hi:(k-off) / sz<len:=Nat.div_lt_of_lt_mul (by rw[anH];exact hq);have hr:(k-off)%sz<sz:=ama _ h0;have hd:(k-off) / sz*sz+(k-off)%sz=k-off:=by rw[anH];exact Nat.div_add_mod _ _
    have h1:=acm _ hVl len 0 _ _ hi hr;rw[hd,adn,zz2 zzz] at h1;have ai5:(List.flatMap (λi=>if i<m then V i else List.replicate sz Value.nilFunc) (List.range' 0 len))[k-off]?=some v':=bT;rw[h1,<-YR _ _ zzz hr] at ai5;have:=hC _ _ ai5;rw[show off+(k-off) / sz*sz+(k-off)%sz=k by omega] at this;exact this
   |succ j=>
    obtain⟨ob,h1,h2⟩:=o4 e f5 j o (by simpa using hj);exact⟨ob,h1,by rw[show N+(j+1)=N+1+j by omega];exact h2⟩
  ·rcases aal.1 ho with rfl|ho;·rfl
   ·exact o5 o ho
  ·have h1:=hH.2 0 _ rfl;have h2:=(Has.app (a:=[⟨.cells (Tr.cz .nil off L) off (off+L.length) el 2,b,C.size⟩]) (b:=os) hH).2;have h3:=hH.1;simp only[aau] at h3;refine .slice (l:=L) (.mk ⟨zzz,_,_,_,_,_,h1,aaq _,aaq _,λk v hk=>?_⟩ o1 hl ?_) (by rw[o1,o2]) (o6 H h2);·have:=(aac.1 hk).1;rw[Tr.zj,zz2 ⟨zzz,zzz⟩,<-hk];congr 1;omega
   ·rw[rq Jg];rfl
 |@struct t n fs Gb hu hn hl hc hf ht ih=>
  intro fuel cs x h y8 N;obtain⟨xs,n',_,M5,ns,dC,mM⟩:=DataW.trod_struct hu h;obtain⟨L,os,ds,o1,o2,o3,o4,o5,o6⟩:=aoN (W:=W) cs n (by rw[ns,hn]) Gb 0 hc (λq hq N=>by
   obtain⟨j,hj⟩:=ab2 hq;have uh:j<fs.toList.length:=by rw[<-hl];exact (aac.1 hj).1
   have QK:fs.toList[j]?=some fs.toList[j]:=aai uh;obtain⟨e1,e2⟩:=hf j _ q QK hj;have aeM:=mM j fs.toList[j] (by rw[<-aeq];exact QK);have hjx:j<xs.length:=by rw[dC];simpa using uh
   have yl:xs[j]?=some xs[j]:=aai hjx;rw[yl] at aeM;rw[e1,e2];exact ih j _ q QK hj n' _ _ aeM (λk hk=>y8 k (by rw[M5];simp only[DataW.weights,hu];exact Mx (j:=j) (by rw[acd,QK];rfl) (by rw[acd,yl];rfl) hk)) N) N
  refine⟨L,os,.st ds,by rw[o1,ns,hn,agN],λe he=>?_,o4,o5,λH hH=>.struct (by rw[o1,agN]) o2 λj q d h1 h2=>?_⟩;·have:=o3 e he;rw[aaM] at this;exact this
  ·have:=o6 H hH j q d h1 h2;rw[agN] at this;exact this
def Tb:Ty->List AV->AV
 |.struct _ _,l=>.agg l|_,l=>l.headD .dG
def abx:Ty->Bool
 |.struct _ _=>true|_=>false
structure Me (enc:TypeId×Value->Q)(P:Program)(W:World)(base:Nat)(spare:Nat->Bool)(held:Bool)(ty:Ty)(t:TypeId)(v:Value):Prop where
 of:De P ty t
 rd:∃fuel x,DataW.trod enc P W base spare held fuel t v.cells.toList=some x/\∀k∈x.1.weights P t,k<=reachBytes
 st:abx ty=true->∃cs,v=.agg cs
 one:abx ty=false->v.cells=#[v]
def PN (H:Hp)(ty:Ty)(a:AV)(d:D):Prop:=∃l,a=Tb ty l/\Is H ty l d
inductive ON (enc:TypeId×Value->Q) (P:Program) (W:World) (base:Nat) (spare:Nat->Bool) (held:Bool):List Ty->List Value->Prop
 |nil:ON enc P W base spare held [] []
 |cons {ty:Ty} {t:TypeId} {v:Value} {u9:List Ty} {vs:List Value} (h:Me enc P W base spare held ty t v) (k:ON enc P W base spare held u9 vs):ON enc P W base spare held (ty::u9) (v::vs)
inductive Kb (H:Hp):List Ty->List AV->List D->Prop
 |nil:Kb H [] [] []
 |cons {ty:Ty} {a:AV} {d:D} {u9:List Ty} {as':List AV} {ds:List D} (h:PN H ty a d) (k:Kb H u9 as' ds):Kb H (ty::u9) (a::as') (d::ds)
theorem aug (mJ:∀b,spare b=true){ty:Ty}{t:TypeId}{v:Value}(h:Me enc P W base spare held ty t v)(N:Nat):∃(a:AV) (os:List OB) (d:D),(∀e,Fits e N os->VR e a v)/\
  (∀e,Fits e N os->∀j o,os[j]?=some o->∃ob,W.heap[o.b]?=some ob/\OR e (N+j) o.ao ob)/\(∀o∈os,wr o.ao=false)/\∀H,Has H N os->PN H ty a d:=by
 obtain⟨fuel,x,hx,hxw⟩:=h.rd;obtain⟨l,os,d,o⟩:=auf mJ h.of fuel _ x hx hxw N;refine⟨Tb ty l,os,d,λe he=>?_,o.or,o.wr,λH hH=>⟨l,rfl,o.is H hH⟩⟩;have hv:=o.vr e he;cases aC:abx ty with
 |true=>
  obtain⟨cs,rfl⟩:=h.st aC;have:Tb ty l=.agg l:=by cases ty<;>first|rfl|cases aC
  rw[this];have:=VR.acN hv;simpa[Value.cells] using this
 |false=>
  have h1:=h.one aC;rw[h1] at hv;have hl:l.length=1:=by rw[o.len,h1];rfl
  match l,hl with
  |[a],_=>
   have:Tb ty [a]=a:=by cases ty<;>first|rfl|cases aC
   rw[this];exact hv.2 0 a v rfl rfl
theorem ao3 (mJ:∀b,spare b=true){u9:List Ty}{vs:List Value}(h:ON enc P W base spare held u9 vs):∀N,∃(as':List AV) (os:List OB) (ds:List D),(∀e,Fits e N os->aR e as' vs)/\
  (∀e,Fits e N os->∀j o,os[j]?=some o->∃ob,W.heap[o.b]?=some ob/\OR e (N+j) o.ao ob)/\(∀o∈os,wr o.ao=false)/\∀H,Has H N os->Kb H u9 as' ds:=by
 induction h with
 |nil=>exactλN=>⟨[],[],[],λe _=>.nil e,λe _ j o hj=>by simp at hj,λo ho=>(by cases ho),λH _=>.nil⟩
 |cons h k ih=>
  intro N;obtain⟨a,os,d,a1,a2,a3,a4⟩:=aug mJ h N;obtain⟨as',MZ,ds,b1,b2,b3,b4⟩:=ih (N+os.length);refine⟨a::as',os++MZ,d::ds,λe he=>.cons (a1 e he.app.1) (b1 e he.app.2),λe he j o hj=>?_,λo ho=>(aaQ.1 ho).elim (a3 o) (b3 o),λH hH=>.cons (a4 H hH.app.1) (b4 H hH.app.2)⟩;obtain⟨f1,f2⟩:=he.app;by_cases uh:j<os.length;·rw[abi uh] at hj;exact a2 e f1 j o hj
  ·rw[abm zzz] at hj;obtain⟨ob,p,q⟩:=b2 e f2 _ o hj;exact⟨ob,p,by rw[show N+j=N+os.length+(j-os.length) by omega];exact q⟩
def Bi (N:Nat):List OB->List (Nat×AO)
 |[]=>[]|o::os=>(N,o.ao)::Bi (N+1) os
theorem acq:∀(os:List OB) (N i:Nat) (o:AO),(i,o)∈Bi N os->∃j ob,os[j]?=some ob/\i=N+j/\o=ob.ao
 |[],N,i,o,h=>by cases h
 |ob::os,N,i,o,h=>by
  rcases aal.1 h with h|h;·cases h;exact⟨0,ob,rfl,rfl,rfl⟩
  ·obtain⟨j,su,h1,h2,h3⟩:=acq os (N+1) i o h;exact⟨j+1,su,by simpa using h1,zzz,h3⟩
theorem aj1:∀(os:List OB) (N:Nat) (t:Tr AO) (j:Nat) (o:OB),os[j]?=some o->(vb (Bi N os) t).get (N+j)=some o.ao
 |[],N,t,j,o,h=>by simp at h
 |ob::os,N,t,0,o,h=>by cases h;show (Tr.put 34 (vb (Bi (N+1) os) t) N ob.ao).get N=_;rw[Tr.put,Tr.gE,zz2 rfl]
 |ob::os,N,t,j+1,o,h=>by show (Tr.put 34 (vb (Bi (N+1) os) t) N ob.ao).get (N+(j+1))=_;rw[Tr.put,Tr.gE,zz1 zzz,show N+(j+1)=N+1+j by omega];exact aj1 os (N+1) t j o (by simpa using h)
theorem ac6:∀(os:List OB) (N:Nat) (t:Tr AO) (i:Nat),i<N->(vb (Bi N os) t).get i=t.get i
 |[],N,t,i,h=>rfl|ob::os,N,t,i,h=>by show (Tr.put 34 (vb (Bi (N+1) os) t) N ob.ao).get i=_;rw[Tr.put,Tr.gE,zz1 zzz];exact ac6 os (N+1) t i zzz
theorem akQ (el:Nat->TypeId):∀(L:List (Nat×List AV)),(L.map (·.1)).Nodup->∀g l,(g,l)∈L->(uz el L).get g=some (.cells (Tr.cz .nil 0 l) 0 l.length (el g) 2)
 |[],_,g,l,h=>by cases h
 |(g',l')::L,hn,g,l,h=>by
  rw[abo,ajD] at hn;rw[uz,Tr.put,Tr.gE];rcases aal.1 h with h|h;·cases h;rw[zz2 rfl]
  ·rw[zz1 (λq=>hn.1 (by rw[<-q];exact abN.2 ⟨_,h,rfl⟩))];exact akQ el L hn.2 g l h
end
section
variable {H:Hp}{d:D}{α β:Type}
theorem Re {p:α->β->Prop}:∀(j:Nat) (f:α) (q:β),([]:List α)[j]?=some f->([]:List β)[j]?=some q->p f q:=λj f q h=>by simp at h
theorem ju {p:α->β->Prop}{a:α}{b:β}{l:List α}{m:List β}(h:p a b)(k:∀(j:Nat) (f:α) (q:β),l[j]?=some f->m[j]?=some q->p f q):
  ∀(j:Nat) (f:α) (q:β),(a::l)[j]?=some f->(b::m)[j]?=some q->p f q:=λj f q h1 h2=>by
 cases j with
 |zero=>cases h1;cases h2;exact h|succ j=>exact k j f q (by simpa using h1) (by simpa using h2)
theorem aCZ {k:IntKind}{a:AV}(h:PN H (.int k) a d):∃z,a=.int k z/\k.min<=z/\z<=k.max:=by
 obtain⟨l,rfl,h⟩:=h;cases h with
 |int k z h=>exact⟨z,rfl,h⟩
theorem aoV {e:Ty}{sz:Nat}{a:AV}(h:PN H (.slice sz e) a d):Is H (.slice sz e) [a] d:=by
 obtain⟨l,rfl,h⟩:=h;cases h with
 |slice hr hl hd=>exact .slice hr hl hd
end
end K
end Go.Proofs.YtodfajmihkagnaaGreatDoor.Am
