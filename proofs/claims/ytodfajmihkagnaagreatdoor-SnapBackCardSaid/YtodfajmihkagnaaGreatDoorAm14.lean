/- Laws that the proof uses. -/
import Derived.Test.YtodfajmihkagnaaGreatDoorAm13
import Derived.Deep.Slices
set_option linter.unusedVariables false
set_option linter.unusedSimpArgs false
namespace Go.Proofs.YtodfajmihkagnaaGreatDoor.Am
open Go.Deep
namespace K
inductive Ty where
 |bool
 |int (k:IntKind)
 |str
 |slice (sz:Nat) (e:Ty)
 |struct (n:Nat) (fs:List (Nat×Nat×Ty))
inductive D where
 |b (x:Bool)
 |i (x:Int)
 |s (x:List Nat)
 |row (l:List D)
 |st (l:List D)
 deriving Inhabited
def xh:List (Nat×Nat×Ty)->Nat->Nat->Prop
 |[],a,n=>a=n|q::r,a,n=>q.1=a/\xh r (a+q.2.1) n
theorem xh.le:∀(fs:List (Nat×Nat×Ty)) (a n:Nat),xh fs a n->a<=n
 |[],a,n,h=>Nat.le_of_eq h|q::r,a,n,h=>afz (Nat.le_add_right _ _) (xh.le r _ n h.2)
theorem xh.lo:∀(fs:List (Nat×Nat×Ty)) (a n:Nat),xh fs a n->∀q∈fs,a<=q.1/\q.1+q.2.1<=n
 |q::r,a,n,h,x,hx=>by
  rcases aaD.1 hx with rfl|hx;·have:=xh.le r _ n h.2;have:=h.1;omega
  ·have:=xh.lo r _ n h.2 x hx;omega
inductive Db (P:Program):Ty->TypeId->Prop
 |bool {t:TypeId} (h:P.underlying t=some .bool):Db P .bool t
 |int {t:TypeId} {k:IntKind} (h:P.underlying t=some (.int k)):Db P (.int k) t
 |str {t:TypeId} (h:P.underlying t=some .string):Db P .str t
 |slice {t e:TypeId} {sz:Nat} {ty:Ty} (h:P.underlying t=some (.slice e)) (hs:P.cellsOf e=sz) (h0:0<sz) (he:Db P ty e):Db P (.slice sz ty) t
 |struct {t:TypeId} {n:Nat} {fs:Array Field} {Gi:List (Nat×Nat×Ty)} (h:P.underlying t=some (.struct fs)) (hn:P.cellsOf t=n) (hl:Gi.length=fs.toList.length) (hc:xh Gi 0 n)
   (hf:∀(j:Nat) (f:Field) (q:Nat×Nat×Ty),fs.toList[j]?=some f->Gi[j]?=some q->q.1=f.offset/\q.2.1=P.cellsOf f.type) (ht:∀(j:Nat) (f:Field) (q:Nat×Nat×Ty),fs.toList[j]?=some f->Gi[j]?=some q->Db P q.2.2 f.type):Db P (.struct n Gi) t
inductive Is (H:Hp):Ty->List AV->D->Prop
 |bool (b:Bool):Is H .bool [.bool b] (.b b)
 |int (k:IntKind) (z:Int) (h:k.min<=z/\z<=k.max):Is H (.int k) [.int k z] (.i z)
 |str (s:List Nat) (h:∀c∈s,c<256) (hl:s.length<=reachBytes):Is H .str [.str s] (.s s)
 |slice {sz:Nat} {e:Ty} {x:AV} {l:List AV} {ds:List D} (hr:Rw H sz x l) (hl:l.length=ds.length*sz) (hd:∀(i:Nat) (d:D),ds[i]?=some d->Is H e ((l.drop (i*sz)).take sz) d):Is H (.slice sz e) [x] (.row ds)
 |struct {n:Nat} {fs:List (Nat×Nat×Ty)} {l:List AV} {ds:List D} (hl:l.length=n) (hn:ds.length=fs.length)
   (hd:∀(j:Nat) (q:Nat×Nat×Ty) (d:D),fs[j]?=some q->ds[j]?=some d->Is H q.2.2 ((l.drop q.1).take q.2.1) d):Is H (.struct n fs) l (.st ds)
structure OB where
 ao:AO
 b:Nat
 n:Nat
def Fits (e:Em)(N:Nat)(os:List OB):Prop:=N+os.length<=e.N/\∀j o,os[j]?=some o->e.b (N+j)=o.b/\e.d (N+j)=0/\e.n (N+j)=o.n
def Has (H:Hp)(N:Nat)(os:List OB):Prop:=N+os.length<=H.next/\∀j o,os[j]?=some o->H.h.get (N+j)=some o.ao
theorem Fits.app {e:Em}{N:Nat}{a b:List OB}(h:Fits e N (a++b)):Fits e N a/\Fits e (N+a.length) b:=by
 obtain⟨h1,h2⟩:=h;rw[aal] at h1;refine⟨⟨zzz,λj o hj=>h2 j o ?_⟩,zzz,λj o hj=>?_⟩;·rw[abd (aag.1 hj).1];exact hj
 ·rw[ak2];exact h2 _ o (by rw[abk zzz,ae0];exact hj)
theorem Has.app {H:Hp}{N:Nat}{a b:List OB}(h:Has H N (a++b)):Has H N a/\Has H (N+a.length) b:=by
 obtain⟨h1,h2⟩:=h;rw[aal] at h1;refine⟨⟨zzz,λj o hj=>h2 j o ?_⟩,zzz,λj o hj=>?_⟩;·rw[abd (aag.1 hj).1];exact hj
 ·rw[ak2];exact h2 _ o (by rw[abk zzz,ae0];exact hj)
structure V9 (W:World)(ty:Ty)(cs:List Value)(N:Nat)(l:List AV)(os:List OB)(d:D):Prop where
 len:l.length=cs.length
 vr:∀e,Fits e N os->aW e l cs
 or:∀e,Fits e N os->∀j o,os[j]?=some o->∃ob,W.heap[o.b]?=some ob/\OR e (N+j) o.ao ob
 wr:∀o∈os,wr o.ao=false
 is:∀H,Has H N os->Is H ty l d
section
variable {Q:Type}{enc:TypeId×Value->Q}{P:Program}{W:World}{base:Nat}{spare:Nat->Bool}{held:Bool}
theorem aeq {ty:Ty}{sz:Nat}(C:Nat->List Value)(hC:∀i,(C i).length=sz):∀(n k:Nat),(∀i,k<=i->i<k+n->∀N,∃l os d,V9 W ty (C i) N l os d)->∀N,∃(L:List AV) (os:List OB) (ds:List D),L.length=n*sz/\ds.length=n/\
  (∀e,Fits e N os->aW e L ((List.range' k n).flatMap C))/\(∀e,Fits e N os->∀j o,os[j]?=some o->∃ob,W.heap[o.b]?=some ob/\OR e (N+j) o.ao ob)/\(∀o∈os,wr o.ao=false)/\
  ∀H,Has H N os->∀i d,ds[i]?=some d->Is H ty ((L.drop (i*sz)).take sz) d
 |0,k,h,N=>⟨[],[],[],zzy,rfl,λe _=>.nil e,λe _ j o hj=>by simp at hj,λo ho=>(by cases ho),λH _ i d hd=>by simp at hd⟩|n+1,k,h,N=>by
  obtain⟨l,os,d,o1⟩:=h k (aaO _) zzz N;obtain⟨L,M8,ds,h1,h2,h3,h4,h5,h6⟩:=aeq C hC n (k+1) (λi a b=>h i zzz zzz) (N+os.length);have hl:l.length=sz:=by rw[o1.len,hC]
  refine⟨l++L,os++M8,d::ds,by rw[aal,h1,hl,Nat.succ_mul];omega,by simp[h2],λe he=>?_,λe he j o hj=>?_,λo ho=>?_,λH hH i x hx=>?_⟩;·obtain⟨f1,f2⟩:=he.app;rw[List.range'_succ,List.flatMap_cons];exact (o1.vr e f1).append (h3 e f2)
  ·obtain⟨f1,f2⟩:=he.app;by_cases tX:j<os.length;·rw[abd tX] at hj;exact o1.or e f1 j o hj
   ·rw[abk zzz] at hj;obtain⟨ob,a,b⟩:=h4 e f2 _ o hj;exact⟨ob,a,by rw[show N+j=N+os.length+(j-os.length) by omega];exact b⟩
  ·exact (aa2.1 ho).elim (o1.wr o) (h5 o)
  ·obtain⟨f1,f2⟩:=hH.app;cases i with
   |zero=>
    cases hx;rw[ag0,aaY,List.take_append_of_le_length zzz,afe zzz];exact o1.is H f1
   |succ i=>
    have:=h6 H f2 i x (by simpa using hx);rw[Nat.succ_mul,Nat.add_comm,<-List.drop_drop,List.drop_left' hl];exact this
theorem apz (cs:List Value)(n:Nat)(gQ:cs.length=n):∀(fs:List (Nat×Nat×Ty)) (a:Nat),xh fs a n->(∀q∈fs,∀N,∃l os d,V9 W q.2.2 ((cs.drop q.1).take q.2.1) N l os d)->∀N,∃(L:List AV) (os:List OB) (ds:List D),L.length=n-a/\ds.length=fs.length/\
  (∀e,Fits e N os->aW e L (cs.drop a))/\(∀e,Fits e N os->∀j o,os[j]?=some o->∃ob,W.heap[o.b]?=some ob/\OR e (N+j) o.ao ob)/\(∀o∈os,wr o.ao=false)/\
  ∀H,Has H N os->∀(j:Nat) (q:Nat×Nat×Ty) (d:D),fs[j]?=some q->ds[j]?=some d->Is H q.2.2 ((L.drop (q.1-a)).take q.2.1) d
 |[],a,hc,h,N=>by have ha:a=n:=hc;refine⟨[],[],[],by simp;omega,rfl,λe _=>?_,λe _ j o hj=>by simp at hj,λo ho=>(by cases ho),λH _ j q d x=>by simp at x⟩;rw[aiG zzz];exact .nil e
 |q::fs,a,hc,h,N=>by
  obtain⟨l,os,d,o1⟩:=h q (.head _) N;obtain⟨L,M8,ds,h1,h2,h3,h4,h5,h6⟩:=apz cs n gQ fs (a+q.2.1) hc.2 (λq hq=>h q (.tail _ hq)) (N+os.length);have hqa:=hc.1;have hle:=xh.le fs _ n hc.2;have hl:l.length=q.2.1:=by rw[o1.len,ad8,aeF];omega
  refine⟨l++L,os++M8,d::ds,by rw[aal,h1,hl];omega,by simp[h2],λe he=>?_,λe he j o hj=>?_,λo ho=>(aa2.1 ho).elim (o1.wr o) (h5 o),λH hH j q' d' x y=>?_⟩;·obtain⟨f1,f2⟩:=he.app;have:=(o1.vr e f1).append (h3 e f2);rw[hqa,<-List.drop_drop,ajx] at this;exact this
  ·obtain⟨f1,f2⟩:=he.app;by_cases tX:j<os.length;·rw[abd tX] at hj;exact o1.or e f1 j o hj
   ·rw[abk zzz] at hj;obtain⟨ob,a,b⟩:=h4 e f2 _ o hj;exact⟨ob,a,by rw[show N+j=N+os.length+(j-os.length) by omega];exact b⟩
  ·obtain⟨f1,f2⟩:=hH.app;cases j with
   |zero=>
    cases x;cases y;rw[hqa,ajQ,aaY,List.take_append_of_le_length zzz,afe zzz];exact o1.is H f1
   |succ j=>
    have x':fs[j]?=some q':=by simpa using x
    have:=h6 H f2 j q' d' x' (by simpa using y);have iK:=(xh.lo fs _ n hc.2 q' (aac x')).1;rw[show q'.1-a=l.length+(q'.1-(a+q.2.1)) by omega,<-List.drop_drop,List.drop_left];exact this
theorem adk {α:Type}(C:Nat->List α){sz:Nat}(hC:∀i,(C i).length=sz):∀(n k j r:Nat),j<n->r<sz->((List.range' k n).flatMap C)[j*sz+r]?=(C (k+j))[r]?
 |0,k,j,r,h,_=>zzz|n+1,k,j,r,h,hr=>by
  rw[List.range'_succ,List.flatMap_cons];cases j with
  |zero=>rw[ag0,ade,abd (by rw[hC];exact hr),aed]|succ j=>
   rw[Nat.succ_mul,abk (by rw[hC];omega),hC,show j*sz+sz+r-sz=j*sz+r by omega,adk C hC n (k+1) j r zzz hr];congr 2;omega
theorem aGs (b off m n:Nat):((⟨b,off,none⟩:Addr).add m).add n=⟨b,off+m+n,none⟩:=by unfold Addr.add;by_cases hm:m=0<;>by_cases hn:n=0<;>simp[hm,hn]
theorem afd {e:TypeId}{k:Nat}{d:DataW Q}:∀{l:List (DataW Q)},d∈l->k∈d.weights P e->k∈DataW.weightsAll P e l
 |x::l,h,hk=>by
  rw[DataW.weightsAll];rcases aaD.1 h with rfl|h;·exact aa1 _ hk
  ·exact aaT _ (afd h hk)
theorem Cy {k:Nat}{d:DataW Q}{t:TypeId}:∀{ts:List TypeId} {ds:List (DataW Q)} {j:Nat},ts[j]?=some t->ds[j]?=some d->k∈d.weights P t->k∈DataW.weightsEach P ts ds
 |[],ds,j,h,_,_=>by simp at h
 |t0::ts,[],j,_,h,_=>by simp at h
 |t0::ts,d0::ds,0,h1,h2,hk=>by rw[DataW.weightsEach];cases h1;cases h2;exact aa1 _ hk
 |t0::ts,d0::ds,j+1,h1,h2,hk=>by rw[DataW.weightsEach];exact aaT _ (Cy (j:=j) (by simpa using h1) (by simpa using h2) hk)
theorem auY (mL:∀b,spare b=true){ty:Ty}{t:TypeId}(ht:Db P ty t):∀(fuel:Nat) (cs:List Value) (x:DataW Q×List MemPlace),DataW.trod enc P W base spare held fuel t cs=some x->(∀k∈x.1.weights P t,k<=reachBytes)->∀N,∃l os d,V9 W ty cs N l os d:=by
 induction ht with
 |bool hu=>
  intro fuel cs x h sw N;obtain⟨b,rfl,_⟩:=DataW.trod_bool hu h;exact⟨[.bool b],[],.b b,rfl,λe _=>.cons (.bool b) (.nil e),λe _ j o hj=>by simp at hj,λo ho=>(by cases ho),λH _=>.bool b⟩
 |@int t k hu=>
  intro fuel cs x h sw N;obtain⟨z,rfl,_,hw⟩:=DataW.trod_int hu h;refine⟨[.int k z],[],.i z,rfl,λe _=>.cons (.int k z) (.nil e),λe _ j o hj=>by simp at hj,λo ho=>(by cases ho),λH _=>.int k z ?_⟩;simpa[Lit.wf] using hw
 |str hu=>
  intro fuel cs x h sw N;obtain⟨s,rfl,Nc,hs⟩:=DataW.trod_string hu h;refine⟨[.str (bytes s)],[],.s (bytes s),rfl,λe _=>.cons (.str s) (.nil e),λe _ j o hj=>by simp at hj,λo ho=>(by cases ho),λH _=>.str _ (λc hc=>?_) ?_⟩;·obtain⟨u,_,rfl⟩:=abT.1 hc;exact u.toNat_lt
  ·unfold bytes;rw[abv];exact sw _ (by rw[Nc];simp[DataW.weights])
 |@slice t e sz ty hu hs h0 he ih=>
  intro fuel cs x h sw N;rcases open_slice hu h with⟨rfl,_⟩|⟨a,len,cap,m,n,D',Pl,rfl,hb,hl,hm,IB,Nc,hx⟩;·exact⟨[.ah],[],.row [],rfl,λe _=>.cons .ah (.nil e),λe _ j o hj=>by simp at hj,λo ho=>(by cases ho),λH _=>.slice .nil zzy λi d hd=>by simp at hd⟩
  rw[mL,zz2 rfl] at IB;subst IB;rw[hs] at hx;by_cases Jp:m=0;·subst Jp;obtain rfl:len=0:=zzz;exact⟨[.slice 0 0 0 0 true sz],[],.row [],rfl,λe _=>.cons (.EF 0 0 true sz a) (.nil e),λe _ j o hj=>by simp at hj,λo ho=>(by cases ho),λH _=>.slice .emp zzy λi d hd=>by simp at hd⟩
  obtain⟨V,hV⟩:=choose_lt (α:=List Value) (p:=λi J1=>W.cells? base (a.add (i*sz)) sz=some J1/\DataW.trod enc P W base spare held n e J1=some (D' i,Pl i)) (λi hi=>hx i hi);have BH:∀i,i<m->(V i).length=sz/\∀r,r<sz->W.cell? ((a.add (i*sz)).add r)=(V i)[r]?:=λi hi=>(World.cells?_some (hV i hi).1).2;obtain⟨b,off,sp⟩:=a;have aAK:sp=none:=by
   have h1:=(BH 0 zzz).2 0 h0;have h2:=(BH 0 zzz).1;rw[ag0,aaC zzz] at h1;have e0:((⟨b,off,sp⟩:Addr).add 0).add 0=⟨b,off,sp⟩:=by simp[Addr.add]
   rw[e0] at h1;cases sp with
   |none=>rfl|some y=>
    exfalso;unfold World.cell? at h1;split at h1;·simp at h1
    ·cases h1
  subst aAK;have ZF:∀i r,i<m->r<sz->W.cell? ⟨b,off+i*sz+r,none⟩=(V i)[r]?:=λi r hi hr=>by rw[<- (BH i hi).2 r hr,aGs]
  have Oh:∃C el fz,W.heap[b]?=some (.cells C el fz)/\∀k v,W.cell? ⟨b,k,none⟩=some v->C[k]?=some v:=by
   have h1:=ZF 0 0 zzz h0;have h2:=(BH 0 zzz).1;rw[aaC zzz] at h1;unfold World.cell? at h1;split at h1;·rename_i C el fz hw;refine⟨C,el,fz,hw,λk v hk=>?_⟩;unfold World.cell? at hk;simp only[hw] at hk;simpa using hk
   ·cases h1
  obtain⟨C,el,fz,hw,hC⟩:=Oh;have hCm:off+m*sz<=C.size:=by
   have h1:=ZF (m-1) (sz-1) zzz zzz;have h2:=(BH (m-1) zzz).1;rw[aaC zzz] at h1;have:=(acA.1 (hC _ _ h1)).1;have e1:(m-1)*sz+sz=m*sz:=by rw[<-Nat.succ_mul];congr 1;omega
   omega
  have hVl:∀i,(if i<m then V i else List.replicate sz Value.nilFunc).length=sz:=λi=>by
   split;·exact (BH i (by assumption)).1
   ·simp
  obtain⟨L,os,ds,o1,o2,o3,o4,o5,o6⟩:=aeq (W:=W) (ty:=ty) (λi=>if i<m then V i else List.replicate sz Value.nilFunc) hVl len 0 (λi _ hi N=>by have him:i<m:=zzz;simp only[him,if_true];exact ih n (V i) _ (hV i him).2 (λk hk=>sw k (by rw[Nc];simp only[DataW.weights,hu];exact .tail _ (aa1 _ (afd (List.mem_map_of_mem (anM.2 zzz)) hk)))) N) (N+1);have R2:∀e,Fits e N (⟨.cells (Tr.cl .nil off L) off (off+L.length) el 2,b,C.size⟩::os)->N<e.N/\e.b N=b/\e.d N=0/\e.n N=C.size/\Fits e (N+1) os:=by intro e he;have h1:=he.2 0 _ rfl;have h2:=(Fits.app (a:=[⟨.cells (Tr.cl .nil off L) off (off+L.length) el 2,b,C.size⟩]) (b:=os) he).2;have h3:=he.1;simp only[aaP] at h3;exact⟨zzz,h1.1,h1.2.1,h1.2.2,h2⟩
  refine⟨[.slice N off len m true sz],⟨.cells (Tr.cl .nil off L) off (off+L.length) el 2,b,C.size⟩::os,.row ds,rfl,λe he=>?_,λe he j o hj=>?_,λo ho=>?_,λH hH=>?_⟩;·obtain⟨f1,f2,f3,f4,f5⟩:=R2 e he;refine .cons ?_ (.nil e);have:=VR.slice (e:=e) N off len m true sz off m f1 (by rw[f3];simp) hl (aaO _) (λ_=>rfl) (by rw[f4];exact hCm);rw[f2] at this;exact this
  ·obtain⟨f1,f2,f3,f4,f5⟩:=R2 e he;cases j with
   |zero=>
    cases hj;refine⟨_,hw,?_⟩;refine .cells _ off (off+L.length) el 2 C fz f4.symm (λk v xA iu hk=>?_) zzy zzy (λ_=>f3);rw[Tr.zj,zz2 ⟨xA,iu⟩] at hk;obtain⟨v',bQ,jt⟩:=(o3 e f5).get hk;refine⟨k,by rw[aed,f3];simp,v',?_,jt⟩;have hq:k-off<len*sz:=zzz;have hi:(k-off) / sz<len:=Nat.div_lt_of_lt_mul (by rw[anP];exact hq);have hr:(k-off)%sz<sz:=amP _ h0;have hd:(k-off) / sz*sz+(k-off)%sz=k-off:=by rw[anP];exact Nat.div_add_mod _ _
    have h1:=adk _ hVl len 0 _ _ hi hr;rw[hd,ade,zz2 zzz] at h1;have ajS:(List.flatMap (λi=>if i<m then V i else List.replicate sz Value.nilFunc) (List.range' 0 len))[k-off]?=some v':=bQ;rw[h1,<-ZF _ _ zzz hr] at ajS;have:=hC _ _ ajS;rw[show off+(k-off) / sz*sz+(k-off)%sz=k by omega] at this;exact this
   |succ j=>
    obtain⟨ob,h1,h2⟩:=o4 e f5 j o (by simpa using hj);exact⟨ob,h1,by rw[show N+(j+1)=N+1+j by omega];exact h2⟩
  ·rcases aaD.1 ho with rfl|ho;·rfl
   ·exact o5 o ho
  ·have h1:=hH.2 0 _ rfl;have h2:=(Has.app (a:=[⟨.cells (Tr.cl .nil off L) off (off+L.length) el 2,b,C.size⟩]) (b:=os) hH).2;have h3:=hH.1;simp only[aaP] at h3;refine .slice (l:=L) (.mk ⟨zzz,_,_,_,_,_,h1,aaO _,aaO _,λk v hk=>?_⟩ o1 hl ?_) (by rw[o1,o2]) (o6 H h2);·have:=(aag.1 hk).1;rw[Tr.zj,zz2 ⟨zzz,zzz⟩,<-hk];congr 1;omega
   ·rw[rm Jp];rfl
 |@struct t n fs Gi hu hn hl hc hf ht ih=>
  intro fuel cs x h sw N;obtain⟨xs,n',_,Nc,tP,dA,mP⟩:=DataW.trod_struct hu h;obtain⟨L,os,ds,o1,o2,o3,o4,o5,o6⟩:=apz (W:=W) cs n (by rw[tP,hn]) Gi 0 hc (λq hq N=>by
   obtain⟨j,hj⟩:=aca hq;have tX:j<fs.toList.length:=by rw[<-hl];exact (aag.1 hj).1
   have Q8:fs.toList[j]?=some fs.toList[j]:=aaC tX;obtain⟨e1,e2⟩:=hf j _ q Q8 hj;have afB:=mP j fs.toList[j] (by rw[<-ad6];exact Q8);have hjx:j<xs.length:=by rw[dA];simpa using tX
   have yg:xs[j]?=some xs[j]:=aaC hjx;rw[yg] at afB;rw[e1,e2];exact ih j _ q Q8 hj n' _ _ afB (λk hk=>sw k (by rw[Nc];simp only[DataW.weights,hu];exact Cy (j:=j) (by rw[ab9,Q8];rfl) (by rw[ab9,yg];rfl) hk)) N) N
  refine⟨L,os,.st ds,by rw[o1,tP,hn,agA],λe he=>?_,o4,o5,λH hH=>.struct (by rw[o1,agA]) o2 λj q d h1 h2=>?_⟩;·have:=o3 e he;rw[aaY] at this;exact this
  ·have:=o6 H hH j q d h1 h2;rw[agA] at this;exact this
def TG:Ty->List AV->AV
 |.struct _ _,l=>.agg l|_,l=>l.headD .dG
def acr:Ty->Bool
 |.struct _ _=>true|_=>false
structure Cl (enc:TypeId×Value->Q)(P:Program)(W:World)(base:Nat)(spare:Nat->Bool)(held:Bool)(ty:Ty)(t:TypeId)(v:Value):Prop where
 of:Db P ty t
 rd:∃fuel x,DataW.trod enc P W base spare held fuel t v.cells.toList=some x/\∀k∈x.1.weights P t,k<=reachBytes
 st:acr ty=true->∃cs,v=.agg cs
 one:acr ty=false->v.cells=#[v]
def Qb (H:Hp)(ty:Ty)(a:AV)(d:D):Prop:=∃l,a=TG ty l/\Is H ty l d
inductive Pf (enc:TypeId×Value->Q) (P:Program) (W:World) (base:Nat) (spare:Nat->Bool) (held:Bool):List Ty->List Value->Prop
 |nil:Pf enc P W base spare held [] []
 |cons {ty:Ty} {t:TypeId} {v:Value} {uT:List Ty} {vs:List Value} (h:Cl enc P W base spare held ty t v) (k:Pf enc P W base spare held uT vs):Pf enc P W base spare held (ty::uT) (v::vs)
inductive Hy (H:Hp):List Ty->List AV->List D->Prop
 |nil:Hy H [] [] []
 |cons {ty:Ty} {a:AV} {d:D} {uT:List Ty} {as':List AV} {ds:List D} (h:Qb H ty a d) (k:Hy H uT as' ds):Hy H (ty::uT) (a::as') (d::ds)
theorem auZ (mL:∀b,spare b=true){ty:Ty}{t:TypeId}{v:Value}(h:Cl enc P W base spare held ty t v)(N:Nat):∃(a:AV) (os:List OB) (d:D),(∀e,Fits e N os->VR e a v)/\
  (∀e,Fits e N os->∀j o,os[j]?=some o->∃ob,W.heap[o.b]?=some ob/\OR e (N+j) o.ao ob)/\(∀o∈os,wr o.ao=false)/\∀H,Has H N os->Qb H ty a d:=by
 obtain⟨fuel,x,hx,hxw⟩:=h.rd;obtain⟨l,os,d,o⟩:=auY mL h.of fuel _ x hx hxw N;refine⟨TG ty l,os,d,λe he=>?_,o.or,o.wr,λH hH=>⟨l,rfl,o.is H hH⟩⟩;have hv:=o.vr e he;cases aC:acr ty with
 |true=>
  obtain⟨cs,rfl⟩:=h.st aC;have:TG ty l=.agg l:=by cases ty<;>first|rfl|cases aC
  rw[this];have:=VR.adH hv;simpa[Value.cells] using this
 |false=>
  have h1:=h.one aC;rw[h1] at hv;have hl:l.length=1:=by rw[o.len,h1];rfl
  match l,hl with
  |[a],_=>
   have:TG ty [a]=a:=by cases ty<;>first|rfl|cases aC
   rw[this];exact hv.2 0 a v rfl rfl
theorem apP (mL:∀b,spare b=true){uT:List Ty}{vs:List Value}(h:Pf enc P W base spare held uT vs):∀N,∃(as':List AV) (os:List OB) (ds:List D),(∀e,Fits e N os->aW e as' vs)/\
  (∀e,Fits e N os->∀j o,os[j]?=some o->∃ob,W.heap[o.b]?=some ob/\OR e (N+j) o.ao ob)/\(∀o∈os,wr o.ao=false)/\∀H,Has H N os->Hy H uT as' ds:=by
 induction h with
 |nil=>exactλN=>⟨[],[],[],λe _=>.nil e,λe _ j o hj=>by simp at hj,λo ho=>(by cases ho),λH _=>.nil⟩
 |cons h k ih=>
  intro N;obtain⟨a,os,d,a1,a2,a3,a4⟩:=auZ mL h N;obtain⟨as',M8,ds,b1,b2,b3,b4⟩:=ih (N+os.length);refine⟨a::as',os++M8,d::ds,λe he=>.cons (a1 e he.app.1) (b1 e he.app.2),λe he j o hj=>?_,λo ho=>(aa2.1 ho).elim (a3 o) (b3 o),λH hH=>.cons (a4 H hH.app.1) (b4 H hH.app.2)⟩;obtain⟨f1,f2⟩:=he.app;by_cases tX:j<os.length;·rw[abd tX] at hj;exact a2 e f1 j o hj
  ·rw[abk zzz] at hj;obtain⟨ob,p,q⟩:=b2 e f2 _ o hj;exact⟨ob,p,by rw[show N+j=N+os.length+(j-os.length) by omega];exact q⟩
def Bp (N:Nat):List OB->List (Nat×AO)
 |[]=>[]|o::os=>(N,o.ao)::Bp (N+1) os
theorem adm:∀(os:List OB) (N i:Nat) (o:AO),(i,o)∈Bp N os->∃j ob,os[j]?=some ob/\i=N+j/\o=ob.ao
 |[],N,i,o,h=>by cases h
 |ob::os,N,i,o,h=>by
  rcases aaD.1 h with h|h;·cases h;exact⟨0,ob,rfl,rfl,rfl⟩
  ·obtain⟨j,tA,h1,h2,h3⟩:=adm os (N+1) i o h;exact⟨j+1,tA,by simpa using h1,zzz,h3⟩
theorem akP:∀(os:List OB) (N:Nat) (t:Tr AO) (j:Nat) (o:OB),os[j]?=some o->(uV (Bp N os) t).get (N+j)=some o.ao
 |[],N,t,j,o,h=>by simp at h
 |ob::os,N,t,0,o,h=>by cases h;show (Tr.put 34 (uV (Bp (N+1) os) t) N ob.ao).get N=_;rw[Tr.put,Tr.gL,zz2 rfl]
 |ob::os,N,t,j+1,o,h=>by show (Tr.put 34 (uV (Bp (N+1) os) t) N ob.ao).get (N+(j+1))=_;rw[Tr.put,Tr.gL,zz1 zzz,show N+(j+1)=N+1+j by omega];exact akP os (N+1) t j o (by simpa using h)
theorem ad0:∀(os:List OB) (N:Nat) (t:Tr AO) (i:Nat),i<N->(uV (Bp N os) t).get i=t.get i
 |[],N,t,i,h=>rfl|ob::os,N,t,i,h=>by show (Tr.put 34 (uV (Bp (N+1) os) t) N ob.ao).get i=_;rw[Tr.put,Tr.gL,zz1 zzz];exact ad0 os (N+1) t i zzz
theorem alF (el:Nat->TypeId):∀(L:List (Nat×List AV)),(L.map (·.1)).Nodup->∀g l,(g,l)∈L->(um el L).get g=some (.cells (Tr.cl .nil 0 l) 0 l.length (el g) 2)
 |[],_,g,l,h=>by cases h
 |(g',l')::L,hn,g,l,h=>by
  rw[aby,akD] at hn;rw[um,Tr.put,Tr.gL];rcases aaD.1 h with h|h;·cases h;rw[zz2 rfl]
  ·rw[zz1 (λq=>hn.1 (by rw[<-q];exact abT.2 ⟨_,h,rfl⟩))];exact alF el L hn.2 g l h
end
section
variable {H:Hp}{d:D}{α β:Type}
theorem Ji {p:α->β->Prop}:∀(j:Nat) (f:α) (q:β),([]:List α)[j]?=some f->([]:List β)[j]?=some q->p f q:=λj f q h=>by simp at h
theorem eU {p:α->β->Prop}{a:α}{b:β}{l:List α}{m:List β}(h:p a b)(k:∀(j:Nat) (f:α) (q:β),l[j]?=some f->m[j]?=some q->p f q):
  ∀(j:Nat) (f:α) (q:β),(a::l)[j]?=some f->(b::m)[j]?=some q->p f q:=λj f q h1 h2=>by
 cases j with
 |zero=>cases h1;cases h2;exact h|succ j=>exact k j f q (by simpa using h1) (by simpa using h2)
theorem S9 {k:IntKind}{a:AV}(h:Qb H (.int k) a d):∃z,a=.int k z/\k.min<=z/\z<=k.max:=by
 obtain⟨l,rfl,h⟩:=h;cases h with
 |int k z h=>exact⟨z,rfl,h⟩
theorem acZ {e:Ty}{sz:Nat}{a:AV}(h:Qb H (.slice sz e) a d):Is H (.slice sz e) [a] d:=by
 obtain⟨l,rfl,h⟩:=h;cases h with
 |slice hr hl hd=>exact .slice hr hl hd
end
end K
end Go.Proofs.YtodfajmihkagnaaGreatDoor.Am
