/- Laws that the proof uses. -/
import Derived.Test.YtodfajmihkagnaaGreatDoorAm13
import Derived.Deep.Slices
set_option linter.unusedVariables false
set_option linter.unusedSimpArgs false
namespace Go.Proofs.YtodfajmihkagnaaGreatDoor.Am
open Go.Deep
namespace K
inductive Ty where
 |bool
 |int (k:IntKind)
 |str
 |slice (sz:Nat) (e:Ty)
 |struct (n:Nat) (fs:List (Nat×Nat×Ty))
inductive D where
 |b (x:Bool)
 |i (x:Int)
 |s (x:List Nat)
 |row (l:List D)
 |st (l:List D)
 deriving Inhabited
def wD:List (Nat×Nat×Ty)->Nat->Nat->Prop
 |[],a,n=>a=n|q::r,a,n=>q.1=a/\wD r (a+q.2.1) n
theorem wD.le:∀(fs:List (Nat×Nat×Ty)) (a n:Nat),wD fs a n->a<=n
 |[],a,n,h=>Nat.le_of_eq h|q::r,a,n,h=>ahc (Nat.le_add_right _ _) (wD.le r _ n h.2)
theorem wD.lo:∀(fs:List (Nat×Nat×Ty)) (a n:Nat),wD fs a n->∀q∈fs,a<=q.1/\q.1+q.2.1<=n
 |q::r,a,n,h,x,hx=>by
  rcases aar.1 hx with rfl|hx;·have:=wD.le r _ n h.2;have:=h.1;omega
  ·have:=wD.lo r _ n h.2 x hx;omega
inductive Cq (P:Program):Ty->TypeId->Prop
 |bool {t:TypeId} (h:P.underlying t=some .bool):Cq P .bool t
 |int {t:TypeId} {k:IntKind} (h:P.underlying t=some (.int k)):Cq P (.int k) t
 |str {t:TypeId} (h:P.underlying t=some .string):Cq P .str t
 |slice {t e:TypeId} {sz:Nat} {ty:Ty} (h:P.underlying t=some (.slice e)) (hs:P.cellsOf e=sz) (h0:0<sz) (he:Cq P ty e):Cq P (.slice sz ty) t
 |struct {t:TypeId} {n:Nat} {fs:Array Field} {Fh:List (Nat×Nat×Ty)} (h:P.underlying t=some (.struct fs)) (hn:P.cellsOf t=n) (hl:Fh.length=fs.toList.length) (hc:wD Fh 0 n)
   (hf:∀(j:Nat) (f:Field) (q:Nat×Nat×Ty),fs.toList[j]?=some f->Fh[j]?=some q->q.1=f.offset/\q.2.1=P.cellsOf f.type) (ht:∀(j:Nat) (f:Field) (q:Nat×Nat×Ty),fs.toList[j]?=some f->Fh[j]?=some q->Cq P q.2.2 f.type):Cq P (.struct n Fh) t
inductive Is (H:Hp):Ty->List AV->D->Prop
 |bool (b:Bool):Is H .bool [.bool b] (.b b)
 |int (k:IntKind) (z:Int) (h:k.min<=z/\z<=k.max):Is H (.int k) [.int k z] (.i z)
 |str (s:List Nat) (h:∀c∈s,c<256) (hl:s.length<=reachBytes):Is H .str [.str s] (.s s)
 |slice {sz:Nat} {e:Ty} {x:AV} {l:List AV} {ds:List D} (hr:Rw H sz x l) (hl:l.length=ds.length*sz) (hd:∀(i:Nat) (d:D),ds[i]?=some d->Is H e ((l.drop (i*sz)).take sz) d):Is H (.slice sz e) [x] (.row ds)
 |struct {n:Nat} {fs:List (Nat×Nat×Ty)} {l:List AV} {ds:List D} (hl:l.length=n) (hn:ds.length=fs.length)
   (hd:∀(j:Nat) (q:Nat×Nat×Ty) (d:D),fs[j]?=some q->ds[j]?=some d->Is H q.2.2 ((l.drop q.1).take q.2.1) d):Is H (.struct n fs) l (.st ds)
structure OB where
 ao:AO
 b:Nat
 n:Nat
def Fits (e:Em)(N:Nat)(os:List OB):Prop:=N+os.length<=e.N/\∀j o,os[j]?=some o->e.b (N+j)=o.b/\e.d (N+j)=0/\e.n (N+j)=o.n
def Has (H:Hp)(N:Nat)(os:List OB):Prop:=N+os.length<=H.next/\∀j o,os[j]?=some o->H.h.get (N+j)=some o.ao
theorem Fits.app {e:Em}{N:Nat}{a b:List OB}(h:Fits e N (a++b)):Fits e N a/\Fits e (N+a.length) b:=by
 obtain⟨h1,h2⟩:=h;rw[aam] at h1;refine⟨⟨zzz,λj o hj=>h2 j o ?_⟩,zzz,λj o hj=>?_⟩;·rw[abE (aak.1 hj).1];exact hj
 ·rw[ame];exact h2 _ o (by rw[ab4 zzz,afX];exact hj)
theorem Has.app {H:Hp}{N:Nat}{a b:List OB}(h:Has H N (a++b)):Has H N a/\Has H (N+a.length) b:=by
 obtain⟨h1,h2⟩:=h;rw[aam] at h1;refine⟨⟨zzz,λj o hj=>h2 j o ?_⟩,zzz,λj o hj=>?_⟩;·rw[abE (aak.1 hj).1];exact hj
 ·rw[ame];exact h2 _ o (by rw[ab4 zzz,afX];exact hj)
structure T7 (W:World)(ty:Ty)(cs:List Value)(N:Nat)(l:List AV)(os:List OB)(d:D):Prop where
 len:l.length=cs.length
 vr:∀e,Fits e N os->aV e l cs
 or:∀e,Fits e N os->∀j o,os[j]?=some o->∃ob,W.heap[o.b]?=some ob/\OR e (N+j) o.ao ob
 wr:∀o∈os,wr o.ao=false
 is:∀H,Has H N os->Is H ty l d
section
variable {Q:Type}{enc:TypeId×Value->Q}{P:Program}{W:World}{base:Nat}{spare:Nat->Bool}{held:Bool}
theorem abR {ty:Ty}{sz:Nat}(C:Nat->List Value)(hC:∀i,(C i).length=sz):∀(n k:Nat),(∀i,k<=i->i<k+n->∀N,∃l os d,T7 W ty (C i) N l os d)->∀N,∃(L:List AV) (os:List OB) (ds:List D),L.length=n*sz/\ds.length=n/\
  (∀e,Fits e N os->aV e L ((List.range' k n).flatMap C))/\(∀e,Fits e N os->∀j o,os[j]?=some o->∃ob,W.heap[o.b]?=some ob/\OR e (N+j) o.ao ob)/\(∀o∈os,wr o.ao=false)/\
  ∀H,Has H N os->∀i d,ds[i]?=some d->Is H ty ((L.drop (i*sz)).take sz) d
 |0,k,h,N=>⟨[],[],[],zzy,rfl,λe _=>.nil e,λe _ j o hj=>by simp at hj,λo ho=>(by cases ho),λH _ i d hd=>by simp at hd⟩|n+1,k,h,N=>by
  obtain⟨l,os,d,o1⟩:=h k (aaC _) zzz N;obtain⟨L,LH,ds,h1,h2,h3,h4,h5,h6⟩:=abR C hC n (k+1) (λi a b=>h i zzz zzz) (N+os.length);have hl:l.length=sz:=by rw[o1.len,hC]
  refine⟨l++L,os++LH,d::ds,by rw[aam,h1,hl,Nat.succ_mul];omega,by simp[h2],λe he=>?_,λe he j o hj=>?_,λo ho=>?_,λH hH i x hx=>?_⟩;·obtain⟨f1,f2⟩:=he.app;rw[List.range'_succ,List.flatMap_cons];exact (o1.vr e f1).append (h3 e f2)
  ·obtain⟨f1,f2⟩:=he.app;by_cases th:j<os.length;·rw[abE th] at hj;exact o1.or e f1 j o hj
   ·rw[ab4 zzz] at hj;obtain⟨ob,a,b⟩:=h4 e f2 _ o hj;exact⟨ob,a,by rw[show N+j=N+os.length+(j-os.length) by omega];exact b⟩
  ·exact (abm.1 ho).elim (o1.wr o) (h5 o)
  ·obtain⟨f1,f2⟩:=hH.app;cases i with
   |zero=>
    cases hx;rw[ai8,abl,List.take_append_of_le_length zzz,agI zzz];exact o1.is H f1
   |succ i=>
    have:=h6 H f2 i x (by simpa using hx);rw[Nat.succ_mul,Nat.add_comm,<-List.drop_drop,List.drop_left' hl];exact this
theorem amJ (cs:List Value)(n:Nat)(gG:cs.length=n):∀(fs:List (Nat×Nat×Ty)) (a:Nat),wD fs a n->(∀q∈fs,∀N,∃l os d,T7 W q.2.2 ((cs.drop q.1).take q.2.1) N l os d)->∀N,∃(L:List AV) (os:List OB) (ds:List D),L.length=n-a/\ds.length=fs.length/\
  (∀e,Fits e N os->aV e L (cs.drop a))/\(∀e,Fits e N os->∀j o,os[j]?=some o->∃ob,W.heap[o.b]?=some ob/\OR e (N+j) o.ao ob)/\(∀o∈os,wr o.ao=false)/\
  ∀H,Has H N os->∀(j:Nat) (q:Nat×Nat×Ty) (d:D),fs[j]?=some q->ds[j]?=some d->Is H q.2.2 ((L.drop (q.1-a)).take q.2.1) d
 |[],a,hc,h,N=>by have ha:a=n:=hc;refine⟨[],[],[],by simp;omega,rfl,λe _=>?_,λe _ j o hj=>by simp at hj,λo ho=>(by cases ho),λH _ j q d x=>by simp at x⟩;rw[ajE zzz];exact .nil e
 |q::fs,a,hc,h,N=>by
  obtain⟨l,os,d,o1⟩:=h q (.head _) N;obtain⟨L,LH,ds,h1,h2,h3,h4,h5,h6⟩:=amJ cs n gG fs (a+q.2.1) hc.2 (λq hq=>h q (.tail _ hq)) (N+os.length);have hqa:=hc.1;have hle:=wD.le fs _ n hc.2;have hl:l.length=q.2.1:=by rw[o1.len,aeX,af5];omega
  refine⟨l++L,os++LH,d::ds,by rw[aam,h1,hl];omega,by simp[h2],λe he=>?_,λe he j o hj=>?_,λo ho=>(abm.1 ho).elim (o1.wr o) (h5 o),λH hH j q' d' x y=>?_⟩;·obtain⟨f1,f2⟩:=he.app;have:=(o1.vr e f1).append (h3 e f2);rw[hqa,<-List.drop_drop,alo] at this;exact this
  ·obtain⟨f1,f2⟩:=he.app;by_cases th:j<os.length;·rw[abE th] at hj;exact o1.or e f1 j o hj
   ·rw[ab4 zzz] at hj;obtain⟨ob,a,b⟩:=h4 e f2 _ o hj;exact⟨ob,a,by rw[show N+j=N+os.length+(j-os.length) by omega];exact b⟩
  ·obtain⟨f1,f2⟩:=hH.app;cases j with
   |zero=>
    cases x;cases y;rw[hqa,aka,abl,List.take_append_of_le_length zzz,agI zzz];exact o1.is H f1
   |succ j=>
    have x':fs[j]?=some q':=by simpa using x
    have:=h6 H f2 j q' d' x' (by simpa using y);have iy:=(wD.lo fs _ n hc.2 q' (aad x')).1;rw[show q'.1-a=l.length+(q'.1-(a+q.2.1)) by omega,<-List.drop_drop,List.drop_left];exact this
theorem aaI {α:Type}(C:Nat->List α){sz:Nat}(hC:∀i,(C i).length=sz):∀(n k j r:Nat),j<n->r<sz->((List.range' k n).flatMap C)[j*sz+r]?=(C (k+j))[r]?
 |0,k,j,r,h,_=>zzz|n+1,k,j,r,h,hr=>by
  rw[List.range'_succ,List.flatMap_cons];cases j with
  |zero=>rw[ai8,ad0,abE (by rw[hC];exact hr),ae9]|succ j=>
   rw[Nat.succ_mul,ab4 (by rw[hC];omega),hC,show j*sz+sz+r-sz=j*sz+r by omega,aaI C hC n (k+1) j r zzz hr];congr 2;omega
theorem aC5 (b off m n:Nat):((⟨b,off,none⟩:Addr).add m).add n=⟨b,off+m+n,none⟩:=by unfold Addr.add;by_cases hm:m=0<;>by_cases hn:n=0<;>simp[hm,hn]
theorem acG {e:TypeId}{k:Nat}{d:DataW Q}:∀{l:List (DataW Q)},d∈l->k∈d.weights P e->k∈DataW.weightsAll P e l
 |x::l,h,hk=>by
  rw[DataW.weightsAll];rcases aar.1 h with rfl|h;·exact abi _ hk
  ·exact aaR _ (acG h hk)
theorem WM {k:Nat}{d:DataW Q}{t:TypeId}:∀{ts:List TypeId} {ds:List (DataW Q)} {j:Nat},ts[j]?=some t->ds[j]?=some d->k∈d.weights P t->k∈DataW.weightsEach P ts ds
 |[],ds,j,h,_,_=>by simp at h
 |t0::ts,[],j,_,h,_=>by simp at h
 |t0::ts,d0::ds,0,h1,h2,hk=>by rw[DataW.weightsEach];cases h1;cases h2;exact abi _ hk
 |t0::ts,d0::ds,j+1,h1,h2,hk=>by rw[DataW.weightsEach];exact aaR _ (WM (j:=j) (by simpa using h1) (by simpa using h2) hk)
theorem arN (mh:∀b,spare b=true){ty:Ty}{t:TypeId}(ht:Cq P ty t):∀(fuel:Nat) (cs:List Value) (x:DataW Q×List MemPlace),DataW.trod enc P W base spare held fuel t cs=some x->(∀k∈x.1.weights P t,k<=reachBytes)->∀N,∃l os d,T7 W ty cs N l os d:=by
 induction ht with
 |bool hu=>
  intro fuel cs x h BA N;obtain⟨b,rfl,_⟩:=DataW.trod_bool hu h;exact⟨[.bool b],[],.b b,rfl,λe _=>.cons (.bool b) (.nil e),λe _ j o hj=>by simp at hj,λo ho=>(by cases ho),λH _=>.bool b⟩
 |@int t k hu=>
  intro fuel cs x h BA N;obtain⟨z,rfl,_,hw⟩:=DataW.trod_int hu h;refine⟨[.int k z],[],.i z,rfl,λe _=>.cons (.int k z) (.nil e),λe _ j o hj=>by simp at hj,λo ho=>(by cases ho),λH _=>.int k z ?_⟩;simpa[Lit.wf] using hw
 |str hu=>
  intro fuel cs x h BA N;obtain⟨s,rfl,LM,hs⟩:=DataW.trod_string hu h;refine⟨[.str (bytes s)],[],.s (bytes s),rfl,λe _=>.cons (.str s) (.nil e),λe _ j o hj=>by simp at hj,λo ho=>(by cases ho),λH _=>.str _ (λc hc=>?_) ?_⟩;·obtain⟨u,_,rfl⟩:=acx.1 hc;exact u.toNat_lt
  ·unfold bytes;rw[ab7];exact BA _ (by rw[LM];simp[DataW.weights])
 |@slice t e sz ty hu hs h0 he ih=>
  intro fuel cs x h BA N;rcases open_slice hu h with⟨rfl,_⟩|⟨a,len,cap,m,n,D',Pl,rfl,hb,hl,hm,Hh,LM,hx⟩;·exact⟨[.ah],[],.row [],rfl,λe _=>.cons .ah (.nil e),λe _ j o hj=>by simp at hj,λo ho=>(by cases ho),λH _=>.slice .nil zzy λi d hd=>by simp at hd⟩
  rw[mh,zz2 rfl] at Hh;subst Hh;rw[hs] at hx;by_cases Ij:m=0;·subst Ij;obtain rfl:len=0:=zzz;exact⟨[.slice 0 0 0 0 true sz],[],.row [],rfl,λe _=>.cons (.DP 0 0 true sz a) (.nil e),λe _ j o hj=>by simp at hj,λo ho=>(by cases ho),λH _=>.slice .emp zzy λi d hd=>by simp at hd⟩
  obtain⟨V,hV⟩:=choose_lt (α:=List Value) (p:=λi IW=>W.cells? base (a.add (i*sz)) sz=some IW/\DataW.trod enc P W base spare held n e IW=some (D' i,Pl i)) (λi hi=>hx i hi);have AZ:∀i,i<m->(V i).length=sz/\∀r,r<sz->W.cell? ((a.add (i*sz)).add r)=(V i)[r]?:=λi hi=>(World.cells?_some (hV i hi).1).2;obtain⟨b,off,sp⟩:=a;have axn:sp=none:=by
   have h1:=(AZ 0 zzz).2 0 h0;have h2:=(AZ 0 zzz).1;rw[ai8,aap zzz] at h1;have e0:((⟨b,off,sp⟩:Addr).add 0).add 0=⟨b,off,sp⟩:=by simp[Addr.add]
   rw[e0] at h1;cases sp with
   |none=>rfl|some y=>
    exfalso;unfold World.cell? at h1;split at h1;·simp at h1
    ·cases h1
  subst axn;have Xp:∀i r,i<m->r<sz->W.cell? ⟨b,off+i*sz+r,none⟩=(V i)[r]?:=λi r hi hr=>by rw[<- (AZ i hi).2 r hr,aC5]
  have MR:∃C el fz,W.heap[b]?=some (.cells C el fz)/\∀k v,W.cell? ⟨b,k,none⟩=some v->C[k]?=some v:=by
   have h1:=Xp 0 0 zzz h0;have h2:=(AZ 0 zzz).1;rw[aap zzz] at h1;unfold World.cell? at h1;split at h1;·rename_i C el fz hw;refine⟨C,el,fz,hw,λk v hk=>?_⟩;unfold World.cell? at hk;simp only[hw] at hk;simpa using hk
   ·cases h1
  obtain⟨C,el,fz,hw,hC⟩:=MR;have hCm:off+m*sz<=C.size:=by
   have h1:=Xp (m-1) (sz-1) zzz zzz;have h2:=(AZ (m-1) zzz).1;rw[aap zzz] at h1;have:=(adh.1 (hC _ _ h1)).1;have e1:(m-1)*sz+sz=m*sz:=by rw[<-Nat.succ_mul];congr 1;omega
   omega
  have hVl:∀i,(if i<m then V i else List.replicate sz Value.nilFunc).length=sz:=λi=>by
   split;·exact (AZ i (by assumption)).1
   ·simp
  obtain⟨L,os,ds,o1,o2,o3,o4,o5,o6⟩:=abR (W:=W) (ty:=ty) (λi=>if i<m then V i else List.replicate sz Value.nilFunc) hVl len 0 (λi _ hi N=>by have him:i<m:=zzz;simp only[him,if_true];exact ih n (V i) _ (hV i him).2 (λk hk=>BA k (by rw[LM];simp only[DataW.weights,hu];exact .tail _ (abi _ (acG (List.mem_map_of_mem (aog.2 zzz)) hk)))) N) (N+1);have Qa:∀e,Fits e N (⟨.cells (Tr.bZ .nil off L) off (off+L.length) el 2,b,C.size⟩::os)->N<e.N/\e.b N=b/\e.d N=0/\e.n N=C.size/\Fits e (N+1) os:=by intro e he;have h1:=he.2 0 _ rfl;have h2:=(Fits.app (a:=[⟨.cells (Tr.bZ .nil off L) off (off+L.length) el 2,b,C.size⟩]) (b:=os) he).2;have h3:=he.1;simp only[aaG] at h3;exact⟨zzz,h1.1,h1.2.1,h1.2.2,h2⟩
  refine⟨[.slice N off len m true sz],⟨.cells (Tr.bZ .nil off L) off (off+L.length) el 2,b,C.size⟩::os,.row ds,rfl,λe he=>?_,λe he j o hj=>?_,λo ho=>?_,λH hH=>?_⟩;·obtain⟨f1,f2,f3,f4,f5⟩:=Qa e he;refine .cons ?_ (.nil e);have:=VR.slice (e:=e) N off len m true sz off m f1 (by rw[f3];simp) hl (aaC _) (λ_=>rfl) (by rw[f4];exact hCm);rw[f2] at this;exact this
  ·obtain⟨f1,f2,f3,f4,f5⟩:=Qa e he;cases j with
   |zero=>
    cases hj;refine⟨_,hw,?_⟩;refine .cells _ off (off+L.length) el 2 C fz f4.symm (λk v wT gZ hk=>?_) zzy zzy (λ_=>f3);rw[Tr.yE,zz2 ⟨wT,gZ⟩] at hk;obtain⟨v',bS,jh⟩:=(o3 e f5).get hk;refine⟨k,by rw[ae9,f3];simp,v',?_,jh⟩;have hq:k-off<len*sz:=zzz;have hi:(k-off) / sz<len:=Nat.div_lt_of_lt_mul (by rw[aok];exact hq);have hr:(k-off)%sz<sz:=anK _ h0;have hd:(k-off) / sz*sz+(k-off)%sz=k-off:=by rw[aok];exact Nat.div_add_mod _ _
    have h1:=aaI _ hVl len 0 _ _ hi hr;rw[hd,ad0,zz2 zzz] at h1;have ahe:(List.flatMap (λi=>if i<m then V i else List.replicate sz Value.nilFunc) (List.range' 0 len))[k-off]?=some v':=bS;rw[h1,<-Xp _ _ zzz hr] at ahe;have:=hC _ _ ahe;rw[show off+(k-off) / sz*sz+(k-off)%sz=k by omega] at this;exact this
   |succ j=>
    obtain⟨ob,h1,h2⟩:=o4 e f5 j o (by simpa using hj);exact⟨ob,h1,by rw[show N+(j+1)=N+1+j by omega];exact h2⟩
  ·rcases aar.1 ho with rfl|ho;·rfl
   ·exact o5 o ho
  ·have h1:=hH.2 0 _ rfl;have h2:=(Has.app (a:=[⟨.cells (Tr.bZ .nil off L) off (off+L.length) el 2,b,C.size⟩]) (b:=os) hH).2;have h3:=hH.1;simp only[aaG] at h3;refine .slice (l:=L) (.mk ⟨zzz,_,_,_,_,_,h1,aaC _,aaC _,λk v hk=>?_⟩ o1 hl ?_) (by rw[o1,o2]) (o6 H h2);·have:=(aak.1 hk).1;rw[Tr.yE,zz2 ⟨zzz,zzz⟩,<-hk];congr 1;omega
   ·rw[qz Ij];rfl
 |@struct t n fs Fh hu hn hl hc hf ht ih=>
  intro fuel cs x h BA N;obtain⟨xs,n',_,LM,sU,eu,mn⟩:=DataW.trod_struct hu h;obtain⟨L,os,ds,o1,o2,o3,o4,o5,o6⟩:=amJ (W:=W) cs n (by rw[sU,hn]) Fh 0 hc (λq hq N=>by
   obtain⟨j,hj⟩:=acJ hq;have th:j<fs.toList.length:=by rw[<-hl];exact (aak.1 hj).1
   have Pu:fs.toList[j]?=some fs.toList[j]:=aap th;obtain⟨e1,e2⟩:=hf j _ q Pu hj;have ac2:=mn j fs.toList[j] (by rw[<-aeW];exact Pu);have hjx:j<xs.length:=by rw[eu];simpa using th
   have xI:xs[j]?=some xs[j]:=aap hjx;rw[xI] at ac2;rw[e1,e2];exact ih j _ q Pu hj n' _ _ ac2 (λk hk=>BA k (by rw[LM];simp only[DataW.weights,hu];exact WM (j:=j) (by rw[acV,Pu];rfl) (by rw[acV,xI];rfl) hk)) N) N
  refine⟨L,os,.st ds,by rw[o1,sU,hn,aij],λe he=>?_,o4,o5,λH hH=>.struct (by rw[o1,aij]) o2 λj q d h1 h2=>?_⟩;·have:=o3 e he;rw[abl] at this;exact this
  ·have:=o6 H hH j q d h1 h2;rw[aij] at this;exact this
def Rm:Ty->List AV->AV
 |.struct _ _,l=>.agg l|_,l=>l.headD .du
def ZW:Ty->Bool
 |.struct _ _=>true|_=>false
structure VD (enc:TypeId×Value->Q)(P:Program)(W:World)(base:Nat)(spare:Nat->Bool)(held:Bool)(ty:Ty)(t:TypeId)(v:Value):Prop where
 of:Cq P ty t
 rd:∃fuel x,DataW.trod enc P W base spare held fuel t v.cells.toList=some x/\∀k∈x.1.weights P t,k<=reachBytes
 st:ZW ty=true->∃cs,v=.agg cs
 one:ZW ty=false->v.cells=#[v]
def Om (H:Hp)(ty:Ty)(a:AV)(d:D):Prop:=∃l,a=Rm ty l/\Is H ty l d
inductive Nw (enc:TypeId×Value->Q) (P:Program) (W:World) (base:Nat) (spare:Nat->Bool) (held:Bool):List Ty->List Value->Prop
 |nil:Nw enc P W base spare held [] []
 |cons {ty:Ty} {t:TypeId} {v:Value} {uq:List Ty} {vs:List Value} (h:VD enc P W base spare held ty t v) (k:Nw enc P W base spare held uq vs):Nw enc P W base spare held (ty::uq) (v::vs)
inductive Jd (H:Hp):List Ty->List AV->List D->Prop
 |nil:Jd H [] [] []
 |cons {ty:Ty} {a:AV} {d:D} {uq:List Ty} {as':List AV} {ds:List D} (h:Om H ty a d) (k:Jd H uq as' ds):Jd H (ty::uq) (a::as') (d::ds)
theorem arO (mh:∀b,spare b=true){ty:Ty}{t:TypeId}{v:Value}(h:VD enc P W base spare held ty t v)(N:Nat):∃(a:AV) (os:List OB) (d:D),(∀e,Fits e N os->VR e a v)/\
  (∀e,Fits e N os->∀j o,os[j]?=some o->∃ob,W.heap[o.b]?=some ob/\OR e (N+j) o.ao ob)/\(∀o∈os,wr o.ao=false)/\∀H,Has H N os->Om H ty a d:=by
 obtain⟨fuel,x,hx,hxw⟩:=h.rd;obtain⟨l,os,d,o⟩:=arN mh h.of fuel _ x hx hxw N;refine⟨Rm ty l,os,d,λe he=>?_,o.or,o.wr,λH hH=>⟨l,rfl,o.is H hH⟩⟩;have hv:=o.vr e he;cases aC:ZW ty with
 |true=>
  obtain⟨cs,rfl⟩:=h.st aC;have:Rm ty l=.agg l:=by cases ty<;>first|rfl|cases aC
  rw[this];have:=VR.aa5 hv;simpa[Value.cells] using this
 |false=>
  have h1:=h.one aC;rw[h1] at hv;have hl:l.length=1:=by rw[o.len,h1];rfl
  match l,hl with
  |[a],_=>
   have:Rm ty [a]=a:=by cases ty<;>first|rfl|cases aC
   rw[this];exact hv.2 0 a v rfl rfl
theorem amZ (mh:∀b,spare b=true){uq:List Ty}{vs:List Value}(h:Nw enc P W base spare held uq vs):∀N,∃(as':List AV) (os:List OB) (ds:List D),(∀e,Fits e N os->aV e as' vs)/\
  (∀e,Fits e N os->∀j o,os[j]?=some o->∃ob,W.heap[o.b]?=some ob/\OR e (N+j) o.ao ob)/\(∀o∈os,wr o.ao=false)/\∀H,Has H N os->Jd H uq as' ds:=by
 induction h with
 |nil=>exactλN=>⟨[],[],[],λe _=>.nil e,λe _ j o hj=>by simp at hj,λo ho=>(by cases ho),λH _=>.nil⟩
 |cons h k ih=>
  intro N;obtain⟨a,os,d,a1,a2,a3,a4⟩:=arO mh h N;obtain⟨as',LH,ds,b1,b2,b3,b4⟩:=ih (N+os.length);refine⟨a::as',os++LH,d::ds,λe he=>.cons (a1 e he.app.1) (b1 e he.app.2),λe he j o hj=>?_,λo ho=>(abm.1 ho).elim (a3 o) (b3 o),λH hH=>.cons (a4 H hH.app.1) (b4 H hH.app.2)⟩;obtain⟨f1,f2⟩:=he.app;by_cases th:j<os.length;·rw[abE th] at hj;exact a2 e f1 j o hj
  ·rw[ab4 zzz] at hj;obtain⟨ob,p,q⟩:=b2 e f2 _ o hj;exact⟨ob,p,by rw[show N+j=N+os.length+(j-os.length) by omega];exact q⟩
def AG (N:Nat):List OB->List (Nat×AO)
 |[]=>[]|o::os=>(N,o.ao)::AG (N+1) os
theorem aaK:∀(os:List OB) (N i:Nat) (o:AO),(i,o)∈AG N os->∃j ob,os[j]?=some ob/\i=N+j/\o=ob.ao
 |[],N,i,o,h=>by cases h
 |ob::os,N,i,o,h=>by
  rcases aar.1 h with h|h;·cases h;exact⟨0,ob,rfl,rfl,rfl⟩
  ·obtain⟨j,sD,h1,h2,h3⟩:=aaK os (N+1) i o h;exact⟨j+1,sD,by simpa using h1,zzz,h3⟩
theorem ah6:∀(os:List OB) (N:Nat) (t:Tr AO) (j:Nat) (o:OB),os[j]?=some o->(uu (AG N os) t).get (N+j)=some o.ao
 |[],N,t,j,o,h=>by simp at h
 |ob::os,N,t,0,o,h=>by cases h;show (Tr.put 34 (uu (AG (N+1) os) t) N ob.ao).get N=_;rw[Tr.put,Tr.gw,zz2 rfl]
 |ob::os,N,t,j+1,o,h=>by show (Tr.put 34 (uu (AG (N+1) os) t) N ob.ao).get (N+(j+1))=_;rw[Tr.put,Tr.gw,zz1 zzz,show N+(j+1)=N+1+j by omega];exact ah6 os (N+1) t j o (by simpa using h)
theorem abp:∀(os:List OB) (N:Nat) (t:Tr AO) (i:Nat),i<N->(uu (AG N os) t).get i=t.get i
 |[],N,t,i,h=>rfl|ob::os,N,t,i,h=>by show (Tr.put 34 (uu (AG (N+1) os) t) N ob.ao).get i=_;rw[Tr.put,Tr.gw,zz1 zzz];exact abp os (N+1) t i zzz
theorem aiV (el:Nat->TypeId):∀(L:List (Nat×List AV)),(L.map (·.1)).Nodup->∀g l,(g,l)∈L->(tI el L).get g=some (.cells (Tr.bZ .nil 0 l) 0 l.length (el g) 2)
 |[],_,g,l,h=>by cases h
 |(g',l')::L,hn,g,l,h=>by
  rw[ab9,alC] at hn;rw[tI,Tr.put,Tr.gw];rcases aar.1 h with h|h;·cases h;rw[zz2 rfl]
  ·rw[zz1 (λq=>hn.1 (by rw[<-q];exact acx.2 ⟨_,h,rfl⟩))];exact aiV el L hn.2 g l h
end
section
variable {H:Hp}{d:D}{e:Ty}{x:AV}
theorem alk {α:Type}(f:α->AV)(ok:α->Prop)(hf:∀l d,Is H e l d->∃z,l=[f z]/\ok z)(h:Is H (.slice 1 e) [x] d):∃b:List α,Rw H 1 x (b.map f)/\∀c∈b,ok c:=by
 cases h with
 |@slice _ _ _ l ds hr hl hd=>
  rw[aee] at hl;have key:∀i,i<l.length->∃z,l[i]?=some (f z)/\ok z:=by
   intro i hi;obtain⟨z,h1,h2⟩:=hf _ _ (hd i ds[i] (aap zzz));refine⟨z,?_,h2⟩;have:((l.drop (i*1)).take 1)[0]?=some (f z):=by rw[h1];rfl
   rw[ajA,zz2 zzz,ahf,aee,ae9] at this;exact this
  have:∃b:List α,l=b.map f/\∀c∈b,ok c:=by
   clear hr hl hd;induction l with
   |nil=>exact⟨[],rfl,λc hc=>by cases hc⟩|cons v l ih=>
    obtain⟨z,h1,h2⟩:=key 0 zzy;obtain⟨b,h3,h4⟩:=ih λi hi=>by obtain⟨z,a,c⟩:=key (i+1) (by simpa using hi);exact⟨z,by simpa using a,c⟩
    simp only[adW,adn] at h1;refine⟨z::b,by rw[ab9,h1,<-h3],λc hc=>?_⟩;rcases aar.1 hc with rfl|hc;·exact h2
    ·exact h4 c hc
  obtain⟨b,rfl,hb⟩:=this;exact⟨b,hr,hb⟩
theorem aEi (h:Is H (.slice 1 (.int .u8)) [x] d):∃b:List Nat,Rw H 1 x (bs b)/\∀c∈b,c<256:=by
 refine alk (λ(b:Nat)=>AV.int .u8 b) (λb=>b<256) (λl d h=>?_) h;cases h with
 |int k z h=>
  simp only[IntKind.min,IntKind.max,IntKind.signed,IntKind.bits] at h;refine⟨z.toNat,by simp at h⊢;omega,?_⟩;simp at h;omega
theorem aE0 {sz:Nat}{a:AV}(h:Om H (.slice sz e) a d):Is H (.slice sz e) [a] d:=by
 obtain⟨l,rfl,h⟩:=h;cases h with
 |slice hr hl hd=>exact .slice hr hl hd
theorem aBT {a:AV}(h:Om H (.slice 1 (.int .u8)) a d):∃b:List Nat,Rw H 1 a (bs b)/\∀c∈b,c<256:=aEi (aE0 h)
end
end K
end Go.Proofs.YtodfajmihkagnaaGreatDoor.Am
