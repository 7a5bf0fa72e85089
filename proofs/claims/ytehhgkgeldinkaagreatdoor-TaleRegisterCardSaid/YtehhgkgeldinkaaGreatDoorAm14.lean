/- Laws that the proof uses. -/
import Derived.Test.YtehhgkgeldinkaaGreatDoorAm13
import Derived.Deep.Slices
set_option linter.unusedVariables false
set_option linter.unusedSimpArgs false
namespace Go.Proofs.YtehhgkgeldinkaaGreatDoor.Am
open Go.Deep
namespace K
inductive Ty where
 | bool
 | int (k:IntKind)
 | str
 | slice (sz:Nat) (e:Ty)
 | struct (n:Nat) (fs:List (Nat × Nat × Ty))
inductive D where
 | b (x:Bool)
 | i (x:Int)
 | s (x:List Nat)
 | row (l:List D)
 | st (l:List D)
 deriving Inhabited
def th:List (Nat × Nat × Ty)->Nat->Nat->Prop
 | [],a,n=>a=n
 | q::r,a,n=>q.1=a/\th r (a+q.2.1) n
theorem th.le:∀ (fs:List (Nat × Nat × Ty)) (a n:Nat),th fs a n->a<=n
 | [],a,n,h=>Nat.le_of_eq h
 | q::r,a,n,h=>abS (Nat.le_add_right _ _) (th.le r _ n h.2)
theorem th.lo:∀ (fs:List (Nat × Nat × Ty)) (a n:Nat),th fs a n->∀ q∈fs,a<=q.1/\q.1+q.2.1<=n
 | q::r,a,n,h,x,hx=>by
  rcases yL.1 hx with rfl | hx
  ·have:=th.le r _ n h.2
   have:=h.1
   omega
  ·have:=th.lo r _ n h.2 x hx
   omega
inductive yA (P:Program):Ty->TypeId->Prop
 | bool {t:TypeId} (h:P.underlying t=some .bool):yA P .bool t
 | int {t:TypeId} {k:IntKind} (h:P.underlying t=some (.int k)):yA P (.int k) t
 | str {t:TypeId} (h:P.underlying t=some .string):yA P .str t
 | slice {t e:TypeId} {sz:Nat} {ty:Ty} (h:P.underlying t=some (.slice e)) (hs:P.cellsOf e=sz) (h0:0<sz) (he:yA P ty e):yA P (.slice sz ty) t
 | struct {t:TypeId} {n:Nat} {fs:Array Field} {Bv:List (Nat × Nat × Ty)} (h:P.underlying t=some (.struct fs)) (hn:P.cellsOf t=n) (hl:Bv.length=fs.toList.length) (hc:th Bv 0 n)
   (hf:∀ (j:Nat) (f:Field) (q:Nat × Nat × Ty),fs.toList[j]? = some f->Bv[j]? = some q->q.1=f.offset/\q.2.1=P.cellsOf f.type) (ht:∀ (j:Nat) (f:Field) (q:Nat × Nat × Ty),fs.toList[j]? = some f->Bv[j]? = some q->yA P q.2.2 f.type):yA P (.struct n Bv) t
inductive Is (H:Hp):Ty->List AV->D->Prop
 | bool (b:Bool):Is H .bool [.bool b] (.b b)
 | int (k:IntKind) (z:Int) (h:k.min<=z/\z<=k.max):Is H (.int k) [.int k z] (.i z)
 | str (s:List Nat) (h:∀ c∈s,c<256) (hl:s.length<=reachBytes):Is H .str [.str s] (.s s)
 | slice {sz:Nat} {e:Ty} {x:AV} {l:List AV} {ds:List D} (hr:Rw H sz x l) (hl:l.length=ds.length*sz) (hd:∀ (i:Nat) (d:D),ds[i]? = some d->Is H e ((l.drop (i*sz)).take sz) d):Is H (.slice sz e) [x] (.row ds)
 | struct {n:Nat} {fs:List (Nat × Nat × Ty)} {l:List AV} {ds:List D} (hl:l.length=n) (hn:ds.length=fs.length)
   (hd:∀ (j:Nat) (q:Nat × Nat × Ty) (d:D),fs[j]? = some q->ds[j]? = some d->Is H q.2.2 ((l.drop q.1).take q.2.1) d):Is H (.struct n fs) l (.st ds)
theorem Is.out {H H':Hp}{ty:Ty}{l:List AV}{d:D}{S:List Nat}(h:Is H ty l d)(k:Out S H H')(hS:∀ j∈S,H.next<=j):Is H' ty l d:=by
 induction h with
 | bool b=>exact .bool b
 | int k z h=>exact .int k z h
 | str s h hl=>exact .str s h hl
 | slice hr hl hd ih=>exact .slice (hr.out k fun j hj q=>by have:=hr.lt j hj;have:=hS j q;omega) hl ih
 | struct hl hn hd ih=>exact .struct hl hn ih
structure OB where
 ao:AO
 b:Nat
 n:Nat
def Fits (e:Em)(N:Nat)(os:List OB):Prop:=N+os.length<=e.N/\∀ j o,os[j]? = some o->e.b (N+j)=o.b/\e.d (N+j)=0/\e.n (N+j)=o.n
def Has (H:Hp)(N:Nat)(os:List OB):Prop:=N+os.length<=H.next/\∀ j o,os[j]? = some o->H.h.get (N+j)=some o.ao
theorem Fits.app {e:Em}{N:Nat}{a b:List OB}(h:Fits e N (a++b)):Fits e N a/\Fits e (N+a.length) b:=by
 obtain⟨h1,h2⟩:=h
 rw[abz] at h1
 refine⟨⟨by omega,fun j o hj=>h2 j o ?_⟩,by omega,fun j o hj => ?_⟩
 ·rw[abU (abf.1 hj).1];exact hj
 ·rw[afj]
  exact h2 _ o (by rw[acs (by omega),agd];exact hj)
theorem Has.app {H:Hp}{N:Nat}{a b:List OB}(h:Has H N (a++b)):Has H N a/\Has H (N+a.length) b:=by
 obtain⟨h1,h2⟩:=h
 rw[abz] at h1
 refine⟨⟨by omega,fun j o hj=>h2 j o ?_⟩,by omega,fun j o hj => ?_⟩
 ·rw[abU (abf.1 hj).1];exact hj
 ·rw[afj]
  exact h2 _ o (by rw[acs (by omega),agd];exact hj)
structure Of (W:World)(ty:Ty)(cs:List Value)(N:Nat)(l:List AV)(os:List OB)(d:D):Prop where
 len:l.length=cs.length
 vr:∀ e,Fits e N os->az e l cs
 or:∀ e,Fits e N os->∀ j o,os[j]? = some o->∃ ob,W.heap[o.b]? = some ob/\OR e (N+j) o.ao ob
 wr:∀ o∈os,wr o.ao=false
 is:∀ H,Has H N os->Is H ty l d
section
variable {Q:Type}{enc:TypeId × Value->Q}{P:Program}{W:World}{base:Nat}{spare:Nat->Bool}{held:Bool}
theorem Vr {ty:Ty}{sz:Nat}(C:Nat->List Value)(hC:∀ i,(C i).length=sz):∀ (n k:Nat),(∀ i,k<=i->i<k+n->∀ N,∃ l os d,Of W ty (C i) N l os d)->∀ N,∃ (L:List AV) (os:List OB) (ds:List D),L.length=n*sz/\ds.length=n/\
  (∀ e,Fits e N os->az e L ((List.range' k n).flatMap C))/\(∀ e,Fits e N os->∀ j o,os[j]? = some o->∃ ob,W.heap[o.b]? = some ob/\OR e (N+j) o.ao ob)/\(∀ o∈os,wr o.ao=false)/\
  ∀ H,Has H N os->∀ i d,ds[i]? = some d->Is H ty ((L.drop (i*sz)).take sz) d
 | 0,k,h,N=>⟨[],[],[],by simp,rfl,fun e _ => .nil e,fun e _ j o hj=>by simp at hj,fun o ho=>(by cases ho),fun H _ i d hd=>by simp at hd⟩
 | n+1,k,h,N=>by
  obtain⟨l,os,d,o1⟩:=h k (aar _) (by omega) N
  obtain⟨L,GX,ds,h1,h2,h3,h4,h5,h6⟩:=Vr C hC n (k+1) (fun i a b=>h i (by omega) (by omega)) (N+os.length)
  have hl:l.length=sz:=by rw[o1.len,hC]
  refine⟨l++L,os++GX,d::ds,by rw[abz,h1,hl,Nat.succ_mul];omega,by simp[h2],fun e he => ?_,fun e he j o hj => ?_,fun o ho => ?_,fun H hH i x hx => ?_⟩
  ·obtain⟨f1,f2⟩:=he.app
   rw[List.range'_succ,af2]
   exact (o1.vr e f1).append (h3 e f2)
  ·obtain⟨f1,f2⟩:=he.app
   by_cases qO:j<os.length
   ·rw[abU qO] at hj
    exact o1.or e f1 j o hj
   ·rw[acs (by omega)] at hj
    obtain⟨ob,a,b⟩:=h4 e f2 _ o hj
    exact⟨ob,a,by rw[show N+j=N+os.length+(j-os.length) by omega];exact b⟩
  ·exact (aal.1 ho).elim (o1.wr o) (h5 o)
  ·obtain⟨f1,f2⟩:=hH.app
   cases i with
   | zero=>
    cases hx
    rw[afB,afO,List.take_append_of_le_length (by omega),aea (by omega)]
    exact o1.is H f1
   | succ i=>
    have:=h6 H f2 i x (by simpa using hx)
    rw[Nat.succ_mul,Nat.add_comm,<-aib,List.drop_left' hl]
    exact this
theorem ack (cs:List Value)(n:Nat)(fC:cs.length=n):∀ (fs:List (Nat × Nat × Ty)) (a:Nat),th fs a n->(∀ q∈fs,∀ N,∃ l os d,Of W q.2.2 ((cs.drop q.1).take q.2.1) N l os d)->∀ N,∃ (L:List AV) (os:List OB) (ds:List D),L.length=n-a/\ds.length=fs.length/\
  (∀ e,Fits e N os->az e L (cs.drop a))/\(∀ e,Fits e N os->∀ j o,os[j]? = some o->∃ ob,W.heap[o.b]? = some ob/\OR e (N+j) o.ao ob)/\(∀ o∈os,wr o.ao=false)/\
  ∀ H,Has H N os->∀ (j:Nat) (q:Nat × Nat × Ty) (d:D),fs[j]? = some q->ds[j]? = some d->Is H q.2.2 ((L.drop (q.1-a)).take q.2.1) d
 | [],a,hc,h,N=>by
  have ha:a=n:=hc
  refine⟨[],[],[],by simp;omega,rfl,fun e _ => ?_,fun e _ j o hj=>by simp at hj,fun o ho=>(by cases ho),fun H _ j q d x=>by simp at x⟩
  rw[afn (by omega)];exact .nil e
 | q::fs,a,hc,h,N=>by
  obtain⟨l,os,d,o1⟩:=h q (.head _) N
  obtain⟨L,GX,ds,h1,h2,h3,h4,h5,h6⟩:=ack cs n fC fs (a+q.2.1) hc.2 (fun q hq=>h q (.tail _ hq)) (N+os.length)
  have WX:=hc.1
  have hle:=th.le fs _ n hc.2
  have hl:l.length=q.2.1:=by rw[o1.len,afi,aef];omega
  refine⟨l++L,os++GX,d::ds,by rw[abz,h1,hl];omega,by simp[h2],fun e he => ?_,fun e he j o hj => ?_,fun o ho=>(aal.1 ho).elim (o1.wr o) (h5 o),fun H hH j q' d' x y => ?_⟩
  ·obtain⟨f1,f2⟩:=he.app
   have:=(o1.vr e f1).append (h3 e f2)
   rw[WX,<-aib,List.take_append_drop] at this
   exact this
  ·obtain⟨f1,f2⟩:=he.app
   by_cases qO:j<os.length
   ·rw[abU qO] at hj
    exact o1.or e f1 j o hj
   ·rw[acs (by omega)] at hj
    obtain⟨ob,a,b⟩:=h4 e f2 _ o hj
    exact⟨ob,a,by rw[show N+j=N+os.length+(j-os.length) by omega];exact b⟩
  ·obtain⟨f1,f2⟩:=hH.app
   cases j with
   | zero=>
    cases x;cases y
    rw[WX,aja,afO,List.take_append_of_le_length (by omega),aea (by omega)]
    exact o1.is H f1
   | succ j=>
    have x':fs[j]? = some q':=by simpa using x
    have:=h6 H f2 j q' d' x' (by simpa using y)
    have fG:=(th.lo fs _ n hc.2 q' (acx x')).1
    rw[show q'.1-a=l.length+(q'.1-(a+q.2.1)) by omega,<-aib,List.drop_left]
    exact this
theorem Ur {α:Type}(C:Nat->List α){sz:Nat}(hC:∀ i,(C i).length=sz):∀ (n k j r:Nat),j<n->r<sz->((List.range' k n).flatMap C)[j*sz+r]? = (C (k+j))[r]?
 | 0,k,j,r,h,_=>by omega
 | n+1,k,j,r,h,hr=>by
  rw[List.range'_succ,af2]
  cases j with
  | zero=>rw[afB,yS,abU (by rw[hC];exact hr),ae6]
  | succ j=>
   rw[Nat.succ_mul,acs (by rw[hC];omega),hC,show j*sz+sz+r-sz=j*sz+r by omega,Ur C hC n (k+1) j r (by omega) hr]
   congr 2;omega
theorem ap3 (b off m n:Nat):((⟨b,off,none⟩:Addr).add m).add n=⟨b,off+m+n,none⟩:=by
 unfold Addr.add
 by_cases hm:m=0<;>by_cases hn:n=0<;>simp[hm,hn]
theorem VW {e:TypeId}{k:Nat}{d:DataW Q}:∀ {l:List (DataW Q)},d∈l->k∈d.weights P e->k∈DataW.weightsAll P e l
 | x::l,h,hk=>by
  rw[DataW.weightsAll]
  rcases yL.1 h with rfl | h
  ·exact aaI _ hk
  ·exact yX _ (VW h hk)
theorem QC {k:Nat}{d:DataW Q}{t:TypeId}:∀ {ts:List TypeId} {ds:List (DataW Q)} {j:Nat},ts[j]? = some t->ds[j]? = some d->k∈d.weights P t->k∈DataW.weightsEach P ts ds
 | [],ds,j,h,_,_=>by simp at h
 | t0::ts,[],j,_,h,_=>by simp at h
 | t0::ts,d0::ds,0,h1,h2,hk=>by
  rw[DataW.weightsEach]
  cases h1;cases h2
  exact aaI _ hk
 | t0::ts,d0::ds,j+1,h1,h2,hk=>by
  rw[DataW.weightsEach]
  exact yX _ (QC (j:=j) (by simpa using h1) (by simpa using h2) hk)
theorem agv (wa:∀ b,spare b=true){ty:Ty}{t:TypeId}(ht:yA P ty t):∀ (fuel:Nat) (cs:List Value) (x:DataW Q × List MemPlace),DataW.trod enc P W base spare held fuel t cs=some x->(∀ k∈x.1.weights P t,k<=reachBytes)->∀ N,∃ l os d,Of W ty cs N l os d:=by
 induction ht with
 | bool hu=>
  intro fuel cs x h xG N
  obtain⟨b,rfl,_⟩:=DataW.trod_bool hu h
  exact⟨[.bool b],[],.b b,rfl,fun e _ => .cons (.bool b) (.nil e),fun e _ j o hj=>by simp at hj,fun o ho=>(by cases ho),fun H _ => .bool b⟩
 | @int t k hu=>
  intro fuel cs x h xG N
  obtain⟨z,rfl,_,hw⟩:=DataW.trod_int hu h
  refine⟨[.int k z],[],.i z,rfl,fun e _ => .cons (.int k z) (.nil e),fun e _ j o hj=>by simp at hj,fun o ho=>(by cases ho),fun H _ => .int k z ?_⟩
  simpa[Lit.wf] using hw
 | str hu=>
  intro fuel cs x h xG N
  obtain⟨s,rfl,G0,hs⟩:=DataW.trod_string hu h
  refine⟨[.str (bytes s)],[],.s (bytes s),rfl,fun e _ => .cons (.str s) (.nil e),fun e _ j o hj=>by simp at hj,fun o ho=>(by cases ho),fun H _ => .str _ (fun c hc => ?_) ?_⟩
  ·obtain⟨u,_,rfl⟩:=adj.1 hc
   exact u.toNat_lt
  ·unfold bytes;rw[adg];exact xG _ (by rw[G0];simp[DataW.weights])
 | @slice t e sz ty hu hs h0 he ih=>
  intro fuel cs x h xG N
  rcases open_slice hu h with⟨rfl,_⟩ | ⟨a,len,cap,m,n,D',Pl,rfl,hb,hl,hm,A6,G0,hx⟩
  ·exact⟨[.ae],[],.row [],rfl,fun e _ => .cons .ae (.nil e),fun e _ j o hj=>by simp at hj,fun o ho=>(by cases ho),fun H _ => .slice .nil (by simp) fun i d hd=>by simp at hd⟩
  rw[wa,if_pos rfl] at A6
  subst A6
  rw[hs] at hx
  by_cases oW:m=0
  ·subst oW
   obtain rfl:len=0:=by omega
   exact⟨[.slice 0 0 0 0 true sz],[],.row [],rfl,fun e _ => .cons (.yt 0 0 true sz a) (.nil e),fun e _ j o hj=>by simp at hj,fun o ho=>(by cases ho),fun H _ => .slice .emp (by simp) fun i d hd=>by simp at hd⟩
  obtain⟨V,hV⟩:=choose_lt (α:=List Value) (p:=fun i Er=>W.cells? base (a.add (i*sz)) sz=some Er/\DataW.trod enc P W base spare held n e Er=some (D' i,Pl i)) (fun i hi=>hx i hi)
  have oG:∀ i,i<m->(V i).length=sz/\∀ r,r<sz->W.cell? ((a.add (i*sz)).add r)=(V i)[r]? := fun i hi=>(World.cells?_some (hV i hi).1).2
  obtain⟨b,off,sp⟩:=a
  have alg:sp=none:=by
   have h1:=(oG 0 (by omega)).2 0 h0
   have h2:=(oG 0 (by omega)).1
   rw[afB,aax (by omega)] at h1
   have e0:((⟨b,off,sp⟩:Addr).add 0).add 0=⟨b,off,sp⟩:=by simp[Addr.add]
   rw[e0] at h1
   cases sp with
   | none=>rfl
   | some y=>
    exfalso
    unfold World.cell? at h1
    split at h1
    ·simp at h1
    ·cases h1
  subst alg
  have KQ:∀ i r,i<m->r<sz->W.cell? ⟨b,off+i*sz+r,none⟩=(V i)[r]? := fun i r hi hr=>by
   rw[<- (oG i hi).2 r hr,ap3]
  have HP:∃ C el fz,W.heap[b]? = some (.cells C el fz)/\∀ k v,W.cell? ⟨b,k,none⟩=some v->C[k]? = some v:=by
   have h1:=KQ 0 0 (by omega) h0
   have h2:=(oG 0 (by omega)).1
   rw[aax (by omega)] at h1
   unfold World.cell? at h1
   split at h1
   ·rename_i C el fz hw
    refine⟨C,el,fz,hw,fun k v hk => ?_⟩
    unfold World.cell? at hk
    simp only[hw] at hk
    simpa using hk
   ·cases h1
  obtain⟨C,el,fz,hw,hC⟩:=HP
  have hCm:off+m*sz<=C.size:=by
   have h1:=KQ (m-1) (sz-1) (by omega) (by omega)
   have h2:=(oG (m-1) (by omega)).1
   rw[aax (by omega)] at h1
   have:=(abM.1 (hC _ _ h1)).1
   have e1:(m-1)*sz+sz=m*sz:=by rw[<-Nat.succ_mul];congr 1;omega
   omega
  have WO:∀ i,(if i<m then V i else List.replicate sz Value.nilFunc).length=sz:=fun i=>by
   split
   ·exact (oG i (by assumption)).1
   ·simp
  obtain⟨L,os,ds,o1,o2,o3,o4,o5,o6⟩:=Vr (W:=W) (ty:=ty) (fun i=>if i<m then V i else List.replicate sz Value.nilFunc) WO len 0 (fun i _ hi N=>by
   have U9:i<m:=by omega
   simp only[U9,if_true]
   exact ih n (V i) _ (hV i U9).2 (fun k hk=>xG k (by
    rw[G0]
    simp only[DataW.weights,hu]
    exact .tail _ (aaI _ (VW (List.mem_map_of_mem (List.mem_range.2 (by omega))) hk)))) N) (N+1)
  have KC:∀ e,Fits e N (⟨.cells (Tr.dh .nil off L) off (off+L.length) el 2,b,C.size⟩::os)->N<e.N/\e.b N=b/\e.d N=0/\e.n N=C.size/\Fits e (N+1) os:=by
   intro e he
   have h1:=he.2 0 _ rfl
   have h2:=(Fits.app (a:=[⟨.cells (Tr.dh .nil off L) off (off+L.length) el 2,b,C.size⟩]) (b:=os) he).2
   have h3:=he.1
   simp only[abn] at h3
   exact⟨by omega,h1.1,h1.2.1,h1.2.2,h2⟩
  refine⟨[.slice N off len m true sz],⟨.cells (Tr.dh .nil off L) off (off+L.length) el 2,b,C.size⟩::os,.row ds,rfl,fun e he => ?_,fun e he j o hj => ?_,fun o ho => ?_,fun H hH => ?_⟩
  ·obtain⟨f1,f2,f3,f4,f5⟩:=KC e he
   refine .cons ?_ (.nil e)
   have:=VR.slice (e:=e) N off len m true sz off m f1 (by rw[f3];simp) hl (aar _) (fun _=>rfl) (by rw[f4];exact hCm)
   rw[f2] at this
   exact this
  ·obtain⟨f1,f2,f3,f4,f5⟩:=KC e he
   cases j with
   | zero=>
    cases hj
    refine⟨_,hw,?_⟩
    refine .cells _ off (off+L.length) el 2 C fz f4.symm (fun k v ql jm hk => ?_) (by simp) (by simp) (fun _=>f3)
    rw[Tr.xJ,if_pos ⟨ql,jm⟩] at hk
    obtain⟨v',cQ,gu⟩:=(o3 e f5).get hk
    refine⟨k,by rw[ae6,f3];simp,v',?_,gu⟩
    have hq:k-off<len*sz:=by omega
    have hi:(k-off) / sz<len:=Nat.div_lt_of_lt_mul (by rw[ajD];exact hq)
    have hr:(k-off) % sz<sz:=ah1 _ h0
    have hd:(k-off) / sz*sz+(k-off) % sz=k-off:=by rw[ajD];exact Nat.div_add_mod _ _
    have h1:=Ur _ WO len 0 _ _ hi hr
    rw[hd,yS,if_pos (by omega)] at h1
    have Yu:(List.flatMap (fun i=>if i<m then V i else List.replicate sz Value.nilFunc) (List.range' 0 len))[k-off]? = some v':=cQ
    rw[h1,<-KQ _ _ (by omega) hr] at Yu
    have:=hC _ _ Yu
    rw[show off+(k-off) / sz*sz+(k-off) % sz=k by omega] at this
    exact this
   | succ j=>
    obtain⟨ob,h1,h2⟩:=o4 e f5 j o (by simpa using hj)
    exact⟨ob,h1,by rw[show N+(j+1)=N+1+j by omega];exact h2⟩
  ·rcases yL.1 ho with rfl | ho
   ·rfl
   ·exact o5 o ho
  ·have h1:=hH.2 0 _ rfl
   have h2:=(Has.app (a:=[⟨.cells (Tr.dh .nil off L) off (off+L.length) el 2,b,C.size⟩]) (b:=os) hH).2
   have h3:=hH.1
   simp only[abn] at h3
   refine .slice (l:=L) (.mk ⟨by omega,_,_,_,_,_,h1,aar _,aar _,fun k v hk => ?_⟩ o1 hl ?_) (by rw[o1,o2]) (o6 H h2)
   ·have:=(abf.1 hk).1
    rw[Tr.xJ,if_pos ⟨by omega,by omega⟩,<-hk]
    congr 1;omega
   ·rw[oa oW];rfl
 | @struct t n fs Bv hu hn hl hc hf ht ih=>
  intro fuel cs x h xG N
  obtain⟨xs,n',_,G0,oV,dW,gC⟩:=DataW.trod_struct hu h
  obtain⟨L,os,ds,o1,o2,o3,o4,o5,o6⟩:=ack (W:=W) cs n (by rw[oV,hn]) Bv 0 hc (fun q hq N=>by
   obtain⟨j,hj⟩:=List.getElem?_of_mem hq
   have qO:j<fs.toList.length:=by rw[<-hl];exact (abf.1 hj).1
   have JI:fs.toList[j]? = some fs.toList[j]:=aax qO
   obtain⟨e1,e2⟩:=hf j _ q JI hj
   have Wc:=gC j fs.toList[j] (by rw[<-adm];exact JI)
   have hjx:j<xs.length:=by rw[dW];simpa using qO
   have uq:xs[j]? = some xs[j]:=aax hjx
   rw[uq] at Wc
   rw[e1,e2]
   exact ih j _ q JI hj n' _ _ Wc (fun k hk=>xG k (by
    rw[G0]
    simp only[DataW.weights,hu]
    exact QC (j:=j) (by rw[adh,JI];rfl) (by rw[adh,uq];rfl) hk)) N) N
  refine⟨L,os,.st ds,by rw[o1,oV,hn,ae9],fun e he => ?_,o4,o5,fun H hH => .struct (by rw[o1,ae9]) o2 fun j q d h1 h2 => ?_⟩
  ·have:=o3 e he
   rw[afO] at this
   exact this
  ·have:=o6 H hH j q d h1 h2
   rw[ae9] at this
   exact this
def LD:Ty->List AV->AV
 | .struct _ _,l => .agg l
 | _,l=>l.headD .dT
def TF:Ty->Bool
 | .struct _ _=>true
 | _=>false
structure PG (enc:TypeId × Value->Q)(P:Program)(W:World)(base:Nat)(spare:Nat->Bool)(held:Bool)(ty:Ty)(t:TypeId)(v:Value):Prop where
 of:yA P ty t
 rd:∃ fuel x,DataW.trod enc P W base spare held fuel t v.cells.toList=some x/\∀ k∈x.1.weights P t,k<=reachBytes
 st:TF ty=true->∃ cs,v = .agg cs
 one:TF ty=false->v.cells = #[v]
def NU (H:Hp)(ty:Ty)(a:AV)(d:D):Prop:=∃ l,a=LD ty l/\Is H ty l d
inductive Iy (enc:TypeId × Value->Q) (P:Program) (W:World) (base:Nat) (spare:Nat->Bool) (held:Bool):List Ty->List Value->Prop
 | nil:Iy enc P W base spare held [] []
 | cons {ty:Ty} {t:TypeId} {v:Value} {rI:List Ty} {vs:List Value} (h:PG enc P W base spare held ty t v) (k:Iy enc P W base spare held rI vs):Iy enc P W base spare held (ty::rI) (v::vs)
inductive EB (H:Hp):List Ty->List AV->List D->Prop
 | nil:EB H [] [] []
 | cons {ty:Ty} {a:AV} {d:D} {rI:List Ty} {ar:List AV} {ds:List D} (h:NU H ty a d) (k:EB H rI ar ds):EB H (ty::rI) (a::ar) (d::ds)
theorem agw (wa:∀ b,spare b=true){ty:Ty}{t:TypeId}{v:Value}(h:PG enc P W base spare held ty t v)(N:Nat):∃ (a:AV) (os:List OB) (d:D),(∀ e,Fits e N os->VR e a v)/\
  (∀ e,Fits e N os->∀ j o,os[j]? = some o->∃ ob,W.heap[o.b]? = some ob/\OR e (N+j) o.ao ob)/\(∀ o∈os,wr o.ao=false)/\∀ H,Has H N os->NU H ty a d:=by
 obtain⟨fuel,x,hx,hxw⟩:=h.rd
 obtain⟨l,os,d,o⟩:=agv wa h.of fuel _ x hx hxw N
 refine⟨LD ty l,os,d,fun e he => ?_,o.or,o.wr,fun H hH=>⟨l,rfl,o.is H hH⟩⟩
 have hv:=o.vr e he
 cases fW:TF ty with
 | true=>
  obtain⟨cs,rfl⟩:=h.st fW
  have:LD ty l = .agg l:=by cases ty<;>first | rfl | cases fW
  rw[this]
  have:=VR.UM hv
  simpa[Value.cells] using this
 | false=>
  have h1:=h.one fW
  rw[h1] at hv
  have hl:l.length=1:=by rw[o.len,h1];rfl
  match l,hl with
  | [a],_=>
   have:LD ty [a]=a:=by cases ty<;>first | rfl | cases fW
   rw[this]
   exact hv.2 0 a v rfl rfl
theorem acw (wa:∀ b,spare b=true){rI:List Ty}{vs:List Value}(h:Iy enc P W base spare held rI vs):∀ N,∃ (ar:List AV) (os:List OB) (ds:List D),(∀ e,Fits e N os->az e ar vs)/\
  (∀ e,Fits e N os->∀ j o,os[j]? = some o->∃ ob,W.heap[o.b]? = some ob/\OR e (N+j) o.ao ob)/\(∀ o∈os,wr o.ao=false)/\∀ H,Has H N os->EB H rI ar ds:=by
 induction h with
 | nil=>exact fun N=>⟨[],[],[],fun e _ => .nil e,fun e _ j o hj=>by simp at hj,fun o ho=>(by cases ho),fun H _ => .nil⟩
 | cons h k ih=>
  intro N
  obtain⟨a,os,d,a1,a2,a3,a4⟩:=agw wa h N
  obtain⟨ar,GX,ds,b1,b2,b3,b4⟩:=ih (N+os.length)
  refine⟨a::ar,os++GX,d::ds,fun e he => .cons (a1 e he.app.1) (b1 e he.app.2),fun e he j o hj => ?_,fun o ho=>(aal.1 ho).elim (a3 o) (b3 o),fun H hH => .cons (a4 H hH.app.1) (b4 H hH.app.2)⟩
  obtain⟨f1,f2⟩:=he.app
  by_cases qO:j<os.length
  ·rw[abU qO] at hj
   exact a2 e f1 j o hj
  ·rw[acs (by omega)] at hj
   obtain⟨ob,p,q⟩:=b2 e f2 _ o hj
   exact⟨ob,p,by rw[show N+j=N+os.length+(j-os.length) by omega];exact q⟩
def wI (N:Nat):List OB->List (Nat × AO)
 | []=>[]
 | o::os=>(N,o.ao)::wI (N+1) os
theorem Uw:∀ (os:List OB) (N i:Nat) (o:AO),(i,o)∈wI N os->∃ j ob,os[j]? = some ob/\i=N+j/\o=ob.ao
 | [],N,i,o,h=>by cases h
 | ob::os,N,i,o,h=>by
  rcases yL.1 h with h | h
  ·cases h;exact⟨0,ob,rfl,rfl,rfl⟩
  ·obtain⟨j,rp,h1,h2,h3⟩:=Uw os (N+1) i o h
   exact⟨j+1,rp,by simpa using h1,by omega,h3⟩
theorem Y8:∀ (os:List OB) (N:Nat) (t:Tr AO) (j:Nat) (o:OB),os[j]? = some o->(rK (wI N os) t).get (N+j)=some o.ao
 | [],N,t,j,o,h=>by simp at h
 | ob::os,N,t,0,o,h=>by
  cases h
  show (Tr.put 34 (rK (wI (N+1) os) t) N ob.ao).get N=_
  rw[Tr.put,Tr.fE,if_pos rfl]
 | ob::os,N,t,j+1,o,h=>by
  show (Tr.put 34 (rK (wI (N+1) os) t) N ob.ao).get (N+(j+1))=_
  rw[Tr.put,Tr.fE,if_neg (by omega),show N+(j+1)=N+1+j by omega]
  exact Y8 os (N+1) t j o (by simpa using h)
theorem UX:∀ (os:List OB) (N:Nat) (t:Tr AO) (i:Nat),i<N->(rK (wI N os) t).get i=t.get i
 | [],N,t,i,h=>rfl
 | ob::os,N,t,i,h=>by
  show (Tr.put 34 (rK (wI (N+1) os) t) N ob.ao).get i=_
  rw[Tr.put,Tr.fE,if_neg (by omega)]
  exact UX os (N+1) t i (by omega)
theorem ZD (el:Nat->TypeId):∀ (L:List (Nat × List AV)),(L.map (·.1)).Nodup->∀ g l,(g,l)∈L->(lh el L).get g=some (.cells (Tr.dh .nil 0 l) 0 l.length (el g) 2)
 | [],_,g,l,h=>by cases h
 | (g',l')::L,hn,g,l,h=>by
  rw[ab8,acB] at hn
  rw[lh,Tr.put,Tr.fE]
  rcases yL.1 h with h | h
  ·cases h;rw[if_pos rfl]
  ·rw[if_neg (fun q=>hn.1 (by rw[<-q];exact adj.2 ⟨_,h,rfl⟩))]
   exact ZD el L hn.2 g l h
end
theorem ap7 {H:Hp}{e:Ty}{α:Type}(f:α->AV)(ok:α->Prop)(hf:∀ l d,Is H e l d->∃ z,l=[f z]/\ok z){x:AV}{d:D}(h:Is H (.slice 1 e) [x] d):∃ b:List α,Rw H 1 x (b.map f)/\∀ c∈b,ok c:=by
 cases h with
 | @slice _ _ _ l ds hr hl hd=>
  rw[adQ] at hl
  have key:∀ i,i<l.length->∃ z,l[i]? = some (f z)/\ok z:=by
   intro i hi
   obtain⟨z,h1,h2⟩:=hf _ _ (hd i ds[i] (aax (by omega)))
   refine⟨z,?_,h2⟩
   have:((l.drop (i*1)).take 1)[0]? = some (f z):=by rw[h1];rfl
   rw[adM,if_pos (by omega),adG,adQ,ae6] at this
   exact this
  have:∃ b:List α,l=b.map f/\∀ c∈b,ok c:=by
   clear hr hl hd
   induction l with
   | nil=>exact⟨[],rfl,fun c hc=>by cases hc⟩
   | cons v l ih=>
    obtain⟨z,h1,h2⟩:=key 0 (by simp)
    obtain⟨b,h3,h4⟩:=ih fun i hi=>by
     obtain⟨z,a,c⟩:=key (i+1) (by simpa using hi)
     exact⟨z,by simpa using a,c⟩
    simp only[nq,acS] at h1
    refine⟨z::b,by rw[ab8,h1,<-h3],fun c hc => ?_⟩
    rcases yL.1 hc with rfl | hc
    ·exact h2
    ·exact h4 c hc
  obtain⟨b,rfl,hb⟩:=this
  exact⟨b,hr,hb⟩
theorem arU {H:Hp}{e:Ty}{sz:Nat}{a:AV}{d:D}(h:NU H (.slice sz e) a d):Is H (.slice sz e) [a] d:=by
 obtain⟨l,rfl,h⟩:=h
 cases h with
 | slice hr hl hd=>exact .slice hr hl hd
end K
end Go.Proofs.YtehhgkgeldinkaaGreatDoor.Am
