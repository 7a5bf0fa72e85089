/- A law's argument, off its reading as data, in the symbolic heap (of no program). -/
import Derived.Test.YtodfajmihkagnaaGreatDoorAm13
import Derived.Deep.Slices
set_option linter.unusedVariables false
set_option linter.unusedSimpArgs false
namespace Go.Proofs.YtodfajmihkagnaaGreatDoor.Am
open Go.Deep
set_option linter.unusedVariables false
set_option linter.unusedSimpArgs false
namespace K
inductive Ty where
 | bool
 | int (k:IntKind)
 | str
 | slice (sz:Nat) (e:Ty)
 | struct (n:Nat) (fs:List (Nat × Nat × Ty))
inductive D where
 | b (x:Bool)
 | i (x:Int)
 | s (x:List Nat)
 | row (l:List D)
 | st (l:List D)
 deriving Inhabited
def tK:List (Nat × Nat × Ty)->Nat->Nat->Prop
 | [],a,n=>a=n
 | q::r,a,n=>q.1=a/\tK r (a+q.2.1) n
theorem tK.le:∀ (fs:List (Nat × Nat × Ty)) (a n:Nat),tK fs a n->a<=n
 | [],a,n,h=>Nat.le_of_eq h
 | q::r,a,n,h=>afo (Nat.le_add_right _ _) (tK.le r _ n h.2)
theorem tK.lo:∀ (fs:List (Nat × Nat × Ty)) (a n:Nat),tK fs a n->∀ q∈fs,a<=q.1/\q.1+q.2.1<=n
 | q::r,a,n,h,x,hx=>by
  rcases abn.1 hx with rfl | hx
  ·have:=tK.le r _ n h.2
   have:=h.1
   omega
  ·have:=tK.lo r _ n h.2 x hx
   omega
inductive xt (P:Program):Ty->TypeId->Prop
 | bool {t:TypeId} (h:P.underlying t=some .bool):xt P .bool t
 | int {t:TypeId} {k:IntKind} (h:P.underlying t=some (.int k)):xt P (.int k) t
 | str {t:TypeId} (h:P.underlying t=some .string):xt P .str t
 | slice {t e:TypeId} {sz:Nat} {ty:Ty} (h:P.underlying t=some (.slice e)) (hs:P.cellsOf e=sz) (h0:0<sz) (he:xt P ty e):xt P (.slice sz ty) t
 | struct {t:TypeId} {n:Nat} {fs:Array Field} {Bk:List (Nat × Nat × Ty)} (h:P.underlying t=some (.struct fs)) (hn:P.cellsOf t=n) (hl:Bk.length=fs.toList.length) (hc:tK Bk 0 n)
   (hf:∀ (j:Nat) (f:Field) (q:Nat × Nat × Ty),fs.toList[j]? = some f->Bk[j]? = some q->q.1=f.offset/\q.2.1=P.cellsOf f.type) (ht:∀ (j:Nat) (f:Field) (q:Nat × Nat × Ty),fs.toList[j]? = some f->Bk[j]? = some q->xt P q.2.2 f.type):xt P (.struct n Bk) t
inductive Is (H:Hp):Ty->List AV->D->Prop
 | bool (b:Bool):Is H .bool [.bool b] (.b b)
 | int (k:IntKind) (z:Int) (h:k.min<=z/\z<=k.max):Is H (.int k) [.int k z] (.i z)
 | str (s:List Nat) (h:∀ c∈s,c<256) (hl:s.length<=reachBytes):Is H .str [.str s] (.s s)
 | slice {sz:Nat} {e:Ty} {x:AV} {l:List AV} {ds:List D} (hr:Rw H sz x l) (hl:l.length=ds.length*sz) (hd:∀ (i:Nat) (d:D),ds[i]? = some d->Is H e ((l.drop (i*sz)).take sz) d):Is H (.slice sz e) [x] (.row ds)
 | struct {n:Nat} {fs:List (Nat × Nat × Ty)} {l:List AV} {ds:List D} (hl:l.length=n) (hn:ds.length=fs.length)
   (hd:∀ (j:Nat) (q:Nat × Nat × Ty) (d:D),fs[j]? = some q->ds[j]? = some d->Is H q.2.2 ((l.drop q.1).take q.2.1) d):Is H (.struct n fs) l (.st ds)
theorem Is.out {H H':Hp} {ty:Ty} {l:List AV} {d:D} {S:List Nat} (h:Is H ty l d) (k:Out S H H') (hS:∀ j∈S,H.next<=j):Is H' ty l d:=by
 induction h with
 | bool b=>exact .bool b
 | int k z h=>exact .int k z h
 | str s h hl=>exact .str s h hl
 | slice hr hl hd ih=>exact .slice (hr.out k fun j hj q=>by have:=hr.lt j hj;have:=hS j q;omega) hl ih
 | struct hl hn hd ih=>exact .struct hl hn ih
structure OB where
 ao:AO
 b:Nat
 n:Nat
def Fits (e:Em) (N:Nat) (os:List OB):Prop:=N+os.length<=e.N/\∀ j o,os[j]? = some o->e.b (N+j)=o.b/\e.d (N+j)=0/\e.n (N+j)=o.n
def Has (H:Hp) (N:Nat) (os:List OB):Prop:=N+os.length<=H.next/\∀ j o,os[j]? = some o->H.h.get (N+j)=some o.ao
theorem Fits.app {e:Em} {N:Nat} {a b:List OB} (h:Fits e N (a++b)):Fits e N a/\Fits e (N+a.length) b:=by
 obtain⟨h1,h2⟩:=h
 rw[aby] at h1
 refine⟨⟨by omega,fun j o hj=>h2 j o ?_⟩,by omega,fun j o hj => ?_⟩
 ·rw[abN (aaK.1 hj).1];exact hj
 ·rw[ag0]
  exact h2 _ o (by rw[abQ (by omega),adG];exact hj)
theorem Has.app {H:Hp} {N:Nat} {a b:List OB} (h:Has H N (a++b)):Has H N a/\Has H (N+a.length) b:=by
 obtain⟨h1,h2⟩:=h
 rw[aby] at h1
 refine⟨⟨by omega,fun j o hj=>h2 j o ?_⟩,by omega,fun j o hj => ?_⟩
 ·rw[abN (aaK.1 hj).1];exact hj
 ·rw[ag0]
  exact h2 _ o (by rw[abQ (by omega),adG];exact hj)
structure Ms (W:World) (ty:Ty) (cs:List Value) (N:Nat) (l:List AV) (os:List OB) (d:D):Prop where
 len:l.length=cs.length
 vr:∀ e,Fits e N os->aP e l cs
 or:∀ e,Fits e N os->∀ j o,os[j]? = some o->∃ ob,W.heap[o.b]? = some ob/\OR e (N+j) o.ao ob
 wr:∀ o∈os,wr o.ao=false
 is:∀ H,Has H N os->Is H ty l d
section
variable {Q:Type} {enc:TypeId × Value->Q} {P:Program} {W:World} {base:Nat} {spare:Nat->Bool} {held:Bool}
theorem Xj {ty:Ty} {sz:Nat} (C:Nat->List Value) (hC:∀ i,(C i).length=sz):∀ (n k:Nat),(∀ i,k<=i->i<k+n->∀ N,∃ l os d,Ms W ty (C i) N l os d)->∀ N,∃ (L:List AV) (os:List OB) (ds:List D),L.length=n*sz/\ds.length=n/\
  (∀ e,Fits e N os->aP e L ((List.range' k n).flatMap C))/\(∀ e,Fits e N os->∀ j o,os[j]? = some o->∃ ob,W.heap[o.b]? = some ob/\OR e (N+j) o.ao ob)/\(∀ o∈os,wr o.ao=false)/\
  ∀ H,Has H N os->∀ i d,ds[i]? = some d->Is H ty ((L.drop (i*sz)).take sz) d
 | 0,k,h,N=>⟨[],[],[],by simp,rfl,fun e _ => .nil e,fun e _ j o hj=>by simp at hj,fun o ho=>(by cases ho),fun H _ i d hd=>by simp at hd⟩
 | n+1,k,h,N=>by
  obtain⟨l,os,d,o1⟩:=h k (abe _) (by omega) N
  obtain⟨L,Gb,ds,h1,h2,h3,h4,h5,h6⟩:=Xj C hC n (k+1) (fun i a b=>h i (by omega) (by omega)) (N+os.length)
  have hl:l.length=sz:=by rw[o1.len,hC]
  refine⟨l++L,os++Gb,d::ds,by rw[aby,h1,hl,Nat.succ_mul];omega,by simp[h2],fun e he => ?_,fun e he j o hj => ?_,fun o ho => ?_,fun H hH i x hx => ?_⟩
  ·obtain⟨f1,f2⟩:=he.app
   rw[aiw,List.flatMap_cons]
   exact (o1.vr e f1).append (h3 e f2)
  ·obtain⟨f1,f2⟩:=he.app
   by_cases qj:j<os.length
   ·rw[abN qj] at hj
    exact o1.or e f1 j o hj
   ·rw[abQ (by omega)] at hj
    obtain⟨ob,a,b⟩:=h4 e f2 _ o hj
    exact⟨ob,a,by rw[show N+j=N+os.length+(j-os.length) by omega];exact b⟩
  ·exact (abP.1 ho).elim (o1.wr o) (h5 o)
  ·obtain⟨f1,f2⟩:=hH.app
   cases i with
   | zero=>
    cases hx
    rw[af4,abJ,List.take_append_of_le_length (by omega),aer (by omega)]
    exact o1.is H f1
   | succ i=>
    have:=h6 H f2 i x (by simpa using hx)
    rw[Nat.succ_mul,Nat.add_comm,<-List.drop_drop,List.drop_left' hl]
    exact this
theorem Wy (cs:List Value) (n:Nat) (fy:cs.length=n):∀ (fs:List (Nat × Nat × Ty)) (a:Nat),tK fs a n->(∀ q∈fs,∀ N,∃ l os d,Ms W q.2.2 ((cs.drop q.1).take q.2.1) N l os d)->∀ N,∃ (L:List AV) (os:List OB) (ds:List D),L.length=n-a/\ds.length=fs.length/\
  (∀ e,Fits e N os->aP e L (cs.drop a))/\(∀ e,Fits e N os->∀ j o,os[j]? = some o->∃ ob,W.heap[o.b]? = some ob/\OR e (N+j) o.ao ob)/\(∀ o∈os,wr o.ao=false)/\
  ∀ H,Has H N os->∀ (j:Nat) (q:Nat × Nat × Ty) (d:D),fs[j]? = some q->ds[j]? = some d->Is H q.2.2 ((L.drop (q.1-a)).take q.2.1) d
 | [],a,hc,h,N=>by
  have ha:a=n:=hc
  refine⟨[],[],[],by simp;omega,rfl,fun e _ => ?_,fun e _ j o hj=>by simp at hj,fun o ho=>(by cases ho),fun H _ j q d x=>by simp at x⟩
  rw[afX (by omega)];exact .nil e
 | q::fs,a,hc,h,N=>by
  obtain⟨l,os,d,o1⟩:=h q (.head _) N
  obtain⟨L,Gb,ds,h1,h2,h3,h4,h5,h6⟩:=Wy cs n fy fs (a+q.2.1) hc.2 (fun q hq=>h q (.tail _ hq)) (N+os.length)
  have hqa:=hc.1
  have hle:=tK.le fs _ n hc.2
  have hl:l.length=q.2.1:=by rw[o1.len,adA,ae1];omega
  refine⟨l++L,os++Gb,d::ds,by rw[aby,h1,hl];omega,by simp[h2],fun e he => ?_,fun e he j o hj => ?_,fun o ho=>(abP.1 ho).elim (o1.wr o) (h5 o),fun H hH j q' d' x y => ?_⟩
  ·obtain⟨f1,f2⟩:=he.app
   have:=(o1.vr e f1).append (h3 e f2)
   rw[hqa,<-List.drop_drop,agx] at this
   exact this
  ·obtain⟨f1,f2⟩:=he.app
   by_cases qj:j<os.length
   ·rw[abN qj] at hj
    exact o1.or e f1 j o hj
   ·rw[abQ (by omega)] at hj
    obtain⟨ob,a,b⟩:=h4 e f2 _ o hj
    exact⟨ob,a,by rw[show N+j=N+os.length+(j-os.length) by omega];exact b⟩
  ·obtain⟨f1,f2⟩:=hH.app
   cases j with
   | zero=>
    cases x;cases y
    rw[hqa,agi,abJ,List.take_append_of_le_length (by omega),aer (by omega)]
    exact o1.is H f1
   | succ j=>
    have x':fs[j]? = some q':=by simpa using x
    have:=h6 H f2 j q' d' x' (by simpa using y)
    have gY:=(tK.lo fs _ n hc.2 q' (aa2 x')).1
    rw[show q'.1-a=l.length+(q'.1-(a+q.2.1)) by omega,<-List.drop_drop,List.drop_left]
    exact this
theorem U6 {α:Type} (C:Nat->List α) {sz:Nat} (hC:∀ i,(C i).length=sz):∀ (n k j r:Nat),j<n->r<sz->((List.range' k n).flatMap C)[j*sz+r]? = (C (k+j))[r]?
 | 0,k,j,r,h,_=>by omega
 | n+1,k,j,r,h,hr=>by
  rw[aiw,List.flatMap_cons]
  cases j with
  | zero=>rw[af4,adt,abN (by rw[hC];exact hr),adx]
  | succ j=>
   rw[Nat.succ_mul,abQ (by rw[hC];omega),hC,show j*sz+sz+r-sz=j*sz+r by omega,U6 C hC n (k+1) j r (by omega) hr]
   congr 2;omega
theorem adb (b off m n:Nat):((⟨b,off,none⟩:Addr).add m).add n=⟨b,off+m+n,none⟩:=by
 unfold Addr.add
 by_cases hm:m=0<;>by_cases hn:n=0<;>simp[hm,hn]
theorem Zu {e:TypeId} {k:Nat} {d:DataW Q}:∀ {l:List (DataW Q)},d∈l->k∈d.weights P e->k∈DataW.weightsAll P e l
 | x::l,h,hk=>by
  rw[DataW.weightsAll]
  rcases abn.1 h with rfl | h
  ·exact abG _ hk
  ·exact abB _ (Zu h hk)
theorem JB {k:Nat} {d:DataW Q} {t:TypeId}:∀ {ts:List TypeId} {ds:List (DataW Q)} {j:Nat},ts[j]? = some t->ds[j]? = some d->k∈d.weights P t->k∈DataW.weightsEach P ts ds
 | [],ds,j,h,_,_=>by simp at h
 | t0::ts,[],j,_,h,_=>by simp at h
 | t0::ts,d0::ds,0,h1,h2,hk=>by
  rw[DataW.weightsEach]
  cases h1;cases h2
  exact abG _ hk
 | t0::ts,d0::ds,j+1,h1,h2,hk=>by
  rw[DataW.weightsEach]
  exact abB _ (JB (j:=j) (by simpa using h1) (by simpa using h2) hk)
theorem ann (ml:∀ b,spare b=true) {ty:Ty} {t:TypeId} (ht:xt P ty t):∀ (fuel:Nat) (cs:List Value) (x:DataW Q × List MemPlace),DataW.trod enc P W base spare held fuel t cs=some x->(∀ k∈x.1.weights P t,k<=reachBytes)->∀ N,∃ l os d,Ms W ty cs N l os d:=by
 induction ht with
 | bool hu=>
  intro fuel cs x h vC N
  obtain⟨b,rfl,_⟩:=DataW.trod_bool hu h
  exact⟨[.bool b],[],.b b,rfl,fun e _ => .cons (.bool b) (.nil e),fun e _ j o hj=>by simp at hj,fun o ho=>(by cases ho),fun H _ => .bool b⟩
 | @int t k hu=>
  intro fuel cs x h vC N
  obtain⟨z,rfl,_,hw⟩:=DataW.trod_int hu h
  refine⟨[.int k z],[],.i z,rfl,fun e _ => .cons (.int k z) (.nil e),fun e _ j o hj=>by simp at hj,fun o ho=>(by cases ho),fun H _ => .int k z ?_⟩
  simpa[Lit.wf] using hw
 | str hu=>
  intro fuel cs x h vC N
  obtain⟨s,rfl,Hl,hs⟩:=DataW.trod_string hu h
  refine⟨[.str (bytes s)],[],.s (bytes s),rfl,fun e _ => .cons (.str s) (.nil e),fun e _ j o hj=>by simp at hj,fun o ho=>(by cases ho),fun H _ => .str _ (fun c hc => ?_) ?_⟩
  ·obtain⟨u,_,rfl⟩:=acI.1 hc
   exact u.toNat_lt
  ·unfold bytes;rw[ac7];exact vC _ (by rw[Hl];simp[DataW.weights])
 | @slice t e sz ty hu hs h0 he ih=>
  intro fuel cs x h vC N
  rcases open_slice hu h with⟨rfl,_⟩ | ⟨a,len,cap,m,n,D',Pl,rfl,hb,hl,hm,B4,Hl,hx⟩
  ·exact⟨[.ah],[],.row [],rfl,fun e _ => .cons .ah (.nil e),fun e _ j o hj=>by simp at hj,fun o ho=>(by cases ho),fun H _ => .slice .nil (by simp) fun i d hd=>by simp at hd⟩
  rw[ml,if_pos rfl] at B4
  subst B4
  rw[hs] at hx
  by_cases BZ:m=0
  ·subst BZ
   obtain rfl:len=0:=by omega
   exact⟨[.slice 0 0 0 0 true sz],[],.row [],rfl,fun e _ => .cons (.yG 0 0 true sz a) (.nil e),fun e _ j o hj=>by simp at hj,fun o ho=>(by cases ho),fun H _ => .slice .emp (by simp) fun i d hd=>by simp at hd⟩
  obtain⟨V,hV⟩:=choose_lt (α:=List Value) (p:=fun i BL=>W.cells? base (a.add (i*sz)) sz=some BL/\DataW.trod enc P W base spare held n e BL=some (D' i,Pl i)) (fun i hi=>hx i hi)
  have xg:∀ i,i<m->(V i).length=sz/\∀ r,r<sz->W.cell? ((a.add (i*sz)).add r)=(V i)[r]? := fun i hi=>(World.cells?_some (hV i hi).1).2
  obtain⟨b,off,sp⟩:=a
  have aeG:sp=none:=by
   have h1:=(xg 0 (by omega)).2 0 h0
   have h2:=(xg 0 (by omega)).1
   rw[af4,aaM (by omega)] at h1
   have e0:((⟨b,off,sp⟩:Addr).add 0).add 0=⟨b,off,sp⟩:=by simp[Addr.add]
   rw[e0] at h1
   cases sp with
   | none=>rfl
   | some y=>
    exfalso
    unfold World.cell? at h1
    split at h1
    ·simp at h1
    ·cases h1
  subst aeG
  have O0:∀ i r,i<m->r<sz->W.cell? ⟨b,off+i*sz+r,none⟩=(V i)[r]? := fun i r hi hr=>by
   rw[<- (xg i hi).2 r hr,adb]
  have G4:∃ C el fz,W.heap[b]? = some (.cells C el fz)/\∀ k v,W.cell? ⟨b,k,none⟩=some v->C[k]? = some v:=by
   have h1:=O0 0 0 (by omega) h0
   have h2:=(xg 0 (by omega)).1
   rw[aaM (by omega)] at h1
   unfold World.cell? at h1
   split at h1
   ·rename_i C el fz hw
    refine⟨C,el,fz,hw,fun k v hk => ?_⟩
    unfold World.cell? at hk
    simp only[hw] at hk
    simpa using hk
   ·cases h1
  obtain⟨C,el,fz,hw,hC⟩:=G4
  have hCm:off+m*sz<=C.size:=by
   have h1:=O0 (m-1) (sz-1) (by omega) (by omega)
   have h2:=(xg (m-1) (by omega)).1
   rw[aaM (by omega)] at h1
   have:=(ab6.1 (hC _ _ h1)).1
   have e1:(m-1)*sz+sz=m*sz:=by rw[<-Nat.succ_mul];congr 1;omega
   omega
  have S8:∀ i,(if i<m then V i else List.replicate sz Value.nilFunc).length=sz:=fun i=>by
   split
   ·exact (xg i (by assumption)).1
   ·simp
  obtain⟨L,os,ds,o1,o2,o3,o4,o5,o6⟩:=Xj (W:=W) (ty:=ty) (fun i=>if i<m then V i else List.replicate sz Value.nilFunc) S8 len 0 (fun i _ hi N=>by
   have UM:i<m:=by omega
   simp only[UM,if_true]
   exact ih n (V i) _ (hV i UM).2 (fun k hk=>vC k (by
    rw[Hl]
    simp only[DataW.weights,hu]
    exact .tail _ (abG _ (Zu (List.mem_map_of_mem (ais.2 (by omega))) hk)))) N) (N+1)
  have I0:∀ e,Fits e N (⟨.cells (Tr.cC .nil off L) off (off+L.length) el 2,b,C.size⟩::os)->N<e.N/\e.b N=b/\e.d N=0/\e.n N=C.size/\Fits e (N+1) os:=by
   intro e he
   have h1:=he.2 0 _ rfl
   have h2:=(Fits.app (a:=[⟨.cells (Tr.cC .nil off L) off (off+L.length) el 2,b,C.size⟩]) (b:=os) he).2
   have h3:=he.1
   simp only[abx] at h3
   exact⟨by omega,h1.1,h1.2.1,h1.2.2,h2⟩
  refine⟨[.slice N off len m true sz],⟨.cells (Tr.cC .nil off L) off (off+L.length) el 2,b,C.size⟩::os,.row ds,rfl,fun e he => ?_,fun e he j o hj => ?_,fun o ho => ?_,fun H hH => ?_⟩
  ·obtain⟨f1,f2,f3,f4,f5⟩:=I0 e he
   refine .cons ?_ (.nil e)
   have:=VR.slice (e:=e) N off len m true sz off m f1 (by rw[f3];simp) hl (abe _) (fun _=>rfl) (by rw[f4];exact hCm)
   rw[f2] at this
   exact this
  ·obtain⟨f1,f2,f3,f4,f5⟩:=I0 e he
   cases j with
   | zero=>
    cases hj
    refine⟨_,hw,?_⟩
    refine .cells _ off (off+L.length) el 2 C fz f4.symm (fun k v tD fV hk => ?_) (by simp) (by simp) (fun _=>f3)
    rw[Tr.uj,if_pos ⟨tD,fV⟩] at hk
    obtain⟨v',cl,iq⟩:=(o3 e f5).get hk
    refine⟨k,by rw[adx,f3];simp,v',?_,iq⟩
    have hq:k-off<len*sz:=by omega
    have hi:(k-off) / sz<len:=Nat.div_lt_of_lt_mul (by rw[Nat.mul_comm];exact hq)
    have hr:(k-off) % sz<sz:=Nat.mod_lt _ h0
    have hd:(k-off) / sz*sz+(k-off) % sz=k-off:=by rw[Nat.mul_comm];exact Nat.div_add_mod _ _
    have h1:=U6 _ S8 len 0 _ _ hi hr
    rw[hd,adt,if_pos (by omega)] at h1
    have aaW:(List.flatMap (fun i=>if i<m then V i else List.replicate sz Value.nilFunc) (List.range' 0 len))[k-off]? = some v':=cl
    rw[h1,<-O0 _ _ (by omega) hr] at aaW
    have:=hC _ _ aaW
    rw[show off+(k-off) / sz*sz+(k-off) % sz=k by omega] at this
    exact this
   | succ j=>
    obtain⟨ob,h1,h2⟩:=o4 e f5 j o (by simpa using hj)
    exact⟨ob,h1,by rw[show N+(j+1)=N+1+j by omega];exact h2⟩
  ·rcases abn.1 ho with rfl | ho
   ·rfl
   ·exact o5 o ho
  ·have h1:=hH.2 0 _ rfl
   have h2:=(Has.app (a:=[⟨.cells (Tr.cC .nil off L) off (off+L.length) el 2,b,C.size⟩]) (b:=os) hH).2
   have h3:=hH.1
   simp only[abx] at h3
   refine .slice (l:=L) (.mk ⟨by omega,_,_,_,_,_,h1,abe _,abe _,fun k v hk => ?_⟩ o1 hl ?_) (by rw[o1,o2]) (o6 H h2)
   ·have:=(aaK.1 hk).1
    rw[Tr.uj,if_pos ⟨by omega,by omega⟩,<-hk]
    congr 1;omega
   ·rw[nY BZ];rfl
 | @struct t n fs Bk hu hn hl hc hf ht ih=>
  intro fuel cs x h vC N
  obtain⟨xs,n',_,Hl,lu,eC,kD⟩:=DataW.trod_struct hu h
  obtain⟨L,os,ds,o1,o2,o3,o4,o5,o6⟩:=Wy (W:=W) cs n (by rw[lu,hn]) Bk 0 hc (fun q hq N=>by
   obtain⟨j,hj⟩:=ac1 hq
   have qj:j<fs.toList.length:=by rw[<-hl];exact (aaK.1 hj).1
   have Jz:fs.toList[j]? = some fs.toList[j]:=aaM qj
   obtain⟨e1,e2⟩:=hf j _ q Jz hj
   have aaN:=kD j fs.toList[j] (by rw[<-adw];exact Jz)
   have hjx:j<xs.length:=by rw[eC];simpa using qj
   have sK:xs[j]? = some xs[j]:=aaM hjx
   rw[sK] at aaN
   rw[e1,e2]
   exact ih j _ q Jz hj n' _ _ aaN (fun k hk=>vC k (by
    rw[Hl]
    simp only[DataW.weights,hu]
    exact JB (j:=j) (by rw[ada,Jz];rfl) (by rw[ada,sK];rfl) hk)) N) N
  refine⟨L,os,.st ds,by rw[o1,lu,hn,afC],fun e he => ?_,o4,o5,fun H hH => .struct (by rw[o1,afC]) o2 fun j q d h1 h2 => ?_⟩
  ·have:=o3 e he
   rw[abJ] at this
   exact this
  ·have:=o6 H hH j q d h1 h2
   rw[afC] at this
   exact this
def JK:Ty->List AV->AV
 | .struct _ _,l => .agg l
 | _,l=>l.headD .du
def PU:Ty->Bool
 | .struct _ _=>true
 | _=>false
structure Jg (enc:TypeId × Value->Q) (P:Program) (W:World) (base:Nat) (spare:Nat->Bool) (held:Bool) (ty:Ty) (t:TypeId) (v:Value):Prop where
 of:xt P ty t
 rd:∃ fuel x,DataW.trod enc P W base spare held fuel t v.cells.toList=some x/\∀ k∈x.1.weights P t,k<=reachBytes
 st:PU ty=true->∃ cs,v = .agg cs
 one:PU ty=false->v.cells = #[v]
def Qb (H:Hp) (ty:Ty) (a:AV) (d:D):Prop:=∃ l,a=JK ty l/\Is H ty l d
inductive EY (enc:TypeId × Value->Q) (P:Program) (W:World) (base:Nat) (spare:Nat->Bool) (held:Bool):List Ty->List Value->Prop
 | nil:EY enc P W base spare held [] []
 | cons {ty:Ty} {t:TypeId} {v:Value} {qM:List Ty} {vs:List Value} (h:Jg enc P W base spare held ty t v) (k:EY enc P W base spare held qM vs):EY enc P W base spare held (ty::qM) (v::vs)
inductive DL (H:Hp):List Ty->List AV->List D->Prop
 | nil:DL H [] [] []
 | cons {ty:Ty} {a:AV} {d:D} {qM:List Ty} {aY:List AV} {ds:List D} (h:Qb H ty a d) (k:DL H qM aY ds):DL H (ty::qM) (a::aY) (d::ds)
theorem al4 (ml:∀ b,spare b=true) {ty:Ty} {t:TypeId} {v:Value} (h:Jg enc P W base spare held ty t v) (N:Nat):∃ (a:AV) (os:List OB) (d:D),(∀ e,Fits e N os->VR e a v)/\
  (∀ e,Fits e N os->∀ j o,os[j]? = some o->∃ ob,W.heap[o.b]? = some ob/\OR e (N+j) o.ao ob)/\(∀ o∈os,wr o.ao=false)/\∀ H,Has H N os->Qb H ty a d:=by
 obtain⟨fuel,x,hx,hxw⟩:=h.rd
 obtain⟨l,os,d,o⟩:=ann ml h.of fuel _ x hx hxw N
 refine⟨JK ty l,os,d,fun e he => ?_,o.or,o.wr,fun H hH=>⟨l,rfl,o.is H hH⟩⟩
 have hv:=o.vr e he
 cases aD:PU ty with
 | true=>
  obtain⟨cs,rfl⟩:=h.st aD
  have:JK ty l = .agg l:=by cases ty<;>first | rfl | cases aD
  rw[this]
  have:=VR.aat hv
  simpa[Value.cells] using this
 | false=>
  have h1:=h.one aD
  rw[h1] at hv
  have hl:l.length=1:=by rw[o.len,h1];rfl
  match l,hl with
  | [a],_=>
   have:JK ty [a]=a:=by cases ty<;>first | rfl | cases aD
   rw[this]
   exact hv.2 0 a v rfl rfl
theorem abm (ml:∀ b,spare b=true) {qM:List Ty} {vs:List Value} (h:EY enc P W base spare held qM vs):∀ N,∃ (aY:List AV) (os:List OB) (ds:List D),(∀ e,Fits e N os->aP e aY vs)/\
  (∀ e,Fits e N os->∀ j o,os[j]? = some o->∃ ob,W.heap[o.b]? = some ob/\OR e (N+j) o.ao ob)/\(∀ o∈os,wr o.ao=false)/\∀ H,Has H N os->DL H qM aY ds:=by
 induction h with
 | nil=>exact fun N=>⟨[],[],[],fun e _ => .nil e,fun e _ j o hj=>by simp at hj,fun o ho=>(by cases ho),fun H _ => .nil⟩
 | cons h k ih=>
  intro N
  obtain⟨a,os,d,a1,a2,a3,a4⟩:=al4 ml h N
  obtain⟨aY,Gb,ds,b1,b2,b3,b4⟩:=ih (N+os.length)
  refine⟨a::aY,os++Gb,d::ds,fun e he => .cons (a1 e he.app.1) (b1 e he.app.2),fun e he j o hj => ?_,fun o ho=>(abP.1 ho).elim (a3 o) (b3 o),fun H hH => .cons (a4 H hH.app.1) (b4 H hH.app.2)⟩
  obtain⟨f1,f2⟩:=he.app
  by_cases qj:j<os.length
  ·rw[abN qj] at hj
   exact a2 e f1 j o hj
  ·rw[abQ (by omega)] at hj
   obtain⟨ob,p,q⟩:=b2 e f2 _ o hj
   exact⟨ob,p,by rw[show N+j=N+os.length+(j-os.length) by omega];exact q⟩
def vW (N:Nat):List OB->List (Nat × AO)
 | []=>[]
 | o::os=>(N,o.ao)::vW (N+1) os
theorem abc:∀ (os:List OB) (N i:Nat) (o:AO),(i,o)∈vW N os->∃ j ob,os[j]? = some ob/\i=N+j/\o=ob.ao
 | [],N,i,o,h=>by cases h
 | ob::os,N,i,o,h=>by
  rcases abn.1 h with h | h
  ·cases h;exact⟨0,ob,rfl,rfl,rfl⟩
  ·obtain⟨j,oZ,h1,h2,h3⟩:=abc os (N+1) i o h
   exact⟨j+1,oZ,by simpa using h1,by omega,h3⟩
theorem Rz:∀ (os:List OB) (N:Nat) (t:Tr AO) (j:Nat) (o:OB),os[j]? = some o->(qY (vW N os) t).get (N+j)=some o.ao
 | [],N,t,j,o,h=>by simp at h
 | ob::os,N,t,0,o,h=>by
  cases h
  show (Tr.put 34 (qY (vW (N+1) os) t) N ob.ao).get N=_
  rw[Tr.put,Tr.fj,if_pos rfl]
 | ob::os,N,t,j+1,o,h=>by
  show (Tr.put 34 (qY (vW (N+1) os) t) N ob.ao).get (N+(j+1))=_
  rw[Tr.put,Tr.fj,if_neg (by omega),show N+(j+1)=N+1+j by omega]
  exact Rz os (N+1) t j o (by simpa using h)
theorem T6:∀ (os:List OB) (N:Nat) (t:Tr AO) (i:Nat),i<N->(qY (vW N os) t).get i=t.get i
 | [],N,t,i,h=>rfl
 | ob::os,N,t,i,h=>by
  show (Tr.put 34 (qY (vW (N+1) os) t) N ob.ao).get i=_
  rw[Tr.put,Tr.fj,if_neg (by omega)]
  exact T6 os (N+1) t i (by omega)
theorem W3 (el:Nat->TypeId):∀ (L:List (Nat × List AV)),(L.map (·.1)).Nodup->∀ g l,(g,l)∈L->(pO el L).get g=some (.cells (Tr.cC .nil 0 l) 0 l.length (el g) 2)
 | [],_,g,l,h=>by cases h
 | (g',l')::L,hn,g,l,h=>by
  rw[acJ,agQ] at hn
  rw[pO,Tr.put,Tr.fj]
  rcases abn.1 h with h | h
  ·cases h;rw[if_pos rfl]
  ·rw[if_neg (fun q=>hn.1 (by rw[<-q];exact acI.2 ⟨_,h,rfl⟩))]
   exact W3 el L hn.2 g l h
end
theorem Lp {α β:Type} {p:α->β->Prop}:∀ (j:Nat) (f:α) (q:β),([]:List α)[j]? = some f->([]:List β)[j]? = some q->p f q:=fun j f q h=>by simp at h
theorem gR {α β:Type} {p:α->β->Prop} {a:α} {b:β} {l:List α} {m:List β} (h:p a b) (k:∀ (j:Nat) (f:α) (q:β),l[j]? = some f->m[j]? = some q->p f q) :
  ∀ (j:Nat) (f:α) (q:β),(a::l)[j]? = some f->(b::m)[j]? = some q->p f q:=fun j f q h1 h2=>by
 cases j with
 | zero=>cases h1;cases h2;exact h
 | succ j=>exact k j f q (by simpa using h1) (by simpa using h2)
theorem row_of {H:Hp} {e:Ty} {α:Type} (f:α->AV) (ok:α->Prop) (hf:∀ l d,Is H e l d->∃ z,l=[f z]/\ok z) {x:AV} {d:D} (h:Is H (.slice 1 e) [x] d):∃ b:List α,Rw H 1 x (b.map f)/\∀ c∈b,ok c:=by
 cases h with
 | @slice _ _ _ l ds hr hl hd=>
  rw[aeu] at hl
  have key:∀ i,i<l.length->∃ z,l[i]? = some (f z)/\ok z:=by
   intro i hi
   obtain⟨z,h1,h2⟩:=hf _ _ (hd i ds[i] (aaM (by omega)))
   refine⟨z,?_,h2⟩
   have:((l.drop (i*1)).take 1)[0]? = some (f z):=by rw[h1];rfl
   rw[afW,if_pos (by omega),aeA,aeu,adx] at this
   exact this
  have:∃ b:List α,l=b.map f/\∀ c∈b,ok c:=by
   clear hr hl hd
   induction l with
   | nil=>exact⟨[],rfl,fun c hc=>by cases hc⟩
   | cons v l ih=>
    obtain⟨z,h1,h2⟩:=key 0 (by simp)
    obtain⟨b,h3,h4⟩:=ih fun i hi=>by
     obtain⟨z,a,c⟩:=key (i+1) (by simpa using hi)
     exact⟨z,by simpa using a,c⟩
    simp only[acP,acu] at h1
    refine⟨z::b,by rw[acJ,h1,<-h3],fun c hc => ?_⟩
    rcases abn.1 hc with rfl | hc
    ·exact h2
    ·exact h4 c hc
  obtain⟨b,rfl,hb⟩:=this
  exact⟨b,hr,hb⟩
theorem aah {H:Hp} {e:Ty} {sz:Nat} {a:AV} {d:D} (h:Qb H (.slice sz e) a d):Is H (.slice sz e) [a] d:=by
 obtain⟨l,rfl,h⟩:=h
 cases h with
 | slice hr hl hd=>exact .slice hr hl hd
end K
end Go.Proofs.YtodfajmihkagnaaGreatDoor.Am
