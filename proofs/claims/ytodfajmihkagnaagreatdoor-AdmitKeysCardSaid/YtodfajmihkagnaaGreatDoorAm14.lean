/- A law's argument, off its reading as data, in the symbolic heap (of no program). -/
import Derived.Test.YtodfajmihkagnaaGreatDoorAm13
import Derived.Deep.Slices
set_option linter.unusedVariables false
set_option linter.unusedSimpArgs false
namespace Go.Proofs.YtodfajmihkagnaaGreatDoor.Am
open Go.Deep
set_option linter.unusedVariables false
set_option linter.unusedSimpArgs false
namespace K
inductive Ty where
 | bool
 | int (k:IntKind)
 | str
 | slice (sz:Nat) (e:Ty)
 | struct (n:Nat) (fs:List (Nat × Nat × Ty))
inductive D where
 | b (x:Bool)
 | i (x:Int)
 | s (x:List Nat)
 | row (l:List D)
 | st (l:List D)
 deriving Inhabited
def tt:List (Nat × Nat × Ty)->Nat->Nat->Prop
 | [],a,n=>a=n
 | q::r,a,n=>q.1=a/\tt r (a+q.2.1) n
theorem tt.le:∀ (fs:List (Nat × Nat × Ty)) (a n:Nat),tt fs a n->a<=n
 | [],a,n,h=>Nat.le_of_eq h
 | q::r,a,n,h=>af2 (Nat.le_add_right _ _) (tt.le r _ n h.2)
theorem tt.lo:∀ (fs:List (Nat × Nat × Ty)) (a n:Nat),tt fs a n->∀ q∈fs,a<=q.1/\q.1+q.2.1<=n
 | q::r,a,n,h,x,hx=>by
  rcases aaD.1 hx with rfl | hx
  ·have:=tt.le r _ n h.2
   have:=h.1
   omega
  ·have:=tt.lo r _ n h.2 x hx
   omega
inductive xi (P:Program):Ty->TypeId->Prop
 | bool {t:TypeId} (h:P.underlying t=some .bool):xi P .bool t
 | int {t:TypeId} {k:IntKind} (h:P.underlying t=some (.int k)):xi P (.int k) t
 | str {t:TypeId} (h:P.underlying t=some .string):xi P .str t
 | slice {t e:TypeId} {sz:Nat} {ty:Ty} (h:P.underlying t=some (.slice e)) (hs:P.cellsOf e=sz) (h0:0<sz) (he:xi P ty e):xi P (.slice sz ty) t
 | struct {t:TypeId} {n:Nat} {fs:Array Field} {AK:List (Nat × Nat × Ty)} (h:P.underlying t=some (.struct fs)) (hn:P.cellsOf t=n) (hl:AK.length=fs.toList.length) (hc:tt AK 0 n)
   (hf:∀ (j:Nat) (f:Field) (q:Nat × Nat × Ty),fs.toList[j]? = some f->AK[j]? = some q->q.1=f.offset/\q.2.1=P.cellsOf f.type) (ht:∀ (j:Nat) (f:Field) (q:Nat × Nat × Ty),fs.toList[j]? = some f->AK[j]? = some q->xi P q.2.2 f.type):xi P (.struct n AK) t
inductive Is (H:Hp):Ty->List AV->D->Prop
 | bool (b:Bool):Is H .bool [.bool b] (.b b)
 | int (k:IntKind) (z:Int) (h:k.min<=z/\z<=k.max):Is H (.int k) [.int k z] (.i z)
 | str (s:List Nat) (h:∀ c∈s,c<256) (hl:s.length<=reachBytes):Is H .str [.str s] (.s s)
 | slice {sz:Nat} {e:Ty} {x:AV} {l:List AV} {ds:List D} (hr:Rw H sz x l) (hl:l.length=ds.length*sz) (hd:∀ (i:Nat) (d:D),ds[i]? = some d->Is H e ((l.drop (i*sz)).take sz) d):Is H (.slice sz e) [x] (.row ds)
 | struct {n:Nat} {fs:List (Nat × Nat × Ty)} {l:List AV} {ds:List D} (hl:l.length=n) (hn:ds.length=fs.length)
   (hd:∀ (j:Nat) (q:Nat × Nat × Ty) (d:D),fs[j]? = some q->ds[j]? = some d->Is H q.2.2 ((l.drop q.1).take q.2.1) d):Is H (.struct n fs) l (.st ds)
structure OB where
 ao:AO
 b:Nat
 n:Nat
def Fits (e:Em)(N:Nat)(os:List OB):Prop:=N+os.length<=e.N/\∀ j o,os[j]? = some o->e.b (N+j)=o.b/\e.d (N+j)=0/\e.n (N+j)=o.n
def Has (H:Hp)(N:Nat)(os:List OB):Prop:=N+os.length<=H.next/\∀ j o,os[j]? = some o->H.h.get (N+j)=some o.ao
theorem Fits.app {e:Em}{N:Nat}{a b:List OB}(h:Fits e N (a++b)):Fits e N a/\Fits e (N+a.length) b:=by
 obtain⟨h1,h2⟩:=h
 rw[aaX] at h1
 refine⟨⟨by omega,fun j o hj=>h2 j o ?_⟩,by omega,fun j o hj => ?_⟩
 ·rw[abO (aah.1 hj).1];exact hj
 ·rw[ahI]
  exact h2 _ o (by rw[abT (by omega),aep];exact hj)
theorem Has.app {H:Hp}{N:Nat}{a b:List OB}(h:Has H N (a++b)):Has H N a/\Has H (N+a.length) b:=by
 obtain⟨h1,h2⟩:=h
 rw[aaX] at h1
 refine⟨⟨by omega,fun j o hj=>h2 j o ?_⟩,by omega,fun j o hj => ?_⟩
 ·rw[abO (aah.1 hj).1];exact hj
 ·rw[ahI]
  exact h2 _ o (by rw[abT (by omega),aep];exact hj)
structure QD (W:World)(ty:Ty)(cs:List Value)(N:Nat)(l:List AV)(os:List OB)(d:D):Prop where
 len:l.length=cs.length
 vr:∀ e,Fits e N os->aP e l cs
 or:∀ e,Fits e N os->∀ j o,os[j]? = some o->∃ ob,W.heap[o.b]? = some ob/\OR e (N+j) o.ao ob
 wr:∀ o∈os,wr o.ao=false
 is:∀ H,Has H N os->Is H ty l d
section
variable {Q:Type}{enc:TypeId × Value->Q}{P:Program}{W:World}{base:Nat}{spare:Nat->Bool}{held:Bool}
theorem ZZ {ty:Ty}{sz:Nat}(C:Nat->List Value)(hC:∀ i,(C i).length=sz):∀ (n k:Nat),(∀ i,k<=i->i<k+n->∀ N,∃ l os d,QD W ty (C i) N l os d)->∀ N,∃ (L:List AV) (os:List OB) (ds:List D),L.length=n*sz/\ds.length=n/\
  (∀ e,Fits e N os->aP e L ((List.range' k n).flatMap C))/\(∀ e,Fits e N os->∀ j o,os[j]? = some o->∃ ob,W.heap[o.b]? = some ob/\OR e (N+j) o.ao ob)/\(∀ o∈os,wr o.ao=false)/\
  ∀ H,Has H N os->∀ i d,ds[i]? = some d->Is H ty ((L.drop (i*sz)).take sz) d
 | 0,k,h,N=>⟨[],[],[],by simp,rfl,fun e _ => .nil e,fun e _ j o hj=>by simp at hj,fun o ho=>(by cases ho),fun H _ i d hd=>by simp at hd⟩
 | n+1,k,h,N=>by
  obtain⟨l,os,d,o1⟩:=h k (aaC _) (by omega) N
  obtain⟨L,FQ,ds,h1,h2,h3,h4,h5,h6⟩:=ZZ C hC n (k+1) (fun i a b=>h i (by omega) (by omega)) (N+os.length)
  have hl:l.length=sz:=by rw[o1.len,hC]
  refine⟨l++L,os++FQ,d::ds,by rw[aaX,h1,hl,Nat.succ_mul];omega,by simp[h2],fun e he => ?_,fun e he j o hj => ?_,fun o ho => ?_,fun H hH i x hx => ?_⟩
  ·obtain⟨f1,f2⟩:=he.app
   rw[aiO,List.flatMap_cons]
   exact (o1.vr e f1).append (h3 e f2)
  ·obtain⟨f1,f2⟩:=he.app
   by_cases pV:j<os.length
   ·rw[abO pV] at hj
    exact o1.or e f1 j o hj
   ·rw[abT (by omega)] at hj
    obtain⟨ob,a,b⟩:=h4 e f2 _ o hj
    exact⟨ob,a,by rw[show N+j=N+os.length+(j-os.length) by omega];exact b⟩
  ·exact (abL.1 ho).elim (o1.wr o) (h5 o)
  ·obtain⟨f1,f2⟩:=hH.app
   cases i with
   | zero=>
    cases hx
    rw[ahi,acI,List.take_append_of_le_length (by omega),ae3 (by omega)]
    exact o1.is H f1
   | succ i=>
    have:=h6 H f2 i x (by simpa using hx)
    rw[Nat.succ_mul,Nat.add_comm,<-List.drop_drop,List.drop_left' hl]
    exact this
theorem WS (cs:List Value)(n:Nat)(fu:cs.length=n):∀ (fs:List (Nat × Nat × Ty)) (a:Nat),tt fs a n->(∀ q∈fs,∀ N,∃ l os d,QD W q.2.2 ((cs.drop q.1).take q.2.1) N l os d)->∀ N,∃ (L:List AV) (os:List OB) (ds:List D),L.length=n-a/\ds.length=fs.length/\
  (∀ e,Fits e N os->aP e L (cs.drop a))/\(∀ e,Fits e N os->∀ j o,os[j]? = some o->∃ ob,W.heap[o.b]? = some ob/\OR e (N+j) o.ao ob)/\(∀ o∈os,wr o.ao=false)/\
  ∀ H,Has H N os->∀ (j:Nat) (q:Nat × Nat × Ty) (d:D),fs[j]? = some q->ds[j]? = some d->Is H q.2.2 ((L.drop (q.1-a)).take q.2.1) d
 | [],a,hc,h,N=>by
  have ha:a=n:=hc
  refine⟨[],[],[],by simp;omega,rfl,fun e _ => ?_,fun e _ j o hj=>by simp at hj,fun o ho=>(by cases ho),fun H _ j q d x=>by simp at x⟩
  rw[List.drop_eq_nil_of_le (by omega)];exact .nil e
 | q::fs,a,hc,h,N=>by
  obtain⟨l,os,d,o1⟩:=h q (.head _) N
  obtain⟨L,FQ,ds,h1,h2,h3,h4,h5,h6⟩:=WS cs n fu fs (a+q.2.1) hc.2 (fun q hq=>h q (.tail _ hq)) (N+os.length)
  have VC:=hc.1
  have hle:=tt.le fs _ n hc.2
  have hl:l.length=q.2.1:=by rw[o1.len,aes,agf];omega
  refine⟨l++L,os++FQ,d::ds,by rw[aaX,h1,hl];omega,by simp[h2],fun e he => ?_,fun e he j o hj => ?_,fun o ho=>(abL.1 ho).elim (o1.wr o) (h5 o),fun H hH j q' d' x y => ?_⟩
  ·obtain⟨f1,f2⟩:=he.app
   have:=(o1.vr e f1).append (h3 e f2)
   rw[VC,<-List.drop_drop,ahH] at this
   exact this
  ·obtain⟨f1,f2⟩:=he.app
   by_cases pV:j<os.length
   ·rw[abO pV] at hj
    exact o1.or e f1 j o hj
   ·rw[abT (by omega)] at hj
    obtain⟨ob,a,b⟩:=h4 e f2 _ o hj
    exact⟨ob,a,by rw[show N+j=N+os.length+(j-os.length) by omega];exact b⟩
  ·obtain⟨f1,f2⟩:=hH.app
   cases j with
   | zero=>
    cases x;cases y
    rw[VC,ahb,acI,List.take_append_of_le_length (by omega),ae3 (by omega)]
    exact o1.is H f1
   | succ j=>
    have x':fs[j]? = some q':=by simpa using x
    have:=h6 H f2 j q' d' x' (by simpa using y)
    have gX:=(tt.lo fs _ n hc.2 q' (aao x')).1
    rw[show q'.1-a=l.length+(q'.1-(a+q.2.1)) by omega,<-List.drop_drop,List.drop_left]
    exact this
theorem UH {α:Type}(C:Nat->List α){sz:Nat}(hC:∀ i,(C i).length=sz):∀ (n k j r:Nat),j<n->r<sz->((List.range' k n).flatMap C)[j*sz+r]? = (C (k+j))[r]?
 | 0,k,j,r,h,_=>by omega
 | n+1,k,j,r,h,hr=>by
  rw[aiO,List.flatMap_cons]
  cases j with
  | zero=>rw[ahi,adG,abO (by rw[hC];exact hr),aej]
  | succ j=>
   rw[Nat.succ_mul,abT (by rw[hC];omega),hC,show j*sz+sz+r-sz=j*sz+r by omega,UH C hC n (k+1) j r (by omega) hr]
   congr 2;omega
theorem ac2 (b off m n:Nat):((⟨b,off,none⟩:Addr).add m).add n=⟨b,off+m+n,none⟩:=by
 unfold Addr.add
 by_cases hm:m=0<;>by_cases hn:n=0<;>simp[hm,hn]
theorem ab1 {e:TypeId}{k:Nat}{d:DataW Q}:∀ {l:List (DataW Q)},d∈l->k∈d.weights P e->k∈DataW.weightsAll P e l
 | x::l,h,hk=>by
  rw[DataW.weightsAll]
  rcases aaD.1 h with rfl | h
  ·exact abG _ hk
  ·exact abr _ (ab1 h hk)
theorem KV {k:Nat}{d:DataW Q}{t:TypeId}:∀ {ts:List TypeId} {ds:List (DataW Q)} {j:Nat},ts[j]? = some t->ds[j]? = some d->k∈d.weights P t->k∈DataW.weightsEach P ts ds
 | [],ds,j,h,_,_=>by simp at h
 | t0::ts,[],j,_,h,_=>by simp at h
 | t0::ts,d0::ds,0,h1,h2,hk=>by
  rw[DataW.weightsEach]
  cases h1;cases h2
  exact abG _ hk
 | t0::ts,d0::ds,j+1,h1,h2,hk=>by
  rw[DataW.weightsEach]
  exact abr _ (KV (j:=j) (by simpa using h1) (by simpa using h2) hk)
theorem ae8 (mh:∀ b,spare b=true){ty:Ty}{t:TypeId}(ht:xi P ty t):∀ (fuel:Nat) (cs:List Value) (x:DataW Q × List MemPlace),DataW.trod enc P W base spare held fuel t cs=some x->(∀ k∈x.1.weights P t,k<=reachBytes)->∀ N,∃ l os d,QD W ty cs N l os d:=by
 induction ht with
 | bool hu=>
  intro fuel cs x h vQ N
  obtain⟨b,rfl,_⟩:=DataW.trod_bool hu h
  exact⟨[.bool b],[],.b b,rfl,fun e _ => .cons (.bool b) (.nil e),fun e _ j o hj=>by simp at hj,fun o ho=>(by cases ho),fun H _ => .bool b⟩
 | @int t k hu=>
  intro fuel cs x h vQ N
  obtain⟨z,rfl,_,hw⟩:=DataW.trod_int hu h
  refine⟨[.int k z],[],.i z,rfl,fun e _ => .cons (.int k z) (.nil e),fun e _ j o hj=>by simp at hj,fun o ho=>(by cases ho),fun H _ => .int k z ?_⟩
  simpa[Lit.wf] using hw
 | str hu=>
  intro fuel cs x h vQ N
  obtain⟨s,rfl,G4,hs⟩:=DataW.trod_string hu h
  refine⟨[.str (bytes s)],[],.s (bytes s),rfl,fun e _ => .cons (.str s) (.nil e),fun e _ j o hj=>by simp at hj,fun o ho=>(by cases ho),fun H _ => .str _ (fun c hc => ?_) ?_⟩
  ·obtain⟨u,_,rfl⟩:=acS.1 hc
   exact u.toNat_lt
  ·unfold bytes;rw[ads];exact vQ _ (by rw[G4];simp[DataW.weights])
 | @slice t e sz ty hu hs h0 he ih=>
  intro fuel cs x h vQ N
  rcases open_slice hu h with⟨rfl,_⟩ | ⟨a,len,cap,m,n,D',Pl,rfl,hb,hl,hm,Dd,G4,hx⟩
  ·exact⟨[.ah],[],.row [],rfl,fun e _ => .cons .ah (.nil e),fun e _ j o hj=>by simp at hj,fun o ho=>(by cases ho),fun H _ => .slice .nil (by simp) fun i d hd=>by simp at hd⟩
  rw[mh,if_pos rfl] at Dd
  subst Dd
  rw[hs] at hx
  by_cases CY:m=0
  ·subst CY
   obtain rfl:len=0:=by omega
   exact⟨[.slice 0 0 0 0 true sz],[],.row [],rfl,fun e _ => .cons (.yK 0 0 true sz a) (.nil e),fun e _ j o hj=>by simp at hj,fun o ho=>(by cases ho),fun H _ => .slice .emp (by simp) fun i d hd=>by simp at hd⟩
  obtain⟨V,hV⟩:=choose_lt (α:=List Value) (p:=fun i DT=>W.cells? base (a.add (i*sz)) sz=some DT/\DataW.trod enc P W base spare held n e DT=some (D' i,Pl i)) (fun i hi=>hx i hi)
  have xN:∀ i,i<m->(V i).length=sz/\∀ r,r<sz->W.cell? ((a.add (i*sz)).add r)=(V i)[r]? := fun i hi=>(World.cells?_some (hV i hi).1).2
  obtain⟨b,off,sp⟩:=a
  have alx:sp=none:=by
   have h1:=(xN 0 (by omega)).2 0 h0
   have h2:=(xN 0 (by omega)).1
   rw[ahi,aai (by omega)] at h1
   have e0:((⟨b,off,sp⟩:Addr).add 0).add 0=⟨b,off,sp⟩:=by simp[Addr.add]
   rw[e0] at h1
   cases sp with
   | none=>rfl
   | some y=>
    exfalso
    unfold World.cell? at h1
    split at h1
    ·simp at h1
    ·cases h1
  subst alx
  have QI:∀ i r,i<m->r<sz->W.cell? ⟨b,off+i*sz+r,none⟩=(V i)[r]? := fun i r hi hr=>by
   rw[<- (xN i hi).2 r hr,ac2]
  have Hd:∃ C el fz,W.heap[b]? = some (.cells C el fz)/\∀ k v,W.cell? ⟨b,k,none⟩=some v->C[k]? = some v:=by
   have h1:=QI 0 0 (by omega) h0
   have h2:=(xN 0 (by omega)).1
   rw[aai (by omega)] at h1
   unfold World.cell? at h1
   split at h1
   ·rename_i C el fz hw
    refine⟨C,el,fz,hw,fun k v hk => ?_⟩
    unfold World.cell? at hk
    simp only[hw] at hk
    simpa using hk
   ·cases h1
  obtain⟨C,el,fz,hw,hC⟩:=Hd
  have hCm:off+m*sz<=C.size:=by
   have h1:=QI (m-1) (sz-1) (by omega) (by omega)
   have h2:=(xN (m-1) (by omega)).1
   rw[aai (by omega)] at h1
   have:=(abZ.1 (hC _ _ h1)).1
   have e1:(m-1)*sz+sz=m*sz:=by rw[<-Nat.succ_mul];congr 1;omega
   omega
  have Y2:∀ i,(if i<m then V i else List.replicate sz Value.nilFunc).length=sz:=fun i=>by
   split
   ·exact (xN i (by assumption)).1
   ·simp
  obtain⟨L,os,ds,o1,o2,o3,o4,o5,o6⟩:=ZZ (W:=W) (ty:=ty) (fun i=>if i<m then V i else List.replicate sz Value.nilFunc) Y2 len 0 (fun i _ hi N=>by
   have him:i<m:=by omega
   simp only[him,if_true]
   exact ih n (V i) _ (hV i him).2 (fun k hk=>vQ k (by
    rw[G4]
    simp only[DataW.weights,hu]
    exact .tail _ (abG _ (ab1 (List.mem_map_of_mem (aiA.2 (by omega))) hk)))) N) (N+1)
  have Ir:∀ e,Fits e N (⟨.cells (Tr.bY .nil off L) off (off+L.length) el 2,b,C.size⟩::os)->N<e.N/\e.b N=b/\e.d N=0/\e.n N=C.size/\Fits e (N+1) os:=by
   intro e he
   have h1:=he.2 0 _ rfl
   have h2:=(Fits.app (a:=[⟨.cells (Tr.bY .nil off L) off (off+L.length) el 2,b,C.size⟩]) (b:=os) he).2
   have h3:=he.1
   simp only[aaL] at h3
   exact⟨by omega,h1.1,h1.2.1,h1.2.2,h2⟩
  refine⟨[.slice N off len m true sz],⟨.cells (Tr.bY .nil off L) off (off+L.length) el 2,b,C.size⟩::os,.row ds,rfl,fun e he => ?_,fun e he j o hj => ?_,fun o ho => ?_,fun H hH => ?_⟩
  ·obtain⟨f1,f2,f3,f4,f5⟩:=Ir e he
   refine .cons ?_ (.nil e)
   have:=VR.slice (e:=e) N off len m true sz off m f1 (by rw[f3];simp) hl (aaC _) (fun _=>rfl) (by rw[f4];exact hCm)
   rw[f2] at this
   exact this
  ·obtain⟨f1,f2,f3,f4,f5⟩:=Ir e he
   cases j with
   | zero=>
    cases hj
    refine⟨_,hw,?_⟩
    refine .cells _ off (off+L.length) el 2 C fz f4.symm (fun k v tB fN hk => ?_) (by simp) (by simp) (fun _=>f3)
    rw[Tr.um,if_pos ⟨tB,fN⟩] at hk
    obtain⟨v',bQ,gZ⟩:=(o3 e f5).get hk
    refine⟨k,by rw[aej,f3];simp,v',?_,gZ⟩
    have hq:k-off<len*sz:=by omega
    have hi:(k-off) / sz<len:=Nat.div_lt_of_lt_mul (by rw[Nat.mul_comm];exact hq)
    have hr:(k-off) % sz<sz:=Nat.mod_lt _ h0
    have hd:(k-off) / sz*sz+(k-off) % sz=k-off:=by rw[Nat.mul_comm];exact Nat.div_add_mod _ _
    have h1:=UH _ Y2 len 0 _ _ hi hr
    rw[hd,adG,if_pos (by omega)] at h1
    have abo:(List.flatMap (fun i=>if i<m then V i else List.replicate sz Value.nilFunc) (List.range' 0 len))[k-off]? = some v':=bQ
    rw[h1,<-QI _ _ (by omega) hr] at abo
    have:=hC _ _ abo
    rw[show off+(k-off) / sz*sz+(k-off) % sz=k by omega] at this
    exact this
   | succ j=>
    obtain⟨ob,h1,h2⟩:=o4 e f5 j o (by simpa using hj)
    exact⟨ob,h1,by rw[show N+(j+1)=N+1+j by omega];exact h2⟩
  ·rcases aaD.1 ho with rfl | ho
   ·rfl
   ·exact o5 o ho
  ·have h1:=hH.2 0 _ rfl
   have h2:=(Has.app (a:=[⟨.cells (Tr.bY .nil off L) off (off+L.length) el 2,b,C.size⟩]) (b:=os) hH).2
   have h3:=hH.1
   simp only[aaL] at h3
   refine .slice (l:=L) (.mk ⟨by omega,_,_,_,_,_,h1,aaC _,aaC _,fun k v hk => ?_⟩ o1 hl ?_) (by rw[o1,o2]) (o6 H h2)
   ·have:=(aah.1 hk).1
    rw[Tr.um,if_pos ⟨by omega,by omega⟩,<-hk]
    congr 1;omega
   ·rw[oC CY];rfl
 | @struct t n fs AK hu hn hl hc hf ht ih=>
  intro fuel cs x h vQ N
  obtain⟨xs,n',_,G4,lq,eg,jY⟩:=DataW.trod_struct hu h
  obtain⟨L,os,ds,o1,o2,o3,o4,o5,o6⟩:=WS (W:=W) cs n (by rw[lq,hn]) AK 0 hc (fun q hq N=>by
   obtain⟨j,hj⟩:=adi hq
   have pV:j<fs.toList.length:=by rw[<-hl];exact (aah.1 hj).1
   have Lb:fs.toList[j]? = some fs.toList[j]:=aai pV
   obtain⟨e1,e2⟩:=hf j _ q Lb hj
   have SG:=jY j fs.toList[j] (by rw[<-adS];exact Lb)
   have hjx:j<xs.length:=by rw[eg];simpa using pV
   have tY:xs[j]? = some xs[j]:=aai hjx
   rw[tY] at SG
   rw[e1,e2]
   exact ih j _ q Lb hj n' _ _ SG (fun k hk=>vQ k (by
    rw[G4]
    simp only[DataW.weights,hu]
    exact KV (j:=j) (by rw[adL,Lb];rfl) (by rw[adL,tY];rfl) hk)) N) N
  refine⟨L,os,.st ds,by rw[o1,lq,hn,agq],fun e he => ?_,o4,o5,fun H hH => .struct (by rw[o1,agq]) o2 fun j q d h1 h2 => ?_⟩
  ·have:=o3 e he
   rw[acI] at this
   exact this
  ·have:=o6 H hH j q d h1 h2
   rw[agq] at this
   exact this
def IV:Ty->List AV->AV
 | .struct _ _,l => .agg l
 | _,l=>l.headD .cP
def Pb:Ty->Bool
 | .struct _ _=>true
 | _=>false
structure KB (enc:TypeId × Value->Q)(P:Program)(W:World)(base:Nat)(spare:Nat->Bool)(held:Bool)(ty:Ty)(t:TypeId)(v:Value):Prop where
 of:xi P ty t
 rd:∃ fuel x,DataW.trod enc P W base spare held fuel t v.cells.toList=some x/\∀ k∈x.1.weights P t,k<=reachBytes
 st:Pb ty=true->∃ cs,v = .agg cs
 one:Pb ty=false->v.cells = #[v]
def Kn (H:Hp)(ty:Ty)(a:AV)(d:D):Prop:=∃ l,a=IV ty l/\Is H ty l d
inductive FE (enc:TypeId × Value->Q) (P:Program) (W:World) (base:Nat) (spare:Nat->Bool) (held:Bool):List Ty->List Value->Prop
 | nil:FE enc P W base spare held [] []
 | cons {ty:Ty} {t:TypeId} {v:Value} {rm:List Ty} {vs:List Value} (h:KB enc P W base spare held ty t v) (k:FE enc P W base spare held rm vs):FE enc P W base spare held (ty::rm) (v::vs)
inductive Dm (H:Hp):List Ty->List AV->List D->Prop
 | nil:Dm H [] [] []
 | cons {ty:Ty} {a:AV} {d:D} {rm:List Ty} {aR:List AV} {ds:List D} (h:Kn H ty a d) (k:Dm H rm aR ds):Dm H (ty::rm) (a::aR) (d::ds)
theorem aon (mh:∀ b,spare b=true){ty:Ty}{t:TypeId}{v:Value}(h:KB enc P W base spare held ty t v)(N:Nat):∃ (a:AV) (os:List OB) (d:D),(∀ e,Fits e N os->VR e a v)/\
  (∀ e,Fits e N os->∀ j o,os[j]? = some o->∃ ob,W.heap[o.b]? = some ob/\OR e (N+j) o.ao ob)/\(∀ o∈os,wr o.ao=false)/\∀ H,Has H N os->Kn H ty a d:=by
 obtain⟨fuel,x,hx,hxw⟩:=h.rd
 obtain⟨l,os,d,o⟩:=ae8 mh h.of fuel _ x hx hxw N
 refine⟨IV ty l,os,d,fun e he => ?_,o.or,o.wr,fun H hH=>⟨l,rfl,o.is H hH⟩⟩
 have hv:=o.vr e he
 cases aC:Pb ty with
 | true=>
  obtain⟨cs,rfl⟩:=h.st aC
  have:IV ty l = .agg l:=by cases ty<;>first | rfl | cases aC
  rw[this]
  have:=VR.aaM hv
  simpa[Value.cells] using this
 | false=>
  have h1:=h.one aC
  rw[h1] at hv
  have hl:l.length=1:=by rw[o.len,h1];rfl
  match l,hl with
  | [a],_=>
   have:IV ty [a]=a:=by cases ty<;>first | rfl | cases aC
   rw[this]
   exact hv.2 0 a v rfl rfl
theorem ahu (mh:∀ b,spare b=true){rm:List Ty}{vs:List Value}(h:FE enc P W base spare held rm vs):∀ N,∃ (aR:List AV) (os:List OB) (ds:List D),(∀ e,Fits e N os->aP e aR vs)/\
  (∀ e,Fits e N os->∀ j o,os[j]? = some o->∃ ob,W.heap[o.b]? = some ob/\OR e (N+j) o.ao ob)/\(∀ o∈os,wr o.ao=false)/\∀ H,Has H N os->Dm H rm aR ds:=by
 induction h with
 | nil=>exact fun N=>⟨[],[],[],fun e _ => .nil e,fun e _ j o hj=>by simp at hj,fun o ho=>(by cases ho),fun H _ => .nil⟩
 | cons h k ih=>
  intro N
  obtain⟨a,os,d,a1,a2,a3,a4⟩:=aon mh h N
  obtain⟨aR,FQ,ds,b1,b2,b3,b4⟩:=ih (N+os.length)
  refine⟨a::aR,os++FQ,d::ds,fun e he => .cons (a1 e he.app.1) (b1 e he.app.2),fun e he j o hj => ?_,fun o ho=>(abL.1 ho).elim (a3 o) (b3 o),fun H hH => .cons (a4 H hH.app.1) (b4 H hH.app.2)⟩
  obtain⟨f1,f2⟩:=he.app
  by_cases pV:j<os.length
  ·rw[abO pV] at hj
   exact a2 e f1 j o hj
  ·rw[abT (by omega)] at hj
   obtain⟨ob,p,q⟩:=b2 e f2 _ o hj
   exact⟨ob,p,by rw[show N+j=N+os.length+(j-os.length) by omega];exact q⟩
def vo (N:Nat):List OB->List (Nat × AO)
 | []=>[]
 | o::os=>(N,o.ao)::vo (N+1) os
theorem WM:∀ (os:List OB) (N i:Nat) (o:AO),(i,o)∈vo N os->∃ j ob,os[j]? = some ob/\i=N+j/\o=ob.ao
 | [],N,i,o,h=>by cases h
 | ob::os,N,i,o,h=>by
  rcases aaD.1 h with h | h
  ·cases h;exact⟨0,ob,rfl,rfl,rfl⟩
  ·obtain⟨j,pf,h1,h2,h3⟩:=WM os (N+1) i o h
   exact⟨j+1,pf,by simpa using h1,by omega,h3⟩
theorem Tu:∀ (os:List OB) (N:Nat) (t:Tr AO) (j:Nat) (o:OB),os[j]? = some o->(rf (vo N os) t).get (N+j)=some o.ao
 | [],N,t,j,o,h=>by simp at h
 | ob::os,N,t,0,o,h=>by
  cases h
  show (Tr.put 34 (rf (vo (N+1) os) t) N ob.ao).get N=_
  rw[Tr.put,Tr.fj,if_pos rfl]
 | ob::os,N,t,j+1,o,h=>by
  show (Tr.put 34 (rf (vo (N+1) os) t) N ob.ao).get (N+(j+1))=_
  rw[Tr.put,Tr.fj,if_neg (by omega),show N+(j+1)=N+1+j by omega]
  exact Tu os (N+1) t j o (by simpa using h)
theorem abB:∀ (os:List OB) (N:Nat) (t:Tr AO) (i:Nat),i<N->(rf (vo N os) t).get i=t.get i
 | [],N,t,i,h=>rfl
 | ob::os,N,t,i,h=>by
  show (Tr.put 34 (rf (vo (N+1) os) t) N ob.ao).get i=_
  rw[Tr.put,Tr.fj,if_neg (by omega)]
  exact abB os (N+1) t i (by omega)
theorem Zt (el:Nat->TypeId):∀ (L:List (Nat × List AV)),(L.map (·.1)).Nodup->∀ g l,(g,l)∈L->(qw el L).get g=some (.cells (Tr.bY .nil 0 l) 0 l.length (el g) 2)
 | [],_,g,l,h=>by cases h
 | (g',l')::L,hn,g,l,h=>by
  rw[acW,ahG] at hn
  rw[qw,Tr.put,Tr.fj]
  rcases aaD.1 h with h | h
  ·cases h;rw[if_pos rfl]
  ·rw[if_neg (fun q=>hn.1 (by rw[<-q];exact acS.2 ⟨_,h,rfl⟩))]
   exact Zt el L hn.2 g l h
end
theorem ah8 {H:Hp}{k:IntKind}{a:AV}{d:D}(h:Kn H (.int k) a d):∃ z,a = .int k z/\k.min<=z/\z<=k.max:=by
 obtain⟨l,rfl,h⟩:=h
 cases h with
 | int k z h=>exact⟨z,rfl,h⟩
theorem alk {H:Hp}{a:AV}{d:D}(h:Kn H .str a d):∃ s,a = .str s/\(∀ c∈s,c<256)/\s.length<=reachBytes:=by
 obtain⟨l,rfl,h⟩:=h
 cases h with
 | str s h hl=>exact⟨s,rfl,h,hl⟩
end K
end Go.Proofs.YtodfajmihkagnaaGreatDoor.Am
