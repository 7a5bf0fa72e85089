/- A law's argument, off its reading as data, in the symbolic heap (of no program). -/
import Derived.Test.YtodfajmihkagnaaGreatDoorAm13
import Derived.Deep.Slices
set_option linter.unusedVariables false
set_option linter.unusedSimpArgs false
namespace Go.Proofs.YtodfajmihkagnaaGreatDoor.Am
open Go.Deep
set_option linter.unusedVariables false
set_option linter.unusedSimpArgs false
namespace K
inductive Ty where
 | bool
 | int (k:IntKind)
 | str
 | slice (sz:Nat) (e:Ty)
 | struct (n:Nat) (fs:List (Nat × Nat × Ty))
inductive D where
 | b (x:Bool)
 | i (x:Int)
 | s (x:List Nat)
 | row (l:List D)
 | st (l:List D)
 deriving Inhabited
def vP:List (Nat × Nat × Ty)->Nat->Nat->Prop
 | [],a,n=>a=n
 | q::r,a,n=>q.1=a/\vP r (a+q.2.1) n
theorem vP.le:∀ (fs:List (Nat × Nat × Ty)) (a n:Nat),vP fs a n->a<=n
 | [],a,n,h=>Nat.le_of_eq h
 | q::r,a,n,h=>ahS (Nat.le_add_right _ _) (vP.le r _ n h.2)
theorem vP.lo:∀ (fs:List (Nat × Nat × Ty)) (a n:Nat),vP fs a n->∀ q∈fs,a<=q.1/\q.1+q.2.1<=n
 | q::r,a,n,h,x,hx=>by
  rcases aa7.1 hx with rfl | hx
  ·have:=vP.le r _ n h.2
   have:=h.1
   omega
  ·have:=vP.lo r _ n h.2 x hx
   omega
inductive zy (P:Program):Ty->TypeId->Prop
 | bool {t:TypeId} (h:P.underlying t=some .bool):zy P .bool t
 | int {t:TypeId} {k:IntKind} (h:P.underlying t=some (.int k)):zy P (.int k) t
 | str {t:TypeId} (h:P.underlying t=some .string):zy P .str t
 | slice {t e:TypeId} {sz:Nat} {ty:Ty} (h:P.underlying t=some (.slice e)) (hs:P.cellsOf e=sz) (h0:0<sz) (he:zy P ty e):zy P (.slice sz ty) t
 | struct {t:TypeId} {n:Nat} {fs:Array Field} {Cu:List (Nat × Nat × Ty)} (h:P.underlying t=some (.struct fs)) (hn:P.cellsOf t=n) (hl:Cu.length=fs.toList.length) (hc:vP Cu 0 n)
   (hf:∀ (j:Nat) (f:Field) (q:Nat × Nat × Ty),fs.toList[j]? = some f->Cu[j]? = some q->q.1=f.offset/\q.2.1=P.cellsOf f.type) (ht:∀ (j:Nat) (f:Field) (q:Nat × Nat × Ty),fs.toList[j]? = some f->Cu[j]? = some q->zy P q.2.2 f.type):zy P (.struct n Cu) t
inductive Is (H:Hp):Ty->List AV->D->Prop
 | bool (b:Bool):Is H .bool [.bool b] (.b b)
 | int (k:IntKind) (z:Int) (h:k.min<=z/\z<=k.max):Is H (.int k) [.int k z] (.i z)
 | str (s:List Nat) (h:∀ c∈s,c<256) (hl:s.length<=reachBytes):Is H .str [.str s] (.s s)
 | slice {sz:Nat} {e:Ty} {x:AV} {l:List AV} {ds:List D} (hr:Rw H sz x l) (hl:l.length=ds.length*sz) (hd:∀ (i:Nat) (d:D),ds[i]? = some d->Is H e ((l.drop (i*sz)).take sz) d):Is H (.slice sz e) [x] (.row ds)
 | struct {n:Nat} {fs:List (Nat × Nat × Ty)} {l:List AV} {ds:List D} (hl:l.length=n) (hn:ds.length=fs.length)
   (hd:∀ (j:Nat) (q:Nat × Nat × Ty) (d:D),fs[j]? = some q->ds[j]? = some d->Is H q.2.2 ((l.drop q.1).take q.2.1) d):Is H (.struct n fs) l (.st ds)
structure OB where
 ao:AO
 b:Nat
 n:Nat
def Fits (e:Em)(N:Nat)(os:List OB):Prop:=N+os.length<=e.N/\∀ j o,os[j]? = some o->e.b (N+j)=o.b/\e.d (N+j)=0/\e.n (N+j)=o.n
def Has (H:Hp)(N:Nat)(os:List OB):Prop:=N+os.length<=H.next/\∀ j o,os[j]? = some o->H.h.get (N+j)=some o.ao
theorem Fits.app {e:Em}{N:Nat}{a b:List OB}(h:Fits e N (a++b)):Fits e N a/\Fits e (N+a.length) b:=by
 obtain⟨h1,h2⟩:=h
 rw[abj] at h1
 refine⟨⟨by omega,fun j o hj=>h2 j o ?_⟩,by omega,fun j o hj => ?_⟩
 ·rw[abX (aaw.1 hj).1];exact hj
 ·rw[ajG]
  exact h2 _ o (by rw[ack (by omega),afG];exact hj)
theorem Has.app {H:Hp}{N:Nat}{a b:List OB}(h:Has H N (a++b)):Has H N a/\Has H (N+a.length) b:=by
 obtain⟨h1,h2⟩:=h
 rw[abj] at h1
 refine⟨⟨by omega,fun j o hj=>h2 j o ?_⟩,by omega,fun j o hj => ?_⟩
 ·rw[abX (aaw.1 hj).1];exact hj
 ·rw[ajG]
  exact h2 _ o (by rw[ack (by omega),afG];exact hj)
structure Uq (W:World)(ty:Ty)(cs:List Value)(N:Nat)(l:List AV)(os:List OB)(d:D):Prop where
 len:l.length=cs.length
 vr:∀ e,Fits e N os->bh e l cs
 or:∀ e,Fits e N os->∀ j o,os[j]? = some o->∃ ob,W.heap[o.b]? = some ob/\OR e (N+j) o.ao ob
 wr:∀ o∈os,wr o.ao=false
 is:∀ H,Has H N os->Is H ty l d
section
variable {Q:Type}{enc:TypeId × Value->Q}{P:Program}{W:World}{base:Nat}{spare:Nat->Bool}{held:Bool}
theorem ZQ {ty:Ty}{sz:Nat}(C:Nat->List Value)(hC:∀ i,(C i).length=sz):∀ (n k:Nat),(∀ i,k<=i->i<k+n->∀ N,∃ l os d,Uq W ty (C i) N l os d)->∀ N,∃ (L:List AV) (os:List OB) (ds:List D),L.length=n*sz/\ds.length=n/\
  (∀ e,Fits e N os->bh e L ((List.range' k n).flatMap C))/\(∀ e,Fits e N os->∀ j o,os[j]? = some o->∃ ob,W.heap[o.b]? = some ob/\OR e (N+j) o.ao ob)/\(∀ o∈os,wr o.ao=false)/\
  ∀ H,Has H N os->∀ i d,ds[i]? = some d->Is H ty ((L.drop (i*sz)).take sz) d
 | 0,k,h,N=>⟨[],[],[],by simp,rfl,fun e _ => .nil e,fun e _ j o hj=>by simp at hj,fun o ho=>(by cases ho),fun H _ i d hd=>by simp at hd⟩
 | n+1,k,h,N=>by
  obtain⟨l,os,d,o1⟩:=h k (aaU _) (by omega) N
  obtain⟨L,J4,ds,h1,h2,h3,h4,h5,h6⟩:=ZQ C hC n (k+1) (fun i a b=>h i (by omega) (by omega)) (N+os.length)
  have hl:l.length=sz:=by rw[o1.len,hC]
  refine⟨l++L,os++J4,d::ds,by rw[abj,h1,hl,Nat.succ_mul];omega,by simp[h2],fun e he => ?_,fun e he j o hj => ?_,fun o ho => ?_,fun H hH i x hx => ?_⟩
  ·obtain⟨f1,f2⟩:=he.app
   rw[List.range'_succ,List.flatMap_cons]
   exact (o1.vr e f1).append (h3 e f2)
  ·obtain⟨f1,f2⟩:=he.app
   by_cases rA:j<os.length
   ·rw[abX rA] at hj
    exact o1.or e f1 j o hj
   ·rw[ack (by omega)] at hj
    obtain⟨ob,a,b⟩:=h4 e f2 _ o hj
    exact⟨ob,a,by rw[show N+j=N+os.length+(j-os.length) by omega];exact b⟩
  ·exact (abN.1 ho).elim (o1.wr o) (h5 o)
  ·obtain⟨f1,f2⟩:=hH.app
   cases i with
   | zero=>
    cases hx
    rw[aiA,abK,List.take_append_of_le_length (by omega),ag8 (by omega)]
    exact o1.is H f1
   | succ i=>
    have:=h6 H f2 i x (by simpa using hx)
    rw[Nat.succ_mul,Nat.add_comm,<-List.drop_drop,List.drop_left' hl]
    exact this
theorem ab5 (cs:List Value)(n:Nat)(fK:cs.length=n):∀ (fs:List (Nat × Nat × Ty)) (a:Nat),vP fs a n->(∀ q∈fs,∀ N,∃ l os d,Uq W q.2.2 ((cs.drop q.1).take q.2.1) N l os d)->∀ N,∃ (L:List AV) (os:List OB) (ds:List D),L.length=n-a/\ds.length=fs.length/\
  (∀ e,Fits e N os->bh e L (cs.drop a))/\(∀ e,Fits e N os->∀ j o,os[j]? = some o->∃ ob,W.heap[o.b]? = some ob/\OR e (N+j) o.ao ob)/\(∀ o∈os,wr o.ao=false)/\
  ∀ H,Has H N os->∀ (j:Nat) (q:Nat × Nat × Ty) (d:D),fs[j]? = some q->ds[j]? = some d->Is H q.2.2 ((L.drop (q.1-a)).take q.2.1) d
 | [],a,hc,h,N=>by
  have ha:a=n:=hc
  refine⟨[],[],[],by simp;omega,rfl,fun e _ => ?_,fun e _ j o hj=>by simp at hj,fun o ho=>(by cases ho),fun H _ j q d x=>by simp at x⟩
  rw[aiv (by omega)];exact .nil e
 | q::fs,a,hc,h,N=>by
  obtain⟨l,os,d,o1⟩:=h q (.head _) N
  obtain⟨L,J4,ds,h1,h2,h3,h4,h5,h6⟩:=ab5 cs n fK fs (a+q.2.1) hc.2 (fun q hq=>h q (.tail _ hq)) (N+os.length)
  have Xk:=hc.1
  have hle:=vP.le fs _ n hc.2
  have hl:l.length=q.2.1:=by rw[o1.len,afs,ahT];omega
  refine⟨l++L,os++J4,d::ds,by rw[abj,h1,hl];omega,by simp[h2],fun e he => ?_,fun e he j o hj => ?_,fun o ho=>(abN.1 ho).elim (o1.wr o) (h5 o),fun H hH j q' d' x y => ?_⟩
  ·obtain⟨f1,f2⟩:=he.app
   have:=(o1.vr e f1).append (h3 e f2)
   rw[Xk,<-List.drop_drop,ai3] at this
   exact this
  ·obtain⟨f1,f2⟩:=he.app
   by_cases rA:j<os.length
   ·rw[abX rA] at hj
    exact o1.or e f1 j o hj
   ·rw[ack (by omega)] at hj
    obtain⟨ob,a,b⟩:=h4 e f2 _ o hj
    exact⟨ob,a,by rw[show N+j=N+os.length+(j-os.length) by omega];exact b⟩
  ·obtain⟨f1,f2⟩:=hH.app
   cases j with
   | zero=>
    cases x;cases y
    rw[Xk,aiG,abK,List.take_append_of_le_length (by omega),ag8 (by omega)]
    exact o1.is H f1
   | succ j=>
    have x':fs[j]? = some q':=by simpa using x
    have:=h6 H f2 j q' d' x' (by simpa using y)
    have ij:=(vP.lo fs _ n hc.2 q' (aaO x')).1
    rw[show q'.1-a=l.length+(q'.1-(a+q.2.1)) by omega,<-List.drop_drop,List.drop_left]
    exact this
theorem aaH {α:Type}(C:Nat->List α){sz:Nat}(hC:∀ i,(C i).length=sz):∀ (n k j r:Nat),j<n->r<sz->((List.range' k n).flatMap C)[j*sz+r]? = (C (k+j))[r]?
 | 0,k,j,r,h,_=>by omega
 | n+1,k,j,r,h,hr=>by
  rw[List.range'_succ,List.flatMap_cons]
  cases j with
  | zero=>rw[aiA,aeJ,abX (by rw[hC];exact hr),afF]
  | succ j=>
   rw[Nat.succ_mul,ack (by rw[hC];omega),hC,show j*sz+sz+r-sz=j*sz+r by omega,aaH C hC n (k+1) j r (by omega) hr]
   congr 2;omega
theorem avi (b off m n:Nat):((⟨b,off,none⟩:Addr).add m).add n=⟨b,off+m+n,none⟩:=by
 unfold Addr.add
 by_cases hm:m=0<;>by_cases hn:n=0<;>simp[hm,hn]
theorem aco {e:TypeId}{k:Nat}{d:DataW Q}:∀ {l:List (DataW Q)},d∈l->k∈d.weights P e->k∈DataW.weightsAll P e l
 | x::l,h,hk=>by
  rw[DataW.weightsAll]
  rcases aa7.1 h with rfl | h
  ·exact abD _ hk
  ·exact abo _ (aco h hk)
theorem Lm {k:Nat}{d:DataW Q}{t:TypeId}:∀ {ts:List TypeId} {ds:List (DataW Q)} {j:Nat},ts[j]? = some t->ds[j]? = some d->k∈d.weights P t->k∈DataW.weightsEach P ts ds
 | [],ds,j,h,_,_=>by simp at h
 | t0::ts,[],j,_,h,_=>by simp at h
 | t0::ts,d0::ds,0,h1,h2,hk=>by
  rw[DataW.weightsEach]
  cases h1;cases h2
  exact abD _ hk
 | t0::ts,d0::ds,j+1,h1,h2,hk=>by
  rw[DataW.weightsEach]
  exact abo _ (Lm (j:=j) (by simpa using h1) (by simpa using h2) hk)
theorem agE (lh:∀ b,spare b=true){ty:Ty}{t:TypeId}(ht:zy P ty t):∀ (fuel:Nat) (cs:List Value) (x:DataW Q × List MemPlace),DataW.trod enc P W base spare held fuel t cs=some x->(∀ k∈x.1.weights P t,k<=reachBytes)->∀ N,∃ l os d,Uq W ty cs N l os d:=by
 induction ht with
 | bool hu=>
  intro fuel cs x h xZ N
  obtain⟨b,rfl,_⟩:=DataW.trod_bool hu h
  exact⟨[.bool b],[],.b b,rfl,fun e _ => .cons (.bool b) (.nil e),fun e _ j o hj=>by simp at hj,fun o ho=>(by cases ho),fun H _ => .bool b⟩
 | @int t k hu=>
  intro fuel cs x h xZ N
  obtain⟨z,rfl,_,hw⟩:=DataW.trod_int hu h
  refine⟨[.int k z],[],.i z,rfl,fun e _ => .cons (.int k z) (.nil e),fun e _ j o hj=>by simp at hj,fun o ho=>(by cases ho),fun H _ => .int k z ?_⟩
  simpa[Lit.wf] using hw
 | str hu=>
  intro fuel cs x h xZ N
  obtain⟨s,rfl,IW,hs⟩:=DataW.trod_string hu h
  refine⟨[.str (bytes s)],[],.s (bytes s),rfl,fun e _ => .cons (.str s) (.nil e),fun e _ j o hj=>by simp at hj,fun o ho=>(by cases ho),fun H _ => .str _ (fun c hc => ?_) ?_⟩
  ·obtain⟨u,_,rfl⟩:=adD.1 hc
   exact u.toNat_lt
  ·unfold bytes;rw[adY];exact xZ _ (by rw[IW];simp[DataW.weights])
 | @slice t e sz ty hu hs h0 he ih=>
  intro fuel cs x h xZ N
  rcases open_slice hu h with⟨rfl,_⟩ | ⟨a,len,cap,m,n,D',Pl,rfl,hb,hl,hm,EC,IW,hx⟩
  ·exact⟨[.ae],[],.row [],rfl,fun e _ => .cons .ae (.nil e),fun e _ j o hj=>by simp at hj,fun o ho=>(by cases ho),fun H _ => .slice .nil (by simp) fun i d hd=>by simp at hd⟩
  rw[lh,if_pos rfl] at EC
  subst EC
  rw[hs] at hx
  by_cases Es:m=0
  ·subst Es
   obtain rfl:len=0:=by omega
   exact⟨[.slice 0 0 0 0 true sz],[],.row [],rfl,fun e _ => .cons (.BA 0 0 true sz a) (.nil e),fun e _ j o hj=>by simp at hj,fun o ho=>(by cases ho),fun H _ => .slice .emp (by simp) fun i d hd=>by simp at hd⟩
  obtain⟨V,hV⟩:=choose_lt (α:=List Value) (p:=fun i EF=>W.cells? base (a.add (i*sz)) sz=some EF/\DataW.trod enc P W base spare held n e EF=some (D' i,Pl i)) (fun i hi=>hx i hi)
  have yS:∀ i,i<m->(V i).length=sz/\∀ r,r<sz->W.cell? ((a.add (i*sz)).add r)=(V i)[r]? := fun i hi=>(World.cells?_some (hV i hi).1).2
  obtain⟨b,off,sp⟩:=a
  have aiT:sp=none:=by
   have h1:=(yS 0 (by omega)).2 0 h0
   have h2:=(yS 0 (by omega)).1
   rw[aiA,aaC (by omega)] at h1
   have e0:((⟨b,off,sp⟩:Addr).add 0).add 0=⟨b,off,sp⟩:=by simp[Addr.add]
   rw[e0] at h1
   cases sp with
   | none=>rfl
   | some y=>
    exfalso
    unfold World.cell? at h1
    split at h1
    ·simp at h1
    ·cases h1
  subst aiT
  have Ug:∀ i r,i<m->r<sz->W.cell? ⟨b,off+i*sz+r,none⟩=(V i)[r]? := fun i r hi hr=>by
   rw[<- (yS i hi).2 r hr,avi]
  have KE:∃ C el fz,W.heap[b]? = some (.cells C el fz)/\∀ k v,W.cell? ⟨b,k,none⟩=some v->C[k]? = some v:=by
   have h1:=Ug 0 0 (by omega) h0
   have h2:=(yS 0 (by omega)).1
   rw[aaC (by omega)] at h1
   unfold World.cell? at h1
   split at h1
   ·rename_i C el fz hw
    refine⟨C,el,fz,hw,fun k v hk => ?_⟩
    unfold World.cell? at hk
    simp only[hw] at hk
    simpa using hk
   ·cases h1
  obtain⟨C,el,fz,hw,hC⟩:=KE
  have hCm:off+m*sz<=C.size:=by
   have h1:=Ug (m-1) (sz-1) (by omega) (by omega)
   have h2:=(yS (m-1) (by omega)).1
   rw[aaC (by omega)] at h1
   have:=(adt.1 (hC _ _ h1)).1
   have e1:(m-1)*sz+sz=m*sz:=by rw[<-Nat.succ_mul];congr 1;omega
   omega
  have X0:∀ i,(if i<m then V i else List.replicate sz Value.nilFunc).length=sz:=fun i=>by
   split
   ·exact (yS i (by assumption)).1
   ·simp
  obtain⟨L,os,ds,o1,o2,o3,o4,o5,o6⟩:=ZQ (W:=W) (ty:=ty) (fun i=>if i<m then V i else List.replicate sz Value.nilFunc) X0 len 0 (fun i _ hi N=>by
   have him:i<m:=by omega
   simp only[him,if_true]
   exact ih n (V i) _ (hV i him).2 (fun k hk=>xZ k (by
    rw[IW]
    simp only[DataW.weights,hu]
    exact .tail _ (abD _ (aco (List.mem_map_of_mem (akH.2 (by omega))) hk)))) N) (N+1)
  have OM:∀ e,Fits e N (⟨.cells (Tr.cJ .nil off L) off (off+L.length) el 2,b,C.size⟩::os)->N<e.N/\e.b N=b/\e.d N=0/\e.n N=C.size/\Fits e (N+1) os:=by
   intro e he
   have h1:=he.2 0 _ rfl
   have h2:=(Fits.app (a:=[⟨.cells (Tr.cJ .nil off L) off (off+L.length) el 2,b,C.size⟩]) (b:=os) he).2
   have h3:=he.1
   simp only[aa1] at h3
   exact⟨by omega,h1.1,h1.2.1,h1.2.2,h2⟩
  refine⟨[.slice N off len m true sz],⟨.cells (Tr.cJ .nil off L) off (off+L.length) el 2,b,C.size⟩::os,.row ds,rfl,fun e he => ?_,fun e he j o hj => ?_,fun o ho => ?_,fun H hH => ?_⟩
  ·obtain⟨f1,f2,f3,f4,f5⟩:=OM e he
   refine .cons ?_ (.nil e)
   have:=VR.slice (e:=e) N off len m true sz off m f1 (by rw[f3];simp) hl (aaU _) (fun _=>rfl) (by rw[f4];exact hCm)
   rw[f2] at this
   exact this
  ·obtain⟨f1,f2,f3,f4,f5⟩:=OM e he
   cases j with
   | zero=>
    cases hj
    refine⟨_,hw,?_⟩
    refine .cells _ off (off+L.length) el 2 C fz f4.symm (fun k v vl gp hk => ?_) (by simp) (by simp) (fun _=>f3)
    rw[Tr.wZ,if_pos ⟨vl,gp⟩] at hk
    obtain⟨v',cw,iL⟩:=(o3 e f5).get hk
    refine⟨k,by rw[afF,f3];simp,v',?_,iL⟩
    have hq:k-off<len*sz:=by omega
    have hi:(k-off) / sz<len:=Nat.div_lt_of_lt_mul (by rw[Nat.mul_comm];exact hq)
    have hr:(k-off) % sz<sz:=Nat.mod_lt _ h0
    have hd:(k-off) / sz*sz+(k-off) % sz=k-off:=by rw[Nat.mul_comm];exact Nat.div_add_mod _ _
    have h1:=aaH _ X0 len 0 _ _ hi hr
    rw[hd,aeJ,if_pos (by omega)] at h1
    have Zz:(List.flatMap (fun i=>if i<m then V i else List.replicate sz Value.nilFunc) (List.range' 0 len))[k-off]? = some v':=cw
    rw[h1,<-Ug _ _ (by omega) hr] at Zz
    have:=hC _ _ Zz
    rw[show off+(k-off) / sz*sz+(k-off) % sz=k by omega] at this
    exact this
   | succ j=>
    obtain⟨ob,h1,h2⟩:=o4 e f5 j o (by simpa using hj)
    exact⟨ob,h1,by rw[show N+(j+1)=N+1+j by omega];exact h2⟩
  ·rcases aa7.1 ho with rfl | ho
   ·rfl
   ·exact o5 o ho
  ·have h1:=hH.2 0 _ rfl
   have h2:=(Has.app (a:=[⟨.cells (Tr.cJ .nil off L) off (off+L.length) el 2,b,C.size⟩]) (b:=os) hH).2
   have h3:=hH.1
   simp only[aa1] at h3
   refine .slice (l:=L) (.mk ⟨by omega,_,_,_,_,_,h1,aaU _,aaU _,fun k v hk => ?_⟩ o1 hl ?_) (by rw[o1,o2]) (o6 H h2)
   ·have:=(aaw.1 hk).1
    rw[Tr.wZ,if_pos ⟨by omega,by omega⟩,<-hk]
    congr 1;omega
   ·rw[pq Es];rfl
 | @struct t n fs Cu hu hn hl hc hf ht ih=>
  intro fuel cs x h xZ N
  obtain⟨xs,n',_,IW,sM,eL,lI⟩:=DataW.trod_struct hu h
  obtain⟨L,os,ds,o1,o2,o3,o4,o5,o6⟩:=ab5 (W:=W) cs n (by rw[sM,hn]) Cu 0 hc (fun q hq N=>by
   obtain⟨j,hj⟩:=adR hq
   have rA:j<fs.toList.length:=by rw[<-hl];exact (aaw.1 hj).1
   have Ns:fs.toList[j]? = some fs.toList[j]:=aaC rA
   obtain⟨e1,e2⟩:=hf j _ q Ns hj
   have YS:=lI j fs.toList[j] (by rw[<-afj];exact Ns)
   have hjx:j<xs.length:=by rw[eL];simpa using rA
   have vK:xs[j]? = some xs[j]:=aaC hjx
   rw[vK] at YS
   rw[e1,e2]
   exact ih j _ q Ns hj n' _ _ YS (fun k hk=>xZ k (by
    rw[IW]
    simp only[DataW.weights,hu]
    exact Lm (j:=j) (by rw[aeI,Ns];rfl) (by rw[aeI,vK];rfl) hk)) N) N
  refine⟨L,os,.st ds,by rw[o1,sM,hn,aih],fun e he => ?_,o4,o5,fun H hH => .struct (by rw[o1,aih]) o2 fun j q d h1 h2 => ?_⟩
  ·have:=o3 e he
   rw[abK] at this
   exact this
  ·have:=o6 H hH j q d h1 h2
   rw[aih] at this
   exact this
def NG:Ty->List AV->AV
 | .struct _ _,l => .agg l
 | _,l=>l.headD .dD
def UH:Ty->Bool
 | .struct _ _=>true
 | _=>false
structure Nc (enc:TypeId × Value->Q)(P:Program)(W:World)(base:Nat)(spare:Nat->Bool)(held:Bool)(ty:Ty)(t:TypeId)(v:Value):Prop where
 of:zy P ty t
 rd:∃ fuel x,DataW.trod enc P W base spare held fuel t v.cells.toList=some x/\∀ k∈x.1.weights P t,k<=reachBytes
 st:UH ty=true->∃ cs,v = .agg cs
 one:UH ty=false->v.cells = #[v]
def SZ (H:Hp)(ty:Ty)(a:AV)(d:D):Prop:=∃ l,a=NG ty l/\Is H ty l d
inductive Kn (enc:TypeId × Value->Q) (P:Program) (W:World) (base:Nat) (spare:Nat->Bool) (held:Bool):List Ty->List Value->Prop
 | nil:Kn enc P W base spare held [] []
 | cons {ty:Ty} {t:TypeId} {v:Value} {sP:List Ty} {vs:List Value} (h:Nc enc P W base spare held ty t v) (k:Kn enc P W base spare held sP vs):Kn enc P W base spare held (ty::sP) (v::vs)
inductive FW (H:Hp):List Ty->List AV->List D->Prop
 | nil:FW H [] [] []
 | cons {ty:Ty} {a:AV} {d:D} {sP:List Ty} {aW:List AV} {ds:List D} (h:SZ H ty a d) (k:FW H sP aW ds):FW H (ty::sP) (a::aW) (d::ds)
theorem agc (lh:∀ b,spare b=true){ty:Ty}{t:TypeId}{v:Value}(h:Nc enc P W base spare held ty t v)(N:Nat):∃ (a:AV) (os:List OB) (d:D),(∀ e,Fits e N os->VR e a v)/\
  (∀ e,Fits e N os->∀ j o,os[j]? = some o->∃ ob,W.heap[o.b]? = some ob/\OR e (N+j) o.ao ob)/\(∀ o∈os,wr o.ao=false)/\∀ H,Has H N os->SZ H ty a d:=by
 obtain⟨fuel,x,hx,hxw⟩:=h.rd
 obtain⟨l,os,d,o⟩:=agE lh h.of fuel _ x hx hxw N
 refine⟨NG ty l,os,d,fun e he => ?_,o.or,o.wr,fun H hH=>⟨l,rfl,o.is H hH⟩⟩
 have hv:=o.vr e he
 cases aA:UH ty with
 | true=>
  obtain⟨cs,rfl⟩:=h.st aA
  have:NG ty l = .agg l:=by cases ty<;>first | rfl | cases aA
  rw[this]
  have:=VR.ad5 hv
  simpa[Value.cells] using this
 | false=>
  have h1:=h.one aA
  rw[h1] at hv
  have hl:l.length=1:=by rw[o.len,h1];rfl
  match l,hl with
  | [a],_=>
   have:NG ty [a]=a:=by cases ty<;>first | rfl | cases aA
   rw[this]
   exact hv.2 0 a v rfl rfl
theorem ank (lh:∀ b,spare b=true){sP:List Ty}{vs:List Value}(h:Kn enc P W base spare held sP vs):∀ N,∃ (aW:List AV) (os:List OB) (ds:List D),(∀ e,Fits e N os->bh e aW vs)/\
  (∀ e,Fits e N os->∀ j o,os[j]? = some o->∃ ob,W.heap[o.b]? = some ob/\OR e (N+j) o.ao ob)/\(∀ o∈os,wr o.ao=false)/\∀ H,Has H N os->FW H sP aW ds:=by
 induction h with
 | nil=>exact fun N=>⟨[],[],[],fun e _ => .nil e,fun e _ j o hj=>by simp at hj,fun o ho=>(by cases ho),fun H _ => .nil⟩
 | cons h k ih=>
  intro N
  obtain⟨a,os,d,a1,a2,a3,a4⟩:=agc lh h N
  obtain⟨aW,J4,ds,b1,b2,b3,b4⟩:=ih (N+os.length)
  refine⟨a::aW,os++J4,d::ds,fun e he => .cons (a1 e he.app.1) (b1 e he.app.2),fun e he j o hj => ?_,fun o ho=>(abN.1 ho).elim (a3 o) (b3 o),fun H hH => .cons (a4 H hH.app.1) (b4 H hH.app.2)⟩
  obtain⟨f1,f2⟩:=he.app
  by_cases rA:j<os.length
  ·rw[abX rA] at hj
   exact a2 e f1 j o hj
  ·rw[ack (by omega)] at hj
   obtain⟨ob,p,q⟩:=b2 e f2 _ o hj
   exact⟨ob,p,by rw[show N+j=N+os.length+(j-os.length) by omega];exact q⟩
def yi (N:Nat):List OB->List (Nat × AO)
 | []=>[]
 | o::os=>(N,o.ao)::yi (N+1) os
theorem aad:∀ (os:List OB) (N i:Nat) (o:AO),(i,o)∈yi N os->∃ j ob,os[j]? = some ob/\i=N+j/\o=ob.ao
 | [],N,i,o,h=>by cases h
 | ob::os,N,i,o,h=>by
  rcases aa7.1 h with h | h
  ·cases h;exact⟨0,ob,rfl,rfl,rfl⟩
  ·obtain⟨j,qJ,h1,h2,h3⟩:=aad os (N+1) i o h
   exact⟨j+1,qJ,by simpa using h1,by omega,h3⟩
theorem ae7:∀ (os:List OB) (N:Nat) (t:Tr AO) (j:Nat) (o:OB),os[j]? = some o->(sQ (yi N os) t).get (N+j)=some o.ao
 | [],N,t,j,o,h=>by simp at h
 | ob::os,N,t,0,o,h=>by
  cases h
  show (Tr.put 34 (sQ (yi (N+1) os) t) N ob.ao).get N=_
  rw[Tr.put,Tr.fH,if_pos rfl]
 | ob::os,N,t,j+1,o,h=>by
  show (Tr.put 34 (sQ (yi (N+1) os) t) N ob.ao).get (N+(j+1))=_
  rw[Tr.put,Tr.fH,if_neg (by omega),show N+(j+1)=N+1+j by omega]
  exact ae7 os (N+1) t j o (by simpa using h)
theorem aeS:∀ (os:List OB) (N:Nat) (t:Tr AO) (i:Nat),i<N->(sQ (yi N os) t).get i=t.get i
 | [],N,t,i,h=>rfl
 | ob::os,N,t,i,h=>by
  show (Tr.put 34 (sQ (yi (N+1) os) t) N ob.ao).get i=_
  rw[Tr.put,Tr.fH,if_neg (by omega)]
  exact aeS os (N+1) t i (by omega)
theorem Xg (el:Nat->TypeId):∀ (L:List (Nat × List AV)),(L.map (·.1)).Nodup->∀ g l,(g,l)∈L->(qY el L).get g=some (.cells (Tr.cJ .nil 0 l) 0 l.length (el g) 2)
 | [],_,g,l,h=>by cases h
 | (g',l')::L,hn,g,l,h=>by
  rw[ac4,aju] at hn
  rw[qY,Tr.put,Tr.fH]
  rcases aa7.1 h with h | h
  ·cases h;rw[if_pos rfl]
  ·rw[if_neg (fun q=>hn.1 (by rw[<-q];exact adD.2 ⟨_,h,rfl⟩))]
   exact Xg el L hn.2 g l h
end
theorem Li {α β:Type}{p:α->β->Prop}:∀ (j:Nat) (f:α) (q:β),([]:List α)[j]? = some f->([]:List β)[j]? = some q->p f q:=fun j f q h=>by simp at h
theorem ie {α β:Type}{p:α->β->Prop}{a:α}{b:β}{l:List α}{m:List β}(h:p a b)(k:∀ (j:Nat) (f:α) (q:β),l[j]? = some f->m[j]? = some q->p f q) :
  ∀ (j:Nat) (f:α) (q:β),(a::l)[j]? = some f->(b::m)[j]? = some q->p f q:=fun j f q h1 h2=>by
 cases j with
 | zero=>cases h1;cases h2;exact h
 | succ j=>exact k j f q (by simpa using h1) (by simpa using h2)
theorem W0 {H:Hp}{e:Ty}{sz:Nat}{a:AV}{d:D}(h:SZ H (.slice sz e) a d):Is H (.slice sz e) [a] d:=by
 obtain⟨l,rfl,h⟩:=h
 cases h with
 | slice hr hl hd=>exact .slice hr hl hd
end K
end Go.Proofs.YtodfajmihkagnaaGreatDoor.Am
