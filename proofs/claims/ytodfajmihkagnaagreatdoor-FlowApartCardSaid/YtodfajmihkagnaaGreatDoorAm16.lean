/- A heap with a new object on top, written out (of no program). -/
import Derived.Test.YtodfajmihkagnaaGreatDoorAm15
set_option linter.unusedVariables false
set_option linter.unusedSimpArgs false
namespace Go.Proofs.YtodfajmihkagnaaGreatDoor.Am
set_option linter.unusedVariables false
set_option linter.unusedSimpArgs false
namespace Tr
variable {α:Type}
theorem CN:∀ (p:Pa) (x y:Option α) (t:Tr α),ko p y (ko p x t)=ko p y t
 | .e,x,y,t=>rfl
 | .a p,x,y,t=>congrArg (fun k=>Tr.node t.val k t.c1 t.c2 t.c3) (CN p x y t.c0)
 | .b p,x,y,t=>congrArg (fun k=>Tr.node t.val t.c0 k t.c2 t.c3) (CN p x y t.c1)
 | .c p,x,y,t=>congrArg (fun k=>Tr.node t.val t.c0 t.c1 k t.c3) (CN p x y t.c2)
 | .d p,x,y,t=>congrArg (fun k=>Tr.node t.val t.c0 t.c1 t.c2 k) (CN p x y t.c3)
theorem EC:∀ (p q:Pa) (x y:Option α) (t:Tr α),p≠q->ko p x (ko q y t)=ko q y (ko p x t)
 | .e,.e,x,y,t,h=>absurd rfl h
 | .a p,.a q,x,y,t,h=>congrArg (fun k=>Tr.node t.val k t.c1 t.c2 t.c3) (EC p q x y t.c0 (fun e=>h (by rw[e])))
 | .b p,.b q,x,y,t,h=>congrArg (fun k=>Tr.node t.val t.c0 k t.c2 t.c3) (EC p q x y t.c1 (fun e=>h (by rw[e])))
 | .c p,.c q,x,y,t,h=>congrArg (fun k=>Tr.node t.val t.c0 t.c1 k t.c3) (EC p q x y t.c2 (fun e=>h (by rw[e])))
 | .d p,.d q,x,y,t,h=>congrArg (fun k=>Tr.node t.val t.c0 t.c1 t.c2 k) (EC p q x y t.c3 (fun e=>h (by rw[e])))
 | .e,.a _,x,y,t,h=>rfl
 | .e,.b _,x,y,t,h=>rfl
 | .e,.c _,x,y,t,h=>rfl
 | .e,.d _,x,y,t,h=>rfl
 | .a _,.e,x,y,t,h=>rfl
 | .a _,.b _,x,y,t,h=>rfl
 | .a _,.c _,x,y,t,h=>rfl
 | .a _,.d _,x,y,t,h=>rfl
 | .b _,.e,x,y,t,h=>rfl
 | .b _,.a _,x,y,t,h=>rfl
 | .b _,.c _,x,y,t,h=>rfl
 | .b _,.d _,x,y,t,h=>rfl
 | .c _,.e,x,y,t,h=>rfl
 | .c _,.a _,x,y,t,h=>rfl
 | .c _,.b _,x,y,t,h=>rfl
 | .c _,.d _,x,y,t,h=>rfl
 | .d _,.e,x,y,t,h=>rfl
 | .d _,.a _,x,y,t,h=>rfl
 | .d _,.b _,x,y,t,h=>rfl
 | .d _,.c _,x,y,t,h=>rfl
theorem agF {n m:Nat} (h:n≠m):pathOf n≠pathOf m:=by
 intro e
 have h1:=fj (α:=Unit) .nil n m (some ())
 have h2:(ko (pathOf n) (some ()) (.nil:Tr Unit)).get m=some ():=by
  unfold get
  rw[<-e]
  have:=fj (α:=Unit) .nil n n (some ())
  rw[if_pos rfl] at this
  exact this
 rw[h2,if_neg (fun q=>h q.symm)] at h1
 have:(.nil:Tr Unit).get m=none:=wg _
 rw[this] at h1
 cases h1
theorem Vz:∀ (l:List α) (t:Tr α) (n m:Nat) (v:α),m<n->(t.cC n l).bX m v=(t.bX m v).cC n l
 | [],t,n,m,v,h=>rfl
 | x::l,t,n,m,v,h=>by
  show ((t.put 34 n x).cC (n+1) l).bX m v=((t.bX m v).put 34 n x).cC (n+1) l
  rw[Vz l _ _ _ _ (by omega)]
  congr 1
  exact EC _ _ _ _ _ (agF (by omega))
theorem RM:∀ (l:List α) (t:Tr α) (n k:Nat) (v:α),k<l.length->(t.cC n l).bX (n+k) v=t.cC n (l.set k v)
 | [],t,n,k,v,h=>by simp at h
 | x::l,t,n,0,v,h=>by
  show ((t.put 34 n x).cC (n+1) l).bX (n+0) v=(t.put 34 n v).cC (n+1) l
  rw[Vz l _ _ _ _ (by omega)]
  congr 1
  exact CN _ _ _ _
 | x::l,t,n,k+1,v,h=>by
  show ((t.put 34 n x).cC (n+1) l).bX (n+(k+1)) v=(t.put 34 n x).cC (n+1) (l.set k v)
  rw[show n+(k+1)=n+1+k by omega]
  exact RM l _ _ _ _ (by simpa using h)
end Tr
namespace K
def al (H:Hp) (l:List AV) (el fl:Nat):Hp:=⟨H.h.put 34 H.next (.cells (Tr.cC .nil 0 l) 0 l.length el fl),H.next+1⟩
theorem iy {H:Hp} {l:List AV} {el fl:Nat} (h:l.length<=16777216):aL H l el fl=some (H.next,al H l el fl):=by
 unfold aL alloc
 have:Nat.ble l.length 16777216=true:=adH.mpr h
 rw[this];rfl
theorem cj (H:Hp) (l:List AV) (el fl:Nat):(al H l el fl).next=H.next+1:=aa0 rfl (id rfl)
theorem BB (H:Hp) (l:List AV) (el fl i:Nat):(al H l el fl).h.get i=if i=H.next then some (.cells (Tr.cC .nil 0 l) 0 l.length el fl) else H.h.get i:=Tr.fj _ _ _ _
theorem bD (H:Hp) (l:List AV) (el fl:Nat):Cs (al H l el fl) H.next l el fl:=by
 refine⟨agJ _,Tr.cC .nil 0 l,by rw[BB,if_pos rfl],fun k v hk => ?_⟩
 have:=(aaK.1 hk).1
 rw[wT,if_pos (by omega)];exact hk
theorem aN (H:Hp) (l:List AV) (el fl:Nat):Out [] H (al H l el fl):=⟨afe _,fun j hj _=>by rw[BB,if_neg (by omega)]⟩
theorem Out.al {S:List Nat} {H H':Hp} (h:Out S H H') (l:List AV) (el fl:Nat):Out S H (al H' l el fl):=h.then (aN H' l el fl) fun j hj=>by cases hj
theorem Nw {H H':Hp} {i o:Nat} (h:H'.h.get i=H.h.get i):cellAt H' i o=cellAt H i o:=by unfold cellAt;rw[h]
theorem Na {H H':Hp} {i:Nat} (h:H'.h.get i=H.h.get i):∀ (n o:Nat),av H' i o n=av H i o n
 | 0,o=>rfl
 | n+1,o=>by unfold av;rw[Nw h,Na h n]
theorem vQ {H:Hp} {l:List AV} {el fl i o:Nat} (h:i=H.next):cellAt (al H l el fl) i o=l[o]? := by
 subst h
 cases hv:l[o]? with
 | some v=>exact (bD H l el fl).cellAt hv
 | none=>
  unfold cellAt
  rw[BB,if_pos rfl]
  have:=List.getElem?_eq_none_iff.1 hv
  have hb:(Nat.ble 0 o&&Nat.blt o l.length)=false:=by
   rw[Bool.and_eq_false_iff];right
   rw[<-afq,adq];omega
  simp only[hb,cond_false]
theorem tX {H:Hp} {l:List AV} {el fl i o:Nat} (h:i<H.next):cellAt (al H l el fl) i o=cellAt H i o:=Nw (by rw[BB,if_neg (by omega)])
theorem Gn {H:Hp} {l:List AV} {el fl i o n:Nat} (h:i=H.next) (hn:o+n<=l.length):av (al H l el fl) i o n=some ((l.drop o).take n):=by
 subst h;exact (bD H l el fl).av n o hn
theorem Wi {H:Hp} {l:List AV} {el fl i o n:Nat} (h:i<H.next):av (al H l el fl) i o n=av H i o n:=Na (by rw[BB,if_neg (by omega)]) _ _
theorem Out.cellAt {S:List Nat} {H H':Hp} (h:Out S H H') {i o:Nat} (hi:i<H.next) (hs:i∉S):cellAt H' i o=Am.cellAt H i o:=Nw (h.2 i hi hs)
theorem Out.av {S:List Nat} {H H':Hp} (h:Out S H H') {i o n:Nat} (hi:i<H.next) (hs:i∉S):av H' i o n=Am.av H i o n:=Na (h.2 i hi hs) _ _
theorem Ij (i o:Nat) (H:Hp):ld (.ptr i o) H=cellAt H i o:=aa0 rfl (id rfl)
theorem JM (n i o:Nat) (H:Hp):aC n (.ptr i o) H=(av H i o n).map .agg:=aa0 rfl (id rfl)
def iU (l:List AV) (o:Nat):List AV->List AV
 | []=>l
 | v::vs=>iU (l.set o v) (o+1) vs
theorem Hm:∀ (vs l:List AV) (o:Nat),(iU l o vs).length=l.length
 | [],l,o=>rfl
 | v::vs,l,o=>by rw[iU,Hm vs,acT]
theorem zG:∀ (vs l:List AV) (o k:Nat),o+vs.length<=l.length->(iU l o vs)[k]? = if o<=k/\k<o+vs.length then vs[k-o]? else l[k]?
 | [],l,o,k,h=>by rw[if_neg (by simp only[acm];omega)];rfl
 | v::vs,l,o,k,h=>by
  simp only[abx] at h ⊢
  rw[iU,zG vs _ _ _ (by rw[acT];omega)]
  by_cases h1:o+1<=k/\k<o+1+vs.length
  ·rw[if_pos h1,if_pos (by omega),show k-o=(k-(o+1))+1 by omega,acM]
  ·rw[if_neg h1]
   by_cases h2:k=o
   ·subst h2
    rw[if_pos (by omega),agi,aeS (by omega)];rfl
   ·rw[if_neg (by omega),ahK (fun q=>h2 q.symm)]
theorem Vh (vs l:List AV) (h:vs.length=l.length):iU l 0 vs=vs:=by
 apply agM
 intro k
 rw[zG vs l 0 k (by omega)]
 split
 ·rw[afC]
 ·rename_i hn
  rw[afj (by omega),afj (by omega)]
theorem ahO {H:Hp} {l:List AV} {el fl i o:Nat} {v:AV} (h:i=H.next) (hf:fl<=1) (ho:o<l.length) (hv:bq v=true):setCell (al H l el fl) i o v=some (al H (l.set o v) el fl):=by
 subst h
 have hs:((Tr.cC .nil 0 l).get o).isSome=true:=by rw[wT,if_pos (by omega)];simp[ho]
 have hb:(Nat.ble 0 o&&Nat.blt o l.length&&Nat.ble fl 1&&((Tr.cC .nil 0 l).get o).isSome&&bq v)=true:=by
  simp only[aa9,adH,adq];exact⟨⟨⟨⟨by omega,ho⟩,hf⟩,hs⟩,hv⟩
 unfold setCell
 rw[BB,if_pos rfl]
 simp only[hb,cond_true]
 have e1:(Tr.cC .nil 0 l).bX o v=Tr.cC .nil 0 (l.set o v):=by
  have:=Tr.RM l .nil 0 o v ho
  rw[adt] at this;exact this
 rw[e1]
 unfold al
 congr 2
 rw[acT]
 exact Tr.CN _ _ _ _
theorem L7 {H:Hp} {el fl i:Nat} (h:i=H.next) (hf:fl<=1):∀ (vs l:List AV) (o:Nat),o+vs.length<=l.length->(∀ v∈vs,bq v=true)->setCells (al H l el fl) i o vs=some (al H (iU l o vs) el fl)
 | [],l,o,_,_=>rfl
 | v::vs,l,o,hl,hv=>by
  simp only[abx] at hl
  unfold setCells
  rw[ahO h hf (by omega) (hv v (.head _))]
  exact L7 h hf vs _ _ (by rw[acT];omega) fun u hu=>hv u (.tail _ hu)
theorem K3 {v:AV} (h:bq v=true):pY v=some [v]:=by cases v<;>first | rfl | cases h
theorem z7 (l:List AV):pY (.agg l)=some l:=aa0 rfl (id rfl)
theorem LM {H:Hp} {l:List AV} {el fl i o:Nat} {v:AV} (hv:bq v=true) (h:i=H.next) (hf:fl<=1) (ho:o<l.length):st 1 (.ptr i o) v (al H l el fl)=some (al H (l.set o v) el fl):=by
 unfold st
 simp only[K3 hv]
 show setCells _ i o [v]=_
 exact L7 h hf [v] l o (by simp only[abx,acm];omega) fun u hu=>by rw[aan] at hu;subst hu;exact hv
theorem kq {H:Hp} {l vs:List AV} {n el fl i:Nat} (hv:vs.all bq=true) (hn:n=vs.length) (h:i=H.next) (hf:fl<=1) (hl:l.length=vs.length):st n (.ptr i 0) (.agg vs) (al H l el fl)=some (al H vs el fl):=by
 unfold st
 have:Nat.beq n vs.length=true:=by subst hn;exact afB _
 simp only[z7,this,cond_true]
 rw[L7 h hf vs l 0 (by omega) (adn.1 hv),Vh vs l hl.symm]
theorem iE {H:Hp} {el:Nat} {l:List AV} (h:l.length<=16777216):bx el (.agg l) H=some (H.next,al H l el 0):=by
 unfold bx;simp only[z7];exact iy h
theorem Fx {H:Hp} {el:Nat} {v:AV} (hv:bq v=true):bx el v H=some (H.next,al H [v] el 0):=by
 unfold bx;simp only[K3 hv];exact iy (by simp)
theorem HJ {z:List AV} {off:Nat} {v:AV} {r:List (Nat × Nat × AV)} (hv:bq v=true) (h:off+1<=z.length):fl z ((off,1,v)::r)=fl (z.set off v) r:=by
 have e:z.take off++[v]++z.drop (off+1)=z.set off v:=by
  rw[List.set_eq_take_append_cons_drop,if_pos (by omega)];simp
 show (match pY v with | some cs=>if cs.length=1/\off+1<=z.length then fl (z.take off++cs++z.drop (off+1)) r else none | none=>none)=_
 rw[K3 hv]
 simp only
 rw[if_pos ⟨rfl,h⟩,e]
theorem zN {z:List AV} {off n:Nat} {l:List AV} {r:List (Nat × Nat × AV)} (hn:l.length=n) (h:off+n<=z.length):fl z ((off,n,.agg l)::r)=fl (z.take off++l++z.drop (off+n)) r:=by
 show (match pY (.agg l) with | some cs=>if cs.length=n/\off+n<=z.length then fl (z.take off++cs++z.drop (off+n)) r else none | none=>none)=_
 rw[z7]
 simp only
 rw[if_pos ⟨hn,h⟩]
theorem Rw.one {H:Hp} {es:Nat} {x:AV} {l:List AV} (h:Rw H es x l):bq x=true:=by cases h<;>rfl
theorem Ow.kf {H:Hp} {el es:Nat} {x:AV} {l:List AV} (h:Ow H el es x l):bq x=true:=h.rw.one
theorem vP {H:Hp} {el es fU:Nat} {z:List AV} {s:AV} {l vs:List AV} (h:Ow H el es s l) (hv:vs.all bq=true) (hn:vs.length=es) (dK:0<es) (hlen:l.length+vs.length<=16777216) :
  ∃ s' H',(∀ i,i=H.next->gC el es z false s (.slice i 0 1 1 true es) (al H vs fU 0)=some (s',H'))/\Ow H' el es s' (l++vs)/\Out (ak s) H H'/\(∀ j∈ak s',j∈ak s\/H.next<=j)/\bq s'=true:=by
 have c:=bD H vs fU 0
 have hr:Rw (al H vs fU 0) es (.slice H.next 0 1 1 true es) vs := .mk c.ro (by rw[hn,ahd]) (abe _) rfl
 have ho:Ow (al H vs fU 0) el es s l:=h.out (aN H vs fU 0) fun j hj=>by simp
 obtain⟨s',H',h1,h2,h3,h4⟩:=U5 (z:=z) ho hr (adn.1 hv) dK hlen
 refine⟨s',H',fun i hi=>by subst hi;exact h1,h2,((aN H vs fU 0).mono (S':=ak s) (fun j hj=>by cases hj)).then h3 (fun j hj => .inl hj),fun j hj=>(h4 j hj).imp id fun q=>by rw[cj] at q;omega,h2.kf⟩
theorem ZI {s:List Nat} {m:Nat} (k:IntKind) (h:m<=s.length):np (.str s) none (some (.int k m))=some (.str (s.take m)):=by
 unfold np
 simp only[yK (ab2 m) h (abe _) (Bd.no 0) (Bd.yes k m _),ady,abJ,afC]
theorem aam {s:List Nat} {m:Nat} (k:IntKind) (h:m<=s.length):np (.str s) (some (.int k m)) none=some (.str (s.drop m)):=by
 unfold np
 simp only[yK h (abe _) (abe _) (Bd.yes k m 0) (Bd.no _),ady]
 rw[aer (by rw[ae1];omega)]
theorem Ul {s:List Nat} {a b:Nat} (k j:IntKind) (uY:a<=b) (h:b<=s.length):np (.str s) (some (.int k a)) (some (.int j b))=some (.str ((s.drop a).take (b-a))):=by
 unfold np
 simp only[yK uY h (abe _) (Bd.yes k a 0) (Bd.yes j b _),ady]
theorem afE {s:List Nat} {i b:Nat} (k:IntKind) (h:s[i]? = some b):uS (.str s) (.int k i)=some (.int .u8 b):=by
 unfold uS
 simp only
 rw[if_pos (by omega),ab9,h];rfl
theorem ZF {s:List Nat} {b:Nat} (k:IntKind) (h:s[0]? = some b):uS (.str s) (.int k 0)=some (.int .u8 b):=afE (i:=0) k h
theorem Rw.ia {H:Hp} {es n:Nat} {x:AV} {l:List AV} (h:Rw H es x l) (hl:l.length=n*es) (dK:0<es) {i:Nat} (hi:i<n):∃ b o,(∀ k,ia es x (.int k i)=some (.ptr b o))/\b∈ak x/\b<H.next/\
  (∀ k v,l[i*es+k]? = some v->k<es->cellAt H b (o+k)=some v)/\av H b o es=some ((l.drop (i*es)).take es):=by
 cases h with
 | nil=>
  simp only[acm] at hl
  rcases Nat.mul_eq_zero.1 hl.symm with q | q<;>omega
 | emp=>
  simp only[acm] at hl
  rcases Nat.mul_eq_zero.1 hl.symm with q | q<;>omega
 | @mk j off m cap ex l hr hn hc he=>
  have hm:m=n:=Nat.eq_of_mul_eq_mul_right dK (hn.symm.trans hl)
  subst hm
  have hle:(i+1)*es<=m*es:=adY _ hi
  rw[aeT,ahd] at hle
  refine⟨j,off+i*es,fun k=>yL hi,by rw[mr he];exact .head _,hr.1,fun k v hk _ => ?_,?_⟩
  ·rw[ag0];exact hr.cellAt hk
  ·have h1:=((hr.drop (i*es) (by omega)).take es).av
   rw[adA,ae1,Nat.min_eq_left (by omega)] at h1
   exact h1
def RL (H:Hp) (es:Nat) (x:AV) (L:List (List AV)):Prop:=Rw H es x L.flatten/\∀ c∈L,c.length=es
def OL (H:Hp) (el es:Nat) (x:AV) (L:List (List AV)):Prop:=Ow H el es x L.flatten/\∀ c∈L,c.length=es
theorem xS {es:Nat}:∀ {L:List (List AV)},(∀ c∈L,c.length=es)->L.flatten.length=L.length*es
 | [],_=>by simp
 | c::L,h=>by
  rw[aik,aby,h c (.head _),xS fun d hd=>h d (.tail _ hd),abx,aeT];omega
theorem SW {es:Nat}:∀ {L:List (List AV)} {i:Nat} {c:List AV},(∀ c∈L,c.length=es)->L[i]? = some c->(L.flatten.drop (i*es)).take es=c
 | [],i,c,_,h=>by simp at h
 | a::L,0,c,hl,h=>by
  simp only[acP,acu] at h
  subst h
  have:=hl a (.head _)
  rw[af4,abJ,aik,List.take_append_of_le_length (by omega),aer (by omega)]
 | a::L,i+1,c,hl,h=>by
  simp only[acM] at h
  have ha:=hl a (.head _)
  rw[aik,aeT,ahd,List.drop_append,afX (by omega),ahr,ha,Nat.add_sub_cancel]
  exact SW (fun d hd=>hl d (.tail _ hd)) h
theorem OL.rl {H:Hp} {el es:Nat} {x:AV} {L:List (List AV)} (h:OL H el es x L):RL H es x L:=⟨h.1.rw,h.2⟩
theorem RL.out {H H':Hp} {es:Nat} {x:AV} {L:List (List AV)} {S:List Nat} (h:RL H es x L) (k:Out S H H') (hi:∀ j∈ak x,j∉S):RL H' es x L:=⟨h.1.out k hi,h.2⟩
theorem RL.aw {H H':Hp} {es:Nat} {x:AV} {L:List (List AV)} (h:RL H es x L) (k:Out [] H H'):RL H' es x L:=h.out k fun _ _ q=>by cases q
theorem Rw.aw {H H':Hp} {es:Nat} {x:AV} {l:List AV} (h:Rw H es x l) (k:Out [] H H'):Rw H' es x l:=h.out k fun _ _ q=>by cases q
theorem OL.out {H H':Hp} {el es:Nat} {x:AV} {L:List (List AV)} {S:List Nat} (h:OL H el es x L) (k:Out S H H') (hi:∀ j∈ak x,j∉S):OL H' el es x L:=⟨h.1.out k hi,h.2⟩
theorem RL.one {H:Hp} {es:Nat} {x:AV} {L:List (List AV)} (h:RL H es x L):bq x=true:=h.1.one
theorem RL.len {H:Hp} {es:Nat} {x:AV} {L:List (List AV)} (h:RL H es x L) (dK:0<es):aV x=some (.int .i64 (L.length:Nat)):=by
 obtain⟨n,h1,h2⟩:=h.1.len
 rw[xS h.2] at h2
 rw[h1,Nat.eq_of_mul_eq_mul_right dK h2]
theorem RL.at {H:Hp} {es:Nat} {x:AV} {L:List (List AV)} (h:RL H es x L) (dK:0<es) {i:Nat} {c:List AV} (hi:L[i]? = some c):∃ b o,(∀ k,ia es x (.int k i)=some (.ptr b o))/\b∈ak x/\b<H.next/\av H b o es=some c/\∀ k v,c[k]? = some v->cellAt H b (o+k)=some v:=by
 have bE:=(aaK.1 hi).1
 obtain⟨b,o,h1,h2,h3,h4,h5⟩:=h.1.ia (xS h.2) dK bE
 have hf:=SW h.2 hi
 rw[hf] at h5
 refine⟨b,o,h1,h2,h3,h5,fun k v hv => ?_⟩
 have hk:k<es:=by have:=(aaK.1 hv).1;rw[h.2 c (aa2 hi)] at this;exact this
 refine h4 k v ?_ hk
 rw[<-hf,afW,if_pos hk,aeA] at hv
 exact hv
theorem OL.nil (H:Hp) (el es:Nat):OL H el es .ah []:=⟨.nil,fun c hc=>by cases hc⟩
theorem RL.nil (H:Hp) (es:Nat):RL H es .ah []:=⟨.nil,fun c hc=>by cases hc⟩
theorem OL.push {H:Hp} {el es fU:Nat} {z:List AV} {s:AV} {L:List (List AV)} {vs:List AV} (h:OL H el es s L) (hv:vs.all bq=true) (hn:vs.length=es) (dK:0<es) (hlen:(L.length+1)*es<=16777216) :
  ∃ s' H',(∀ i,i=H.next->gC el es z false s (.slice i 0 1 1 true es) (al H vs fU 0)=some (s',H'))/\OL H' el es s' (L++[vs])/\Out (ak s) H H'/\(∀ j∈ak s',j∈ak s\/H.next<=j)/\bq s'=true:=by
 obtain⟨s',H',h1,h2,h3⟩:=vP (fU:=fU) (z:=z) h.1 hv hn dK (by rw[xS h.2,hn];rw[aeT,ahd] at hlen;exact hlen)
 refine⟨s',H',h1,⟨by rw[List.flatten_append];simpa using h2,fun c hc => ?_⟩,h3⟩
 rcases abP.1 hc with hc | hc
 ·exact h.2 c hc
 ·rw[aan] at hc;subst hc;exact hn
theorem OL.one {H:Hp} {el es:Nat} {x:AV} {L:List (List AV)} (h:OL H el es x L):∀ c∈L,c.all bq=true:=fun c hc=>by
 rw[adn]
 intro v hv
 exact h.1.one v (af9.2 ⟨c,hc,hv⟩)
theorem fC {α:Type} {l r:List α} {i:Nat} {a:α} (h:l.drop i=a::r):i<l.length/\l[i]? = some a/\l.drop (i+1)=r:=by
 have h1:i<l.length:=by
  have:=congrArg List.length h
  rw[ae1,abx] at this;omega
 refine⟨h1,?_,?_⟩
 ·have:=aeA (xs:=l) (i:=i) (j:=0)
  rw[h,adx] at this
  rw[<-this];rfl
 ·have:=List.drop_drop (l:=l) (i:=1) (j:=i)
  rw[h] at this
  rw[<-this];rfl
theorem Out.nx {S:List Nat} {H H':Hp} (h:Out S H H'):H.next<=H'.next:=h.1
theorem GV {H:Hp} {el fU es:Nat} {z:List AV} {x:AV} {l:List AV} (hx:Rw H es x l) (ho:∀ v∈l,bq v=true) (dK:0<es) (hlen:l.length<=16777216) :
  ∃ s' H',gC el es z false (.slice H.next 0 0 0 true es) x (al H [] fU 0)=some (s',H')/\Ow H' el es s' l/\Out [] H H'/\(∀ j∈ak s',H.next<=j):=by
 have ha:=aN H [] fU 0
 obtain⟨s',H',h1,h2,h3,h4⟩:=U5 (z:=z) (Ow.emp (H:=al H [] fU 0) (el:=el) (es:=es) (i:=H.next) (off:=0)) (hx.aw ha) ho dK (by simpa using hlen)
 refine⟨s',H',h1,by simpa using h2,ha.then h3 (fun j hj=>by cases hj),fun j hj => ?_⟩
 rcases h4 j hj with q | q
 ·cases q
 ·rw[cj] at q;omega
theorem WR {n s i off z:Nat} (k:IntKind) (h:z<n):nq n s (.ptr i off) (.int k z)=some (.ptr i (off+z*s)):=by
 unfold nq
 simp only
 rw[if_pos (by omega),ab9]
theorem aac {n s i off:Nat} (k:IntKind) (h:0<n):nq n s (.ptr i off) (.int k 0)=some (.ptr i off):=by
 have:=WR (s:=s) (i:=i) (off:=off) k h
 rw[af4] at this
 exact this
theorem XI {n i off:Nat} (k:IntKind) (h:1<n):nq n 1 (.ptr i off) (.int k 1)=some (.ptr i (off+1)):=by
 have:=WR (s:=1) (i:=i) (off:=off) k h
 exact this
theorem lU (k:IntKind) (n:Int):bq (.int k n)=true:=aa0 rfl (id rfl)
theorem Df (s:List Nat):bq (.str s)=true:=aa0 rfl (id rfl)
theorem aaT (b:Bool):bq (.bool b)=true:=aa0 rfl (id rfl)
theorem Ww (i o:Nat):bq (.ptr i o)=true:=aa0 rfl (id rfl)
theorem Vg:bq .fB=true:=aa0 rfl (id rfl)
theorem Ui (i o n c:Nat) (x:Bool) (es:Nat):bq (.slice i o n c x es)=true:=aa0 rfl (id rfl)
theorem Wr:bq .ah=true:=aa0 rfl (id rfl)
theorem Uz (i:Nat):bq (.map i)=true:=aa0 rfl (id rfl)
theorem Xy:bq .jv=true:=aa0 rfl (id rfl)
theorem UH (f:Go.Fn) (a b:List AV):bq (.func f a b)=true:=aa0 rfl (id rfl)
theorem aab:bq .nilFunc=true:=aa0 rfl (id rfl)
theorem SS:bq .nilIface=true:=aa0 rfl (id rfl)
theorem ZH (t:TypeId) (v:AV):bq (.iface t v)=true:=aa0 rfl (id rfl)
theorem aj:type_of% (And.intro @Xm (And.intro @Ti (And.intro @Yx (And.intro @XK (And.intro @Uj (And.intro @SH (And.intro @VC (And.intro @UL (And.intro @aa8 (And.intro @XJ (And.intro @Wl (And.intro @Se (And.intro @Xa (And.intro @aaq (And.intro @UK (And.intro @ZS (And.intro @Vb (And.intro @abd (And.intro @Sw (And.intro @Sv (And.intro @Y7 (And.intro @Wn (And.intro @RG (And.intro @Wq (And.intro @aaG (And.intro @R2 (And.intro @Zt (And.intro @VW (And.intro @TN (And.intro @SP (And.intro @YG (And.intro @TH (And.intro @U8 (And.intro @aaw (And.intro @aaY (And.intro @UN (And.intro @Zz (And.intro @Z2 (And.intro @ZY (And.intro @UX (And.intro @WC (And.intro @ZB (And.intro @R3 (And.intro @Ze (And.intro @XY (And.intro @aaU (And.intro @aaL (And.intro @X3 (And.intro @Yk (And.intro @TL (And.intro @ZU (And.intro @X0 (And.intro @Zb (And.intro @Z8 (And.intro @aaC (And.intro @ZE (And.intro @Sn (And.intro @Yl (And.intro @ID (And.intro @To (And.intro @Wd (And.intro @Ub (And.intro @Z5 (And.intro @SN (And.intro @X8 (And.intro @Zw (And.intro @WH (And.intro @Ve (And.intro @aar (And.intro @S7 (And.intro @YP (And.intro @V8 (And.intro @TU @Um))))))))))))))))))))))))))))))))))))))))))))))))))))))))))))))))))))))))):=And.intro @Xm (And.intro @Ti (And.intro @Yx (And.intro @XK (And.intro @Uj (And.intro @SH (And.intro @VC (And.intro @UL (And.intro @aa8 (And.intro @XJ (And.intro @Wl (And.intro @Se (And.intro @Xa (And.intro @aaq (And.intro @UK (And.intro @ZS (And.intro @Vb (And.intro @abd (And.intro @Sw (And.intro @Sv (And.intro @Y7 (And.intro @Wn (And.intro @RG (And.intro @Wq (And.intro @aaG (And.intro @R2 (And.intro @Zt (And.intro @VW (And.intro @TN (And.intro @SP (And.intro @YG (And.intro @TH (And.intro @U8 (And.intro @aaw (And.intro @aaY (And.intro @UN (And.intro @Zz (And.intro @Z2 (And.intro @ZY (And.intro @UX (And.intro @WC (And.intro @ZB (And.intro @R3 (And.intro @Ze (And.intro @XY (And.intro @aaU (And.intro @aaL (And.intro @X3 (And.intro @Yk (And.intro @TL (And.intro @ZU (And.intro @X0 (And.intro @Zb (And.intro @Z8 (And.intro @aaC (And.intro @ZE (And.intro @Sn (And.intro @Yl (And.intro @ID (And.intro @To (And.intro @Wd (And.intro @Ub (And.intro @Z5 (And.intro @SN (And.intro @X8 (And.intro @Zw (And.intro @WH (And.intro @Ve (And.intro @aar (And.intro @S7 (And.intro @YP (And.intro @V8 (And.intro @TU @Um))))))))))))))))))))))))))))))))))))))))))))))))))))))))))))))))))))))))
theorem au:type_of% (And.intro @aac (And.intro @XI (And.intro @iy (And.intro @cj (And.intro @Ij (And.intro @JM (And.intro @vQ (And.intro @tX (And.intro @Gn (And.intro @Wi (And.intro @LM (And.intro @kq (And.intro @iE (And.intro @Fx (And.intro @tV (And.intro @HJ @zN)))))))))))))))):=And.intro @aac (And.intro @XI (And.intro @iy (And.intro @cj (And.intro @Ij (And.intro @JM (And.intro @vQ (And.intro @tX (And.intro @Gn (And.intro @Wi (And.intro @LM (And.intro @kq (And.intro @iE (And.intro @Fx (And.intro @tV (And.intro @HJ @zN)))))))))))))))
theorem ag:type_of% (And.intro @lU (And.intro @Df (And.intro @aaT (And.intro @Ww (And.intro @Vg (And.intro @Ui (And.intro @Wr (And.intro @Uz (And.intro @Xy (And.intro @UH (And.intro @aab (And.intro @SS (And.intro @ZH @cj))))))))))))):=And.intro @lU (And.intro @Df (And.intro @aaT (And.intro @Ww (And.intro @Vg (And.intro @Ui (And.intro @Wr (And.intro @Uz (And.intro @Xy (And.intro @UH (And.intro @aab (And.intro @SS (And.intro @ZH @cj))))))))))))
theorem ai:(∀ (a:AV) (l:List AV),(a::l)[0]? = some a)/\(∀ (a:AV) (l:List AV) (i:Nat),(a::l)[i+1]? = l[i]?)/\(∀ n:Nat,0+n=n)/\((!true)=false)/\((!false)=true)/\(∀ h:Decidable True,@decide True h=true)/\(∀ h:Decidable False,@decide False h=false)/\(∀ a:Int,(a==a)=true)/\(∀ a:List Nat,(a==a)=true)/\(∀ a:Int,(a != a)=false)/\(∀ a:List Nat,(a != a)=false)/\(∀ a b:Int,(a ≥ b)=(b<=a))/\(∀ a b:Int,(a>b)=(b<a)):=
 ⟨fun _ _=>rfl,fun _ _ _=>rfl,adt,rfl,rfl,fun _=>decide_eq_true trivial,fun _=>decide_eq_false id,fun _=>beq_self_eq_true _,fun _=>beq_self_eq_true _,fun _=>bne_self_eq_false _,fun _=>bne_self_eq_false _,fun _ _=>rfl,fun _ _=>rfl⟩
theorem ar:(∀ (f:List AV->AV) (l:List AV),Option.map f (some l)=some (f l))/\(∀ l:List AV,l.drop 0=l)/\(∀ (n:Nat) (a:AV) (l:List AV),(a::l).take (n+1)=a::l.take n)/\(∀ l:List AV,l.take 0=[])/\(∀ (n:Nat) (a:AV) (l:List AV),(a::l).drop (n+1)=l.drop n)/\(∀ (a b:AV) (l:List AV),(a::l).set 0 b=b::l)/\(∀ (n:Nat) (a b:AV) (l:List AV),(a::l).set (n+1) b=a::l.set n b)/\(∀ l:List AV,[]++l=l)/\(∀ (a:AV) (l m:List AV),a::l++m=a::(l++m))/\(∀ l:List AV,l++[]=l)/\(∀ n:Nat,n+0=n):=
 ⟨fun _ _=>rfl,fun _=>rfl,fun _ _ _=>rfl,fun _=>rfl,fun _ _ _=>rfl,fun _ _ _=>rfl,fun _ _ _ _=>rfl,fun _=>rfl,fun _ _ _=>rfl,agh,fun _=>rfl⟩
theorem af:(∀ (H:Hp) (l:List AV) (el fl:Nat),(al H l el fl).next=H.next+1)/\(∀ (a:AV) (l:List AV),(a::l).length=l.length+1)/\(([]:List AV).length=0)/\(∀ (p:AV->Bool) (a:AV) (l:List AV),(a::l).all p=(p a&&l.all p))/\(∀ p:AV->Bool,([]:List AV).all p=true)/\(∀ b:Bool,(b&&true)=b)/\(∀ b:Bool,(true&&b)=b)/\(∀ b:Bool,(b&&b)=b)/\(∀ n:Nat,0+n=n)/\(∀ n:Nat,(n<=n)=True):=
 ⟨fun _ _ _ _=>rfl,fun _ _=>rfl,rfl,fun _ _ _=>rfl,fun _=>rfl,Bool.and_true,ac2,Bool.and_self,adt,fun n=>eq_true (abe n)⟩
end K
end Go.Proofs.YtodfajmihkagnaaGreatDoor.Am
