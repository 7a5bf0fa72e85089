/- A heap with a new object on top, written out (of no program). -/
import Derived.Test.YtodfajmihkagnaaGreatDoorAm15
set_option linter.unusedVariables false
set_option linter.unusedSimpArgs false
namespace Go.Proofs.YtodfajmihkagnaaGreatDoor.Am
set_option linter.unusedVariables false
set_option linter.unusedSimpArgs false
namespace Tr
variable {α:Type}
theorem Ek:∀ (p:Pa) (x y:Option α) (t:Tr α),lg p y (lg p x t)=lg p y t
 | .e,x,y,t=>rfl
 | .a p,x,y,t=>congrArg (fun k=>Tr.node t.val k t.c1 t.c2 t.c3) (Ek p x y t.c0)
 | .b p,x,y,t=>congrArg (fun k=>Tr.node t.val t.c0 k t.c2 t.c3) (Ek p x y t.c1)
 | .c p,x,y,t=>congrArg (fun k=>Tr.node t.val t.c0 t.c1 k t.c3) (Ek p x y t.c2)
 | .d p,x,y,t=>congrArg (fun k=>Tr.node t.val t.c0 t.c1 t.c2 k) (Ek p x y t.c3)
theorem IZ:∀ (p q:Pa) (x y:Option α) (t:Tr α),p≠q->lg p x (lg q y t)=lg q y (lg p x t)
 | .e,.e,x,y,t,h=>absurd rfl h
 | .a p,.a q,x,y,t,h=>congrArg (fun k=>Tr.node t.val k t.c1 t.c2 t.c3) (IZ p q x y t.c0 (fun e=>h (by rw[e])))
 | .b p,.b q,x,y,t,h=>congrArg (fun k=>Tr.node t.val t.c0 k t.c2 t.c3) (IZ p q x y t.c1 (fun e=>h (by rw[e])))
 | .c p,.c q,x,y,t,h=>congrArg (fun k=>Tr.node t.val t.c0 t.c1 k t.c3) (IZ p q x y t.c2 (fun e=>h (by rw[e])))
 | .d p,.d q,x,y,t,h=>congrArg (fun k=>Tr.node t.val t.c0 t.c1 t.c2 k) (IZ p q x y t.c3 (fun e=>h (by rw[e])))
 | .e,.a _,x,y,t,h=>rfl
 | .e,.b _,x,y,t,h=>rfl
 | .e,.c _,x,y,t,h=>rfl
 | .e,.d _,x,y,t,h=>rfl
 | .a _,.e,x,y,t,h=>rfl
 | .a _,.b _,x,y,t,h=>rfl
 | .a _,.c _,x,y,t,h=>rfl
 | .a _,.d _,x,y,t,h=>rfl
 | .b _,.e,x,y,t,h=>rfl
 | .b _,.a _,x,y,t,h=>rfl
 | .b _,.c _,x,y,t,h=>rfl
 | .b _,.d _,x,y,t,h=>rfl
 | .c _,.e,x,y,t,h=>rfl
 | .c _,.a _,x,y,t,h=>rfl
 | .c _,.b _,x,y,t,h=>rfl
 | .c _,.d _,x,y,t,h=>rfl
 | .d _,.e,x,y,t,h=>rfl
 | .d _,.a _,x,y,t,h=>rfl
 | .d _,.b _,x,y,t,h=>rfl
 | .d _,.c _,x,y,t,h=>rfl
theorem ajC {n m:Nat}(h:n≠m):pathOf n≠pathOf m:=by
 intro e
 have h1:=fH (α:=Unit) .nil n m (some ())
 have h2:(lg (pathOf n) (some ()) (.nil:Tr Unit)).get m=some ():=by
  unfold get
  rw[<-e]
  have:=fH (α:=Unit) .nil n n (some ())
  rw[if_pos rfl] at this
  exact this
 rw[h2,if_neg (fun q=>h q.symm)] at h1
 have:(.nil:Tr Unit).get m=none:=xX _
 rw[this] at h1
 cases h1
theorem ads:∀ (l:List α) (t:Tr α) (n m:Nat) (v:α),m<n->(t.cJ n l).df m v=(t.df m v).cJ n l
 | [],t,n,m,v,h=>rfl
 | x::l,t,n,m,v,h=>by
  show ((t.put 34 n x).cJ (n+1) l).df m v=((t.df m v).put 34 n x).cJ (n+1) l
  rw[ads l _ _ _ _ (by omega)]
  congr 1
  exact IZ _ _ _ _ _ (ajC (by omega))
theorem aeQ:∀ (l:List α) (t:Tr α) (n k:Nat) (v:α),k<l.length->(t.cJ n l).df (n+k) v=t.cJ n (l.set k v)
 | [],t,n,k,v,h=>by simp at h
 | x::l,t,n,0,v,h=>by
  show ((t.put 34 n x).cJ (n+1) l).df (n+0) v=(t.put 34 n v).cJ (n+1) l
  rw[ads l _ _ _ _ (by omega)]
  congr 1
  exact Ek _ _ _ _
 | x::l,t,n,k+1,v,h=>by
  show ((t.put 34 n x).cJ (n+1) l).df (n+(k+1)) v=(t.put 34 n x).cJ (n+1) (l.set k v)
  rw[show n+(k+1)=n+1+k by omega]
  exact aeQ l _ _ _ _ (by simpa using h)
end Tr
namespace K
def al (H:Hp)(l:List AV)(el fl:Nat):Hp:=⟨H.h.put 34 H.next (.cells (Tr.cJ .nil 0 l) 0 l.length el fl),H.next+1⟩
theorem gJ {H:Hp}{l:List AV}{el fl:Nat}(h:l.length<=16777216):aC H l el fl=some (H.next,al H l el fl):=by
 unfold aC alloc
 have:Nat.ble l.length 16777216=true:=afV.mpr h
 rw[this];rfl
theorem cu (H:Hp)(l:List AV)(el fl:Nat):(al H l el fl).next=H.next+1:=aaK rfl (id rfl)
theorem EH (H:Hp)(l:List AV)(el fl i:Nat):(al H l el fl).h.get i=if i=H.next then some (.cells (Tr.cJ .nil 0 l) 0 l.length el fl) else H.h.get i:=Tr.fH _ _ _ _
theorem aZ (H:Hp)(l:List AV)(el fl:Nat):Cs (al H l el fl) H.next l el fl:=by
 refine⟨ah3 _,Tr.cJ .nil 0 l,by rw[EH,if_pos rfl],fun k v hk => ?_⟩
 have:=(aaw.1 hk).1
 rw[yK,if_pos (by omega)];exact hk
theorem aG (H:Hp)(l:List AV)(el fl:Nat):Out [] H (al H l el fl):=⟨ahU _,fun j hj _=>by rw[EH,if_neg (by omega)]⟩
theorem Out.al {S:List Nat}{H H':Hp}(h:Out S H H')(l:List AV)(el fl:Nat):Out S H (al H' l el fl):=h.then (aG H' l el fl) fun j hj=>by cases hj
theorem TL {H H':Hp}{i o:Nat}(h:H'.h.get i=H.h.get i):cellAt H' i o=cellAt H i o:=by unfold cellAt;rw[h]
theorem Vx {H H':Hp}{i:Nat}(h:H'.h.get i=H.h.get i):∀ (n o:Nat),aq H' i o n=aq H i o n
 | 0,o=>rfl
 | n+1,o=>by unfold aq;rw[TL h,Vx h n]
theorem xu {H:Hp}{l:List AV}{el fl i o:Nat}(h:i=H.next):cellAt (al H l el fl) i o=l[o]? := by
 subst h
 cases hv:l[o]? with
 | some v=>exact (aZ H l el fl).cellAt hv
 | none=>
  unfold cellAt
  rw[EH,if_pos rfl]
  have:=List.getElem?_eq_none_iff.1 hv
  have hb:(Nat.ble 0 o&&Nat.blt o l.length)=false:=by
   rw[Bool.and_eq_false_iff];right
   rw[<-ah4,ae2];omega
  simp only[hb,cond_false]
theorem vM {H:Hp}{l:List AV}{el fl i o:Nat}(h:i<H.next):cellAt (al H l el fl) i o=cellAt H i o:=TL (by rw[EH,if_neg (by omega)])
theorem GG {H:Hp}{l:List AV}{el fl i o n:Nat}(h:i=H.next)(hn:o+n<=l.length):aq (al H l el fl) i o n=some ((l.drop o).take n):=by
 subst h;exact (aZ H l el fl).aq n o hn
theorem ab3 {H:Hp}{l:List AV}{el fl i o n:Nat}(h:i<H.next):aq (al H l el fl) i o n=aq H i o n:=Vx (by rw[EH,if_neg (by omega)]) _ _
theorem Out.cellAt {S:List Nat}{H H':Hp}(h:Out S H H'){i o:Nat}(hi:i<H.next)(hs:i∉S):cellAt H' i o=Am.cellAt H i o:=TL (h.2 i hi hs)
theorem Out.aq {S:List Nat}{H H':Hp}(h:Out S H H'){i o n:Nat}(hi:i<H.next)(hs:i∉S):aq H' i o n=Am.aq H i o n:=Vx (h.2 i hi hs) _ _
theorem Oc (i o:Nat)(H:Hp):ld (.ptr i o) H=cellAt H i o:=aaK rfl (id rfl)
theorem M3 (n i o:Nat)(H:Hp):az n (.ptr i o) H=(aq H i o n).map .agg:=aaK rfl (id rfl)
def js (l:List AV)(o:Nat):List AV->List AV
 | []=>l
 | v::vs=>js (l.set o v) (o+1) vs
theorem Jn:∀ (vs l:List AV) (o:Nat),(js l o vs).length=l.length
 | [],l,o=>rfl
 | v::vs,l,o=>by rw[js,Jn vs,adU]
theorem Ch:∀ (vs l:List AV) (o k:Nat),o+vs.length<=l.length->(js l o vs)[k]? = if o<=k/\k<o+vs.length then vs[k-o]? else l[k]?
 | [],l,o,k,h=>by rw[if_neg (by simp only[acG];omega)];rfl
 | v::vs,l,o,k,h=>by
  simp only[aa1] at h ⊢
  rw[js,Ch vs _ _ _ (by rw[adU];omega)]
  by_cases h1:o+1<=k/\k<o+1+vs.length
  ·rw[if_pos h1,if_pos (by omega),show k-o=(k-(o+1))+1 by omega,adL]
  ·rw[if_neg h1]
   by_cases h2:k=o
   ·subst h2
    rw[if_pos (by omega),aiG,ahC (by omega)];rfl
   ·rw[if_neg (by omega),aj5 (fun q=>h2 q.symm)]
theorem afE (vs l:List AV)(h:vs.length=l.length):js l 0 vs=vs:=by
 apply ajs
 intro k
 rw[Ch vs l 0 k (by omega)]
 split
 ·rw[aih]
 ·rename_i hn
  rw[ahX (by omega),ahX (by omega)]
theorem ag0 {H:Hp}{l:List AV}{el fl i o:Nat}{v:AV}(h:i=H.next)(hf:fl<=1)(ho:o<l.length)(hv:bq v=true):setCell (al H l el fl) i o v=some (al H (l.set o v) el fl):=by
 subst h
 have hs:((Tr.cJ .nil 0 l).get o).isSome=true:=by rw[yK,if_pos (by omega)];simp[ho]
 have hb:(Nat.ble 0 o&&Nat.blt o l.length&&Nat.ble fl 1&&((Tr.cJ .nil 0 l).get o).isSome&&bq v)=true:=by
  simp only[aaT,afV,ae2];exact⟨⟨⟨⟨by omega,ho⟩,hf⟩,hs⟩,hv⟩
 unfold setCell
 rw[EH,if_pos rfl]
 simp only[hb,cond_true]
 have e1:(Tr.cJ .nil 0 l).df o v=Tr.cJ .nil 0 (l.set o v):=by
  have:=Tr.aeQ l .nil 0 o v ho
  rw[aeJ] at this;exact this
 rw[e1]
 unfold al
 congr 2
 rw[adU]
 exact Tr.Ek _ _ _ _
theorem Q4 {H:Hp}{el fl i:Nat}(h:i=H.next)(hf:fl<=1):∀ (vs l:List AV) (o:Nat),o+vs.length<=l.length->(∀ v∈vs,bq v=true)->setCells (al H l el fl) i o vs=some (al H (js l o vs) el fl)
 | [],l,o,_,_=>rfl
 | v::vs,l,o,hl,hv=>by
  simp only[aa1] at hl
  unfold setCells
  rw[ag0 h hf (by omega) (hv v (.head _))]
  exact Q4 h hf vs _ _ (by rw[adU];omega) fun u hu=>hv u (.tail _ hu)
theorem Mq {v:AV}(h:bq v=true):rK v=some [v]:=by cases v<;>first | rfl | cases h
theorem Dv (l:List AV):rK (.agg l)=some l:=aaK rfl (id rfl)
theorem Oh {H:Hp}{l:List AV}{el fl i o:Nat}{v:AV}(hv:bq v=true)(h:i=H.next)(hf:fl<=1)(ho:o<l.length):st 1 (.ptr i o) v (al H l el fl)=some (al H (l.set o v) el fl):=by
 unfold st
 simp only[Mq hv]
 show setCells _ i o [v]=_
 exact Q4 h hf [v] l o (by simp only[aa1,acG];omega) fun u hu=>by rw[No] at hu;subst hu;exact hv
theorem iI {H:Hp}{l vs:List AV}{n el fl i:Nat}(hv:vs.all bq=true)(hn:n=vs.length)(h:i=H.next)(hf:fl<=1)(hl:l.length=vs.length):st n (.ptr i 0) (.agg vs) (al H l el fl)=some (al H vs el fl):=by
 unfold st
 have:Nat.beq n vs.length=true:=by subst hn;exact aie _
 simp only[Dv,this,cond_true]
 rw[Q4 h hf vs l 0 (by omega) (aeO.1 hv),afE vs l hl.symm]
theorem gh {H:Hp}{el:Nat}{l:List AV}(h:l.length<=16777216):bx el (.agg l) H=some (H.next,al H l el 0):=by
 unfold bx;simp only[Dv];exact gJ h
theorem ID {H:Hp}{el:Nat}{v:AV}(hv:bq v=true):bx el v H=some (H.next,al H [v] el 0):=by
 unfold bx;simp only[Mq hv];exact gJ (by simp)
theorem zX {z:List AV}{off:Nat}{v:AV}{r:List (Nat × Nat × AV)}(hv:bq v=true)(h:off+1<=z.length):fl z ((off,1,v)::r)=fl (z.set off v) r:=by
 have e:z.take off++[v]++z.drop (off+1)=z.set off v:=by
  rw[List.set_eq_take_append_cons_drop,if_pos (by omega)];simp
 show (match rK v with | some cs=>if cs.length=1/\off+1<=z.length then fl (z.take off++cs++z.drop (off+1)) r else none | none=>none)=_
 rw[Mq hv]
 simp only
 rw[if_pos ⟨rfl,h⟩,e]
theorem zI {z:List AV}{off n:Nat}{l:List AV}{r:List (Nat × Nat × AV)}(hn:l.length=n)(h:off+n<=z.length):fl z ((off,n,.agg l)::r)=fl (z.take off++l++z.drop (off+n)) r:=by
 show (match rK (.agg l) with | some cs=>if cs.length=n/\off+n<=z.length then fl (z.take off++cs++z.drop (off+n)) r else none | none=>none)=_
 rw[Dv]
 simp only
 rw[if_pos ⟨hn,h⟩]
theorem Rw.one {H:Hp}{es:Nat}{x:AV}{l:List AV}(h:Rw H es x l):bq x=true:=by cases h<;>rfl
theorem Ow.kC {H:Hp}{el es:Nat}{x:AV}{l:List AV}(h:Ow H el es x l):bq x=true:=h.rw.one
theorem uB {H:Hp}{el es fM:Nat}{z:List AV}{s:AV}{l vs:List AV}(h:Ow H el es s l)(hv:vs.all bq=true)(hn:vs.length=es)(dK:0<es)(hlen:l.length+vs.length<=16777216) :
  ∃ s' H',(∀ i,i=H.next->eV el es z false s (.slice i 0 1 1 true es) (al H vs fM 0)=some (s',H'))/\Ow H' el es s' (l++vs)/\Out (ah s) H H'/\(∀ j∈ah s',j∈ah s\/H.next<=j)/\bq s'=true:=by
 have c:=aZ H vs fM 0
 have hr:Rw (al H vs fM 0) es (.slice H.next 0 1 1 true es) vs := .mk c.ro (by rw[hn,ajO]) (aaU _) rfl
 have ho:Ow (al H vs fM 0) el es s l:=h.out (aG H vs fM 0) fun j hj=>by simp
 obtain⟨s',H',h1,h2,h3,h4⟩:=XW (z:=z) ho hr (aeO.1 hv) dK hlen
 refine⟨s',H',fun i hi=>by subst hi;exact h1,h2,((aG H vs fM 0).mono (S':=ah s) (fun j hj=>by cases hj)).then h3 (fun j hj => .inl hj),fun j hj=>(h4 j hj).imp id fun q=>by rw[cu] at q;omega,h2.kC⟩
theorem Y3 {s:List Nat}{m:Nat}(k:IntKind)(h:m<=s.length):oL (.str s) none (some (.int k m))=some (.str (s.take m)):=by
 unfold oL
 simp only[Bo (ace m) h (aaU _) (Bd.no 0) (Bd.yes k m _),ae6,abK,aih]
theorem Wx {s:List Nat}{m:Nat}(k:IntKind)(h:m<=s.length):oL (.str s) (some (.int k m)) none=some (.str (s.drop m)):=by
 unfold oL
 simp only[Bo h (aaU _) (aaU _) (Bd.yes k m 0) (Bd.no _),ae6]
 rw[ag8 (by rw[ahT];omega)]
theorem aci {s:List Nat}{a b:Nat}(k j:IntKind)(xv:a<=b)(h:b<=s.length):oL (.str s) (some (.int k a)) (some (.int j b))=some (.str ((s.drop a).take (b-a))):=by
 unfold oL
 simp only[Bo xv h (aaU _) (Bd.yes k a 0) (Bd.yes j b _),ae6]
theorem avo {s:List Nat}{i b:Nat}(k:IntKind)(h:s[i]? = some b):wW (.str s) (.int k i)=some (.int .u8 b):=by
 unfold wW
 simp only
 rw[if_pos (by omega),acB,h];rfl
theorem aeK {s:List Nat}{b:Nat}(k:IntKind)(h:s[0]? = some b):wW (.str s) (.int k 0)=some (.int .u8 b):=avo (i:=0) k h
theorem Rw.ia {H:Hp}{es n:Nat}{x:AV}{l:List AV}(h:Rw H es x l)(hl:l.length=n*es)(dK:0<es){i:Nat}(hi:i<n):∃ b o,(∀ k,ia es x (.int k i)=some (.ptr b o))/\b∈ah x/\b<H.next/\
  (∀ k v,l[i*es+k]? = some v->k<es->cellAt H b (o+k)=some v)/\aq H b o es=some ((l.drop (i*es)).take es):=by
 cases h with
 | nil=>
  simp only[acG] at hl
  rcases Nat.mul_eq_zero.1 hl.symm with q | q<;>omega
 | emp=>
  simp only[acG] at hl
  rcases Nat.mul_eq_zero.1 hl.symm with q | q<;>omega
 | @mk j off m cap ex l hr hn hc he=>
  have hm:m=n:=Nat.eq_of_mul_eq_mul_right dK (hn.symm.trans hl)
  subst hm
  have hle:(i+1)*es<=m*es:=agV _ hi
  rw[ahJ,ajO] at hle
  refine⟨j,off+i*es,fun k=>Ai hi,by rw[nF he];exact .head _,hr.1,fun k v hk _ => ?_,?_⟩
  ·rw[ajG];exact hr.cellAt hk
  ·have h1:=((hr.drop (i*es) (by omega)).take es).aq
   rw[afs,ahT,Nat.min_eq_left (by omega)] at h1
   exact h1
def RL (H:Hp)(es:Nat)(x:AV)(L:List (List AV)):Prop:=Rw H es x L.flatten/\∀ c∈L,c.length=es
def OL (H:Hp)(el es:Nat)(x:AV)(L:List (List AV)):Prop:=Ow H el es x L.flatten/\∀ c∈L,c.length=es
theorem AG {es:Nat}:∀ {L:List (List AV)},(∀ c∈L,c.length=es)->L.flatten.length=L.length*es
 | [],_=>by simp
 | c::L,h=>by
  rw[akC,abj,h c (.head _),AG fun d hd=>h d (.tail _ hd),aa1,ahJ];omega
theorem aag {es:Nat}:∀ {L:List (List AV)} {i:Nat} {c:List AV},(∀ c∈L,c.length=es)->L[i]? = some c->(L.flatten.drop (i*es)).take es=c
 | [],i,c,_,h=>by simp at h
 | a::L,0,c,hl,h=>by
  simp only[aek,adE] at h
  subst h
  have:=hl a (.head _)
  rw[aiA,abK,akC,List.take_append_of_le_length (by omega),ag8 (by omega)]
 | a::L,i+1,c,hl,h=>by
  simp only[adL] at h
  have ha:=hl a (.head _)
  rw[akC,ahJ,ajO,List.drop_append,aiv (by omega),ai6,ha,Nat.add_sub_cancel]
  exact aag (fun d hd=>hl d (.tail _ hd)) h
theorem OL.rl {H:Hp}{el es:Nat}{x:AV}{L:List (List AV)}(h:OL H el es x L):RL H es x L:=⟨h.1.rw,h.2⟩
theorem RL.out {H H':Hp}{es:Nat}{x:AV}{L:List (List AV)}{S:List Nat}(h:RL H es x L)(k:Out S H H')(hi:∀ j∈ah x,j∉S):RL H' es x L:=⟨h.1.out k hi,h.2⟩
theorem RL.ar {H H':Hp}{es:Nat}{x:AV}{L:List (List AV)}(h:RL H es x L)(k:Out [] H H'):RL H' es x L:=h.out k fun _ _ q=>by cases q
theorem Rw.ar {H H':Hp}{es:Nat}{x:AV}{l:List AV}(h:Rw H es x l)(k:Out [] H H'):Rw H' es x l:=h.out k fun _ _ q=>by cases q
theorem OL.out {H H':Hp}{el es:Nat}{x:AV}{L:List (List AV)}{S:List Nat}(h:OL H el es x L)(k:Out S H H')(hi:∀ j∈ah x,j∉S):OL H' el es x L:=⟨h.1.out k hi,h.2⟩
theorem RL.one {H:Hp}{es:Nat}{x:AV}{L:List (List AV)}(h:RL H es x L):bq x=true:=h.1.one
theorem RL.len {H:Hp}{es:Nat}{x:AV}{L:List (List AV)}(h:RL H es x L)(dK:0<es):aK x=some (.int .i64 (L.length:Nat)):=by
 obtain⟨n,h1,h2⟩:=h.1.len
 rw[AG h.2] at h2
 rw[h1,Nat.eq_of_mul_eq_mul_right dK h2]
theorem RL.at {H:Hp}{es:Nat}{x:AV}{L:List (List AV)}(h:RL H es x L)(dK:0<es){i:Nat}{c:List AV}(hi:L[i]? = some c):∃ b o,(∀ k,ia es x (.int k i)=some (.ptr b o))/\b∈ah x/\b<H.next/\aq H b o es=some c/\∀ k v,c[k]? = some v->cellAt H b (o+k)=some v:=by
 have bD:=(aaw.1 hi).1
 obtain⟨b,o,h1,h2,h3,h4,h5⟩:=h.1.ia (AG h.2) dK bD
 have hf:=aag h.2 hi
 rw[hf] at h5
 refine⟨b,o,h1,h2,h3,h5,fun k v hv => ?_⟩
 have hk:k<es:=by have:=(aaw.1 hv).1;rw[h.2 c (aaO hi)] at this;exact this
 refine h4 k v ?_ hk
 rw[<-hf,aiC,if_pos hk,ahj] at hv
 exact hv
theorem OL.nil (H:Hp)(el es:Nat):OL H el es .ae []:=⟨.nil,fun c hc=>by cases hc⟩
theorem RL.nil (H:Hp)(es:Nat):RL H es .ae []:=⟨.nil,fun c hc=>by cases hc⟩
theorem OL.push {H:Hp}{el es fM:Nat}{z:List AV}{s:AV}{L:List (List AV)}{vs:List AV}(h:OL H el es s L)(hv:vs.all bq=true)(hn:vs.length=es)(dK:0<es)(hlen:(L.length+1)*es<=16777216) :
  ∃ s' H',(∀ i,i=H.next->eV el es z false s (.slice i 0 1 1 true es) (al H vs fM 0)=some (s',H'))/\OL H' el es s' (L++[vs])/\Out (ah s) H H'/\(∀ j∈ah s',j∈ah s\/H.next<=j)/\bq s'=true:=by
 obtain⟨s',H',h1,h2,h3⟩:=uB (fM:=fM) (z:=z) h.1 hv hn dK (by rw[AG h.2,hn];rw[ahJ,ajO] at hlen;exact hlen)
 refine⟨s',H',h1,⟨by rw[List.flatten_append];simpa using h2,fun c hc => ?_⟩,h3⟩
 rcases abN.1 hc with hc | hc
 ·exact h.2 c hc
 ·rw[No] at hc;subst hc;exact hn
theorem OL.one {H:Hp}{el es:Nat}{x:AV}{L:List (List AV)}(h:OL H el es x L):∀ c∈L,c.all bq=true:=fun c hc=>by
 rw[aeO]
 intro v hv
 exact h.1.one v (aj2.2 ⟨c,hc,hv⟩)
theorem eF {α:Type}{l r:List α}{i:Nat}{a:α}(h:l.drop i=a::r):i<l.length/\l[i]? = some a/\l.drop (i+1)=r:=by
 have h1:i<l.length:=by
  have:=congrArg List.length h
  rw[ahT,aa1] at this;omega
 refine⟨h1,?_,?_⟩
 ·have:=ahj (xs:=l) (i:=i) (j:=0)
  rw[h,afF] at this
  rw[<-this];rfl
 ·have:=List.drop_drop (l:=l) (i:=1) (j:=i)
  rw[h] at this
  rw[<-this];rfl
theorem Out.nx {S:List Nat}{H H':Hp}(h:Out S H H'):H.next<=H'.next:=h.1
theorem Ly {H:Hp}{el fM es:Nat}{z:List AV}{x:AV}{l:List AV}(hx:Rw H es x l)(ho:∀ v∈l,bq v=true)(dK:0<es)(hlen:l.length<=16777216) :
  ∃ s' H',eV el es z false (.slice H.next 0 0 0 true es) x (al H [] fM 0)=some (s',H')/\Ow H' el es s' l/\Out [] H H'/\(∀ j∈ah s',H.next<=j):=by
 have ha:=aG H [] fM 0
 obtain⟨s',H',h1,h2,h3,h4⟩:=XW (z:=z) (Ow.emp (H:=al H [] fM 0) (el:=el) (es:=es) (i:=H.next) (off:=0)) (hx.ar ha) ho dK (by simpa using hlen)
 refine⟨s',H',h1,by simpa using h2,ha.then h3 (fun j hj=>by cases hj),fun j hj => ?_⟩
 rcases h4 j hj with q | q
 ·cases q
 ·rw[cu] at q;omega
theorem aaL {n s i off z:Nat}(k:IntKind)(h:z<n):pj n s (.ptr i off) (.int k z)=some (.ptr i (off+z*s)):=by
 unfold pj
 simp only
 rw[if_pos (by omega),acB]
theorem VM {n s i off:Nat}(k:IntKind)(h:0<n):pj n s (.ptr i off) (.int k 0)=some (.ptr i off):=by
 have:=aaL (s:=s) (i:=i) (off:=off) k h
 rw[aiA] at this
 exact this
theorem aaA {n i off:Nat}(k:IntKind)(h:1<n):pj n 1 (.ptr i off) (.int k 1)=some (.ptr i (off+1)):=by
 have:=aaL (s:=1) (i:=i) (off:=off) k h
 exact this
theorem jN (k:IntKind)(n:Int):bq (.int k n)=true:=aaK rfl (id rfl)
theorem EI (s:List Nat):bq (.str s)=true:=aaK rfl (id rfl)
theorem XA (b:Bool):bq (.bool b)=true:=aaK rfl (id rfl)
theorem abU (i o:Nat):bq (.ptr i o)=true:=aaK rfl (id rfl)
theorem acd:bq .dR=true:=aaK rfl (id rfl)
theorem afJ (i o n c:Nat)(x:Bool)(es:Nat):bq (.slice i o n c x es)=true:=aaK rfl (id rfl)
theorem abW:bq .ae=true:=aaK rfl (id rfl)
theorem aac (i:Nat):bq (.map i)=true:=aaK rfl (id rfl)
theorem Y9:bq .jZ=true:=aaK rfl (id rfl)
theorem acb (f:Go.Fn)(a b:List AV):bq (.func f a b)=true:=aaK rfl (id rfl)
theorem adi:bq .nilFunc=true:=aaK rfl (id rfl)
theorem ab4:bq .nilIface=true:=aaK rfl (id rfl)
theorem aer (t:TypeId)(v:AV):bq (.iface t v)=true:=aaK rfl (id rfl)
theorem ag:type_of% (And.intro @acM (And.intro @Yr (And.intro @aaD (And.intro @X8 (And.intro @aav (And.intro @Yi (And.intro @acA (And.intro @V9 (And.intro @aa9 (And.intro @VX (And.intro @adu (And.intro @Xd (And.intro @XM (And.intro @aan (And.intro @YM (And.intro @V6 (And.intro @acV (And.intro @abf (And.intro @afm (And.intro @afz (And.intro @adq (And.intro @ac1 (And.intro @aaM (And.intro @ac6 (And.intro @adS (And.intro @YB (And.intro @WY (And.intro @XB (And.intro @X2 (And.intro @XH (And.intro @afb (And.intro @YA (And.intro @aeT (And.intro @Xa (And.intro @acn (And.intro @Wn (And.intro @ZP (And.intro @Xr (And.intro @VW (And.intro @W6 (And.intro @abq (And.intro @VE (And.intro @adv (And.intro @adm (And.intro @acK (And.intro @YE (And.intro @XD (And.intro @Y5 (And.intro @abz (And.intro @ab7 (And.intro @Zh (And.intro @Xb (And.intro @afH (And.intro @abk (And.intro @acf (And.intro @aay (And.intro @abm (And.intro @abi (And.intro @On (And.intro @afP (And.intro @afp (And.intro @Y7 (And.intro @VF (And.intro @VY (And.intro @afD (And.intro @acC (And.intro @Zg (And.intro @adP (And.intro @YG (And.intro @aaB (And.intro @acQ (And.intro @afB (And.intro @ZO @afo))))))))))))))))))))))))))))))))))))))))))))))))))))))))))))))))))))))))):=And.intro @acM (And.intro @Yr (And.intro @aaD (And.intro @X8 (And.intro @aav (And.intro @Yi (And.intro @acA (And.intro @V9 (And.intro @aa9 (And.intro @VX (And.intro @adu (And.intro @Xd (And.intro @XM (And.intro @aan (And.intro @YM (And.intro @V6 (And.intro @acV (And.intro @abf (And.intro @afm (And.intro @afz (And.intro @adq (And.intro @ac1 (And.intro @aaM (And.intro @ac6 (And.intro @adS (And.intro @YB (And.intro @WY (And.intro @XB (And.intro @X2 (And.intro @XH (And.intro @afb (And.intro @YA (And.intro @aeT (And.intro @Xa (And.intro @acn (And.intro @Wn (And.intro @ZP (And.intro @Xr (And.intro @VW (And.intro @W6 (And.intro @abq (And.intro @VE (And.intro @adv (And.intro @adm (And.intro @acK (And.intro @YE (And.intro @XD (And.intro @Y5 (And.intro @abz (And.intro @ab7 (And.intro @Zh (And.intro @Xb (And.intro @afH (And.intro @abk (And.intro @acf (And.intro @aay (And.intro @abm (And.intro @abi (And.intro @On (And.intro @afP (And.intro @afp (And.intro @Y7 (And.intro @VF (And.intro @VY (And.intro @afD (And.intro @acC (And.intro @Zg (And.intro @adP (And.intro @YG (And.intro @aaB (And.intro @acQ (And.intro @afB (And.intro @ZO @afo))))))))))))))))))))))))))))))))))))))))))))))))))))))))))))))))))))))))
theorem aj:type_of% (And.intro @VM (And.intro @aaA (And.intro @gJ (And.intro @cu (And.intro @Oc (And.intro @M3 (And.intro @xu (And.intro @vM (And.intro @GG (And.intro @ab3 (And.intro @Oh (And.intro @iI (And.intro @gh (And.intro @ID (And.intro @rZ (And.intro @zX @zI)))))))))))))))):=And.intro @VM (And.intro @aaA (And.intro @gJ (And.intro @cu (And.intro @Oc (And.intro @M3 (And.intro @xu (And.intro @vM (And.intro @GG (And.intro @ab3 (And.intro @Oh (And.intro @iI (And.intro @gh (And.intro @ID (And.intro @rZ (And.intro @zX @zI)))))))))))))))
theorem ab:type_of% (And.intro @jN (And.intro @EI (And.intro @XA (And.intro @abU (And.intro @acd (And.intro @afJ (And.intro @abW (And.intro @aac (And.intro @Y9 (And.intro @acb (And.intro @adi (And.intro @ab4 (And.intro @aer @cu))))))))))))):=And.intro @jN (And.intro @EI (And.intro @XA (And.intro @abU (And.intro @acd (And.intro @afJ (And.intro @abW (And.intro @aac (And.intro @Y9 (And.intro @acb (And.intro @adi (And.intro @ab4 (And.intro @aer @cu))))))))))))
theorem af:(∀ (a:AV) (l:List AV),(a::l)[0]? = some a)/\(∀ (a:AV) (l:List AV) (i:Nat),(a::l)[i+1]? = l[i]?)/\(∀ n:Nat,0+n=n)/\((!true)=false)/\((!false)=true)/\(∀ h:Decidable True,@decide True h=true)/\(∀ h:Decidable False,@decide False h=false)/\(∀ a:Int,(a==a)=true)/\(∀ a:List Nat,(a==a)=true)/\(∀ a:Int,(a != a)=false)/\(∀ a:List Nat,(a != a)=false)/\(∀ a b:Int,(a ≥ b)=(b<=a))/\(∀ a b:Int,(a>b)=(b<a)):=
 ⟨fun _ _=>rfl,fun _ _ _=>rfl,aeJ,rfl,rfl,fun _=>decide_eq_true trivial,fun _=>decide_eq_false id,fun _=>beq_self_eq_true _,fun _=>beq_self_eq_true _,fun _=>bne_self_eq_false _,fun _=>bne_self_eq_false _,fun _ _=>rfl,fun _ _=>rfl⟩
theorem ak:(∀ (f:List AV->AV) (l:List AV),Option.map f (some l)=some (f l))/\(∀ l:List AV,l.drop 0=l)/\(∀ (n:Nat) (a:AV) (l:List AV),(a::l).take (n+1)=a::l.take n)/\(∀ l:List AV,l.take 0=[])/\(∀ (n:Nat) (a:AV) (l:List AV),(a::l).drop (n+1)=l.drop n)/\(∀ (a b:AV) (l:List AV),(a::l).set 0 b=b::l)/\(∀ (n:Nat) (a b:AV) (l:List AV),(a::l).set (n+1) b=a::l.set n b)/\(∀ l:List AV,[]++l=l)/\(∀ (a:AV) (l m:List AV),a::l++m=a::(l++m))/\(∀ l:List AV,l++[]=l)/\(∀ n:Nat,n+0=n):=
 ⟨fun _ _=>rfl,fun _=>rfl,fun _ _ _=>rfl,fun _=>rfl,fun _ _ _=>rfl,fun _ _ _=>rfl,fun _ _ _ _=>rfl,fun _=>rfl,fun _ _ _=>rfl,af9,fun _=>rfl⟩
theorem aa:(∀ (H:Hp) (l:List AV) (el fl:Nat),(al H l el fl).next=H.next+1)/\(∀ (a:AV) (l:List AV),(a::l).length=l.length+1)/\(([]:List AV).length=0)/\(∀ (p:AV->Bool) (a:AV) (l:List AV),(a::l).all p=(p a&&l.all p))/\(∀ p:AV->Bool,([]:List AV).all p=true)/\(∀ b:Bool,(b&&true)=b)/\(∀ b:Bool,(true&&b)=b)/\(∀ b:Bool,(b&&b)=b)/\(∀ n:Nat,0+n=n)/\(∀ n:Nat,(n<=n)=True):=
 ⟨fun _ _ _ _=>rfl,fun _ _=>rfl,rfl,fun _ _ _=>rfl,fun _=>rfl,Bool.and_true,ac5,Bool.and_self,aeJ,fun n=>eq_true (aaU n)⟩
end K
end Go.Proofs.YtodfajmihkagnaaGreatDoor.Am
