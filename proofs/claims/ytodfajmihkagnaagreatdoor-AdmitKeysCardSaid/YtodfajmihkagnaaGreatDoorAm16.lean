/- A heap with a new object on top, written out (of no program). -/
import Derived.Test.YtodfajmihkagnaaGreatDoorAm15
set_option linter.unusedVariables false
set_option linter.unusedSimpArgs false
namespace Go.Proofs.YtodfajmihkagnaaGreatDoor.Am
set_option linter.unusedVariables false
set_option linter.unusedSimpArgs false
namespace Tr
variable {α:Type}
theorem Dx:∀ (p:Pa) (x y:Option α) (t:Tr α),ko p y (ko p x t)=ko p y t
 | .e,x,y,t=>rfl
 | .a p,x,y,t=>congrArg (fun k=>Tr.node t.val k t.c1 t.c2 t.c3) (Dx p x y t.c0)
 | .b p,x,y,t=>congrArg (fun k=>Tr.node t.val t.c0 k t.c2 t.c3) (Dx p x y t.c1)
 | .c p,x,y,t=>congrArg (fun k=>Tr.node t.val t.c0 t.c1 k t.c3) (Dx p x y t.c2)
 | .d p,x,y,t=>congrArg (fun k=>Tr.node t.val t.c0 t.c1 t.c2 k) (Dx p x y t.c3)
theorem Hi:∀ (p q:Pa) (x y:Option α) (t:Tr α),p≠q->ko p x (ko q y t)=ko q y (ko p x t)
 | .e,.e,x,y,t,h=>absurd rfl h
 | .a p,.a q,x,y,t,h=>congrArg (fun k=>Tr.node t.val k t.c1 t.c2 t.c3) (Hi p q x y t.c0 (fun e=>h (by rw[e])))
 | .b p,.b q,x,y,t,h=>congrArg (fun k=>Tr.node t.val t.c0 k t.c2 t.c3) (Hi p q x y t.c1 (fun e=>h (by rw[e])))
 | .c p,.c q,x,y,t,h=>congrArg (fun k=>Tr.node t.val t.c0 t.c1 k t.c3) (Hi p q x y t.c2 (fun e=>h (by rw[e])))
 | .d p,.d q,x,y,t,h=>congrArg (fun k=>Tr.node t.val t.c0 t.c1 t.c2 k) (Hi p q x y t.c3 (fun e=>h (by rw[e])))
 | .e,.a _,x,y,t,h=>rfl
 | .e,.b _,x,y,t,h=>rfl
 | .e,.c _,x,y,t,h=>rfl
 | .e,.d _,x,y,t,h=>rfl
 | .a _,.e,x,y,t,h=>rfl
 | .a _,.b _,x,y,t,h=>rfl
 | .a _,.c _,x,y,t,h=>rfl
 | .a _,.d _,x,y,t,h=>rfl
 | .b _,.e,x,y,t,h=>rfl
 | .b _,.a _,x,y,t,h=>rfl
 | .b _,.c _,x,y,t,h=>rfl
 | .b _,.d _,x,y,t,h=>rfl
 | .c _,.e,x,y,t,h=>rfl
 | .c _,.a _,x,y,t,h=>rfl
 | .c _,.b _,x,y,t,h=>rfl
 | .c _,.d _,x,y,t,h=>rfl
 | .d _,.e,x,y,t,h=>rfl
 | .d _,.a _,x,y,t,h=>rfl
 | .d _,.b _,x,y,t,h=>rfl
 | .d _,.c _,x,y,t,h=>rfl
theorem aed {n m:Nat}(h:n≠m):pathOf n≠pathOf m:=by
 intro e
 have h1:=fj (α:=Unit) .nil n m (some ())
 have h2:(ko (pathOf n) (some ()) (.nil:Tr Unit)).get m=some ():=by
  unfold get
  rw[<-e]
  have:=fj (α:=Unit) .nil n n (some ())
  rw[if_pos rfl] at this
  exact this
 rw[h2,if_neg (fun q=>h q.symm)] at h1
 have:(.nil:Tr Unit).get m=none:=vY _
 rw[this] at h1
 cases h1
theorem S8:∀ (l:List α) (t:Tr α) (n m:Nat) (v:α),m<n->(t.bY n l).bP m v=(t.bP m v).bY n l
 | [],t,n,m,v,h=>rfl
 | x::l,t,n,m,v,h=>by
  show ((t.put 34 n x).bY (n+1) l).bP m v=((t.bP m v).put 34 n x).bY (n+1) l
  rw[S8 l _ _ _ _ (by omega)]
  congr 1
  exact Hi _ _ _ _ _ (aed (by omega))
theorem Yn:∀ (l:List α) (t:Tr α) (n k:Nat) (v:α),k<l.length->(t.bY n l).bP (n+k) v=t.bY n (l.set k v)
 | [],t,n,k,v,h=>by simp at h
 | x::l,t,n,0,v,h=>by
  show ((t.put 34 n x).bY (n+1) l).bP (n+0) v=(t.put 34 n v).bY (n+1) l
  rw[S8 l _ _ _ _ (by omega)]
  congr 1
  exact Dx _ _ _ _
 | x::l,t,n,k+1,v,h=>by
  show ((t.put 34 n x).bY (n+1) l).bP (n+(k+1)) v=(t.put 34 n x).bY (n+1) (l.set k v)
  rw[show n+(k+1)=n+1+k by omega]
  exact Yn l _ _ _ _ (by simpa using h)
end Tr
namespace K
def al (H:Hp)(l:List AV)(el fl:Nat):Hp:=⟨H.h.put 34 H.next (.cells (Tr.bY .nil 0 l) 0 l.length el fl),H.next+1⟩
theorem gk {H:Hp}{l:List AV}{el fl:Nat}(h:l.length<=16777216):aE H l el fl=some (H.next,al H l el fl):=by
 unfold aE alloc
 have:Nat.ble l.length 16777216=true:=aer.mpr h
 rw[this];rfl
theorem bK (H:Hp)(l:List AV)(el fl:Nat):(al H l el fl).next=H.next+1:=aal rfl (id rfl)
theorem CH (H:Hp)(l:List AV)(el fl i:Nat):(al H l el fl).h.get i=if i=H.next then some (.cells (Tr.bY .nil 0 l) 0 l.length el fl) else H.h.get i:=Tr.fj _ _ _ _
theorem bg (H:Hp)(l:List AV)(el fl:Nat):Cs (al H l el fl) H.next l el fl:=by
 refine⟨ahw _,Tr.bY .nil 0 l,by rw[CH,if_pos rfl],fun k v hk => ?_⟩
 have:=(aah.1 hk).1
 rw[xB,if_pos (by omega)];exact hk
theorem aI (H:Hp)(l:List AV)(el fl:Nat):Out [] H (al H l el fl):=⟨afh _,fun j hj _=>by rw[CH,if_neg (by omega)]⟩
theorem Out.al {S:List Nat}{H H':Hp}(h:Out S H H')(l:List AV)(el fl:Nat):Out S H (al H' l el fl):=h.then (aI H' l el fl) fun j hj=>by cases hj
theorem MI {H H':Hp}{i o:Nat}(h:H'.h.get i=H.h.get i):cellAt H' i o=cellAt H i o:=by unfold cellAt;rw[h]
theorem Ml {H H':Hp}{i:Nat}(h:H'.h.get i=H.h.get i):∀ (n o:Nat),ar H' i o n=ar H i o n
 | 0,o=>rfl
 | n+1,o=>by unfold ar;rw[MI h,Ml h n]
theorem vP {H:Hp}{l:List AV}{el fl i o:Nat}(h:i=H.next):cellAt (al H l el fl) i o=l[o]? := by
 subst h
 cases hv:l[o]? with
 | some v=>exact (bg H l el fl).cellAt hv
 | none=>
  unfold cellAt
  rw[CH,if_pos rfl]
  have:=List.getElem?_eq_none_iff.1 hv
  have hb:(Nat.ble 0 o&&Nat.blt o l.length)=false:=by
   rw[Bool.and_eq_false_iff];right
   rw[<-agk,adE];omega
  simp only[hb,cond_false]
theorem tQ {H:Hp}{l:List AV}{el fl i o:Nat}(h:i<H.next):cellAt (al H l el fl) i o=cellAt H i o:=MI (by rw[CH,if_neg (by omega)])
theorem Fg {H:Hp}{l:List AV}{el fl i o n:Nat}(h:i=H.next)(hn:o+n<=l.length):ar (al H l el fl) i o n=some ((l.drop o).take n):=by
 subst h;exact (bg H l el fl).ar n o hn
theorem Vs {H:Hp}{l:List AV}{el fl i o n:Nat}(h:i<H.next):ar (al H l el fl) i o n=ar H i o n:=Ml (by rw[CH,if_neg (by omega)]) _ _
theorem Out.cellAt {S:List Nat}{H H':Hp}(h:Out S H H'){i o:Nat}(hi:i<H.next)(hs:i∉S):cellAt H' i o=Am.cellAt H i o:=MI (h.2 i hi hs)
theorem Out.ar {S:List Nat}{H H':Hp}(h:Out S H H'){i o n:Nat}(hi:i<H.next)(hs:i∉S):ar H' i o n=Am.ar H i o n:=Ml (h.2 i hi hs) _ _
theorem La (i o:Nat)(H:Hp):ld (.ptr i o) H=cellAt H i o:=aal rfl (id rfl)
theorem Jx (n i o:Nat)(H:Hp):aA n (.ptr i o) H=(ar H i o n).map .agg:=aal rfl (id rfl)
def iO (l:List AV)(o:Nat):List AV->List AV
 | []=>l
 | v::vs=>iO (l.set o v) (o+1) vs
theorem Gv:∀ (vs l:List AV) (o:Nat),(iO l o vs).length=l.length
 | [],l,o=>rfl
 | v::vs,l,o=>by rw[iO,Gv vs,ac4]
theorem AN:∀ (vs l:List AV) (o k:Nat),o+vs.length<=l.length->(iO l o vs)[k]? = if o<=k/\k<o+vs.length then vs[k-o]? else l[k]?
 | [],l,o,k,h=>by rw[if_neg (by simp only[acG];omega)];rfl
 | v::vs,l,o,k,h=>by
  simp only[aaL] at h ⊢
  rw[iO,AN vs _ _ _ (by rw[ac4];omega)]
  by_cases h1:o+1<=k/\k<o+1+vs.length
  ·rw[if_pos h1,if_pos (by omega),show k-o=(k-(o+1))+1 by omega,ac1]
  ·rw[if_neg h1]
   by_cases h2:k=o
   ·subst h2
    rw[if_pos (by omega),ahb,afy (by omega)];rfl
   ·rw[if_neg (by omega),aia (fun q=>h2 q.symm)]
theorem U3 (vs l:List AV)(h:vs.length=l.length):iO l 0 vs=vs:=by
 apply ahF
 intro k
 rw[AN vs l 0 k (by omega)]
 split
 ·rw[agq]
 ·rename_i hn
  rw[af1 (by omega),af1 (by omega)]
theorem alR {H:Hp}{l:List AV}{el fl i o:Nat}{v:AV}(h:i=H.next)(hf:fl<=1)(ho:o<l.length)(hv:aY v=true):setCell (al H l el fl) i o v=some (al H (l.set o v) el fl):=by
 subst h
 have hs:((Tr.bY .nil 0 l).get o).isSome=true:=by rw[xB,if_pos (by omega)];simp[ho]
 have hb:(Nat.ble 0 o&&Nat.blt o l.length&&Nat.ble fl 1&&((Tr.bY .nil 0 l).get o).isSome&&aY v)=true:=by
  simp only[aau,aer,adE];exact⟨⟨⟨⟨by omega,ho⟩,hf⟩,hs⟩,hv⟩
 unfold setCell
 rw[CH,if_pos rfl]
 simp only[hb,cond_true]
 have e1:(Tr.bY .nil 0 l).bP o v=Tr.bY .nil 0 (l.set o v):=by
  have:=Tr.Yn l .nil 0 o v ho
  rw[adG] at this;exact this
 rw[e1]
 unfold al
 congr 2
 rw[ac4]
 exact Tr.Dx _ _ _ _
theorem QJ {H:Hp}{el fl i:Nat}(h:i=H.next)(hf:fl<=1):∀ (vs l:List AV) (o:Nat),o+vs.length<=l.length->(∀ v∈vs,aY v=true)->setCells (al H l el fl) i o vs=some (al H (iO l o vs) el fl)
 | [],l,o,_,_=>rfl
 | v::vs,l,o,hl,hv=>by
  simp only[aaL] at hl
  unfold setCells
  rw[alR h hf (by omega) (hv v (.head _))]
  exact QJ h hf vs _ _ (by rw[ac4];omega) fun u hu=>hv u (.tail _ hu)
theorem Lf {v:AV}(h:aY v=true):qg v=some [v]:=by cases v<;>first | rfl | cases h
theorem Ar (l:List AV):qg (.agg l)=some l:=aal rfl (id rfl)
theorem Sy {H:Hp}{l:List AV}{el fl i o:Nat}{v:AV}(hv:aY v=true)(h:i=H.next)(hf:fl<=1)(ho:o<l.length):st 1 (.ptr i o) v (al H l el fl)=some (al H (l.set o v) el fl):=by
 unfold st
 simp only[Lf hv]
 show setCells _ i o [v]=_
 exact QJ h hf [v] l o (by simp only[aaL,acG];omega) fun u hu=>by rw[No] at hu;subst hu;exact hv
theorem iI {H:Hp}{l vs:List AV}{n el fl i:Nat}(hv:vs.all aY=true)(hn:n=vs.length)(h:i=H.next)(hf:fl<=1)(hl:l.length=vs.length):st n (.ptr i 0) (.agg vs) (al H l el fl)=some (al H vs el fl):=by
 unfold st
 have:Nat.beq n vs.length=true:=by subst hn;exact agQ _
 simp only[Ar,this,cond_true]
 rw[QJ h hf vs l 0 (by omega) (adA.1 hv),U3 vs l hl.symm]
theorem ji {H:Hp}{el:Nat}{l:List AV}(h:l.length<=16777216):bx el (.agg l) H=some (H.next,al H l el 0):=by
 unfold bx;simp only[Ar];exact gk h
theorem MD {H:Hp}{el:Nat}{v:AV}(hv:aY v=true):bx el v H=some (H.next,al H [v] el 0):=by
 unfold bx;simp only[Lf hv];exact gk (by simp)
theorem Ez {z:List AV}{off:Nat}{v:AV}{r:List (Nat × Nat × AV)}(hv:aY v=true)(h:off+1<=z.length):fl z ((off,1,v)::r)=fl (z.set off v) r:=by
 have e:z.take off++[v]++z.drop (off+1)=z.set off v:=by
  rw[List.set_eq_take_append_cons_drop,if_pos (by omega)];simp
 show (match qg v with | some cs=>if cs.length=1/\off+1<=z.length then fl (z.take off++cs++z.drop (off+1)) r else none | none=>none)=_
 rw[Lf hv]
 simp only
 rw[if_pos ⟨rfl,h⟩,e]
theorem Br {z:List AV}{off n:Nat}{l:List AV}{r:List (Nat × Nat × AV)}(hn:l.length=n)(h:off+n<=z.length):fl z ((off,n,.agg l)::r)=fl (z.take off++l++z.drop (off+n)) r:=by
 show (match qg (.agg l) with | some cs=>if cs.length=n/\off+n<=z.length then fl (z.take off++cs++z.drop (off+n)) r else none | none=>none)=_
 rw[Ar]
 simp only
 rw[if_pos ⟨hn,h⟩]
theorem Rw.one {H:Hp}{es:Nat}{x:AV}{l:List AV}(h:Rw H es x l):aY x=true:=by cases h<;>rfl
theorem Ow.jG {H:Hp}{el es:Nat}{x:AV}{l:List AV}(h:Ow H el es x l):aY x=true:=h.rw.one
theorem uE {H:Hp}{el es fH:Nat}{z:List AV}{s:AV}{l vs:List AV}(h:Ow H el es s l)(hv:vs.all aY=true)(hn:vs.length=es)(du:0<es)(hlen:l.length+vs.length<=16777216) :
  ∃ s' H',(∀ i,i=H.next->gg el es z false s (.slice i 0 1 1 true es) (al H vs fH 0)=some (s',H'))/\Ow H' el es s' (l++vs)/\Out (ak s) H H'/\(∀ j∈ak s',j∈ak s\/H.next<=j)/\aY s'=true:=by
 have c:=bg H vs fH 0
 have hr:Rw (al H vs fH 0) es (.slice H.next 0 1 1 true es) vs := .mk c.ro (by rw[hn,ait]) (aaC _) rfl
 have ho:Ow (al H vs fH 0) el es s l:=h.out (aI H vs fH 0) fun j hj=>by simp
 obtain⟨s',H',h1,h2,h3,h4⟩:=ab6 (z:=z) ho hr (adA.1 hv) du hlen
 refine⟨s',H',fun i hi=>by subst hi;exact h1,h2,((aI H vs fH 0).mono (S':=ak s) (fun j hj=>by cases hj)).then h3 (fun j hj => .inl hj),fun j hj=>(h4 j hj).imp id fun q=>by rw[bK] at q;omega,h2.jG⟩
theorem Y1 {s:List Nat}{m:Nat}(k:IntKind)(h:m<=s.length):nJ (.str s) none (some (.int k m))=some (.str (s.take m)):=by
 unfold nJ
 simp only[yg (acD m) h (aaC _) (Bd.no 0) (Bd.yes k m _),aee,acI,agq]
theorem abt {s:List Nat}{m:Nat}(k:IntKind)(h:m<=s.length):nJ (.str s) (some (.int k m)) none=some (.str (s.drop m)):=by
 unfold nJ
 simp only[yg h (aaC _) (aaC _) (Bd.yes k m 0) (Bd.no _),aee]
 rw[ae3 (by rw[agf];omega)]
theorem SE {s:List Nat}{a b:Nat}(k j:IntKind)(vj:a<=b)(h:b<=s.length):nJ (.str s) (some (.int k a)) (some (.int j b))=some (.str ((s.drop a).take (b-a))):=by
 unfold nJ
 simp only[yg vj h (aaC _) (Bd.yes k a 0) (Bd.yes j b _),aee]
theorem ahX {s:List Nat}{i b:Nat}(k:IntKind)(h:s[i]? = some b):uO (.str s) (.int k i)=some (.int .u8 b):=by
 unfold uO
 simp only
 rw[if_pos (by omega),acr,h];rfl
theorem Ta {s:List Nat}{b:Nat}(k:IntKind)(h:s[0]? = some b):uO (.str s) (.int k 0)=some (.int .u8 b):=ahX (i:=0) k h
theorem Rw.ia {H:Hp}{es n:Nat}{x:AV}{l:List AV}(h:Rw H es x l)(hl:l.length=n*es)(du:0<es){i:Nat}(hi:i<n):∃ b o,(∀ k,ia es x (.int k i)=some (.ptr b o))/\b∈ak x/\b<H.next/\
  (∀ k v,l[i*es+k]? = some v->k<es->cellAt H b (o+k)=some v)/\ar H b o es=some ((l.drop (i*es)).take es):=by
 cases h with
 | nil=>
  simp only[acG] at hl
  rcases Nat.mul_eq_zero.1 hl.symm with q | q<;>omega
 | emp=>
  simp only[acG] at hl
  rcases Nat.mul_eq_zero.1 hl.symm with q | q<;>omega
 | @mk j off m cap ex l hr hn hc he=>
  have hm:m=n:=Nat.eq_of_mul_eq_mul_right du (hn.symm.trans hl)
  subst hm
  have hle:(i+1)*es<=m*es:=aeK _ hi
  rw[af9,ait] at hle
  refine⟨j,off+i*es,fun k=>yO hi,by rw[mi he];exact .head _,hr.1,fun k v hk _ => ?_,?_⟩
  ·rw[ahI];exact hr.cellAt hk
  ·have h1:=((hr.drop (i*es) (by omega)).take es).ar
   rw[aes,agf,Nat.min_eq_left (by omega)] at h1
   exact h1
def RL (H:Hp)(es:Nat)(x:AV)(L:List (List AV)):Prop:=Rw H es x L.flatten/\∀ c∈L,c.length=es
def OL (H:Hp)(el es:Nat)(x:AV)(L:List (List AV)):Prop:=Ow H el es x L.flatten/\∀ c∈L,c.length=es
theorem xh {es:Nat}:∀ {L:List (List AV)},(∀ c∈L,c.length=es)->L.flatten.length=L.length*es
 | [],_=>by simp
 | c::L,h=>by
  rw[List.flatten_cons,aaX,h c (.head _),xh fun d hd=>h d (.tail _ hd),aaL,af9];omega
theorem VA {es:Nat}:∀ {L:List (List AV)} {i:Nat} {c:List AV},(∀ c∈L,c.length=es)->L[i]? = some c->(L.flatten.drop (i*es)).take es=c
 | [],i,c,_,h=>by simp at h
 | a::L,0,c,hl,h=>by
  simp only[adg,acV] at h
  subst h
  have:=hl a (.head _)
  rw[ahi,acI,List.flatten_cons,List.take_append_of_le_length (by omega),ae3 (by omega)]
 | a::L,i+1,c,hl,h=>by
  simp only[ac1] at h
  have ha:=hl a (.head _)
  rw[List.flatten_cons,af9,ait,List.drop_append,List.drop_eq_nil_of_le (by omega),ahO,ha,Nat.add_sub_cancel]
  exact VA (fun d hd=>hl d (.tail _ hd)) h
theorem OL.rl {H:Hp}{el es:Nat}{x:AV}{L:List (List AV)}(h:OL H el es x L):RL H es x L:=⟨h.1.rw,h.2⟩
theorem RL.out {H H':Hp}{es:Nat}{x:AV}{L:List (List AV)}{S:List Nat}(h:RL H es x L)(k:Out S H H')(hi:∀ j∈ak x,j∉S):RL H' es x L:=⟨h.1.out k hi,h.2⟩
theorem RL.out0 {H H':Hp}{es:Nat}{x:AV}{L:List (List AV)}(h:RL H es x L)(k:Out [] H H'):RL H' es x L:=h.out k fun _ _ q=>by cases q
theorem Rw.out0 {H H':Hp}{es:Nat}{x:AV}{l:List AV}(h:Rw H es x l)(k:Out [] H H'):Rw H' es x l:=h.out k fun _ _ q=>by cases q
theorem OL.out {H H':Hp}{el es:Nat}{x:AV}{L:List (List AV)}{S:List Nat}(h:OL H el es x L)(k:Out S H H')(hi:∀ j∈ak x,j∉S):OL H' el es x L:=⟨h.1.out k hi,h.2⟩
theorem RL.one {H:Hp}{es:Nat}{x:AV}{L:List (List AV)}(h:RL H es x L):aY x=true:=h.1.one
theorem RL.len {H:Hp}{es:Nat}{x:AV}{L:List (List AV)}(h:RL H es x L)(du:0<es):bq x=some (.int .i64 (L.length:Nat)):=by
 obtain⟨n,h1,h2⟩:=h.1.len
 rw[xh h.2] at h2
 rw[h1,Nat.eq_of_mul_eq_mul_right du h2]
theorem RL.at {H:Hp}{es:Nat}{x:AV}{L:List (List AV)}(h:RL H es x L)(du:0<es){i:Nat}{c:List AV}(hi:L[i]? = some c):∃ b o,(∀ k,ia es x (.int k i)=some (.ptr b o))/\b∈ak x/\b<H.next/\ar H b o es=some c/\∀ k v,c[k]? = some v->cellAt H b (o+k)=some v:=by
 have br:=(aah.1 hi).1
 obtain⟨b,o,h1,h2,h3,h4,h5⟩:=h.1.ia (xh h.2) du br
 have hf:=VA h.2 hi
 rw[hf] at h5
 refine⟨b,o,h1,h2,h3,h5,fun k v hv => ?_⟩
 have hk:k<es:=by have:=(aah.1 hv).1;rw[h.2 c (aao hi)] at this;exact this
 refine h4 k v ?_ hk
 rw[<-hf,ag7,if_pos hk,afL] at hv
 exact hv
theorem OL.nil (H:Hp)(el es:Nat):OL H el es .ah []:=⟨.nil,fun c hc=>by cases hc⟩
theorem RL.nil (H:Hp)(es:Nat):RL H es .ah []:=⟨.nil,fun c hc=>by cases hc⟩
theorem OL.push {H:Hp}{el es fH:Nat}{z:List AV}{s:AV}{L:List (List AV)}{vs:List AV}(h:OL H el es s L)(hv:vs.all aY=true)(hn:vs.length=es)(du:0<es)(hlen:(L.length+1)*es<=16777216) :
  ∃ s' H',(∀ i,i=H.next->gg el es z false s (.slice i 0 1 1 true es) (al H vs fH 0)=some (s',H'))/\OL H' el es s' (L++[vs])/\Out (ak s) H H'/\(∀ j∈ak s',j∈ak s\/H.next<=j)/\aY s'=true:=by
 obtain⟨s',H',h1,h2,h3⟩:=uE (fH:=fH) (z:=z) h.1 hv hn du (by rw[xh h.2,hn];rw[af9,ait] at hlen;exact hlen)
 refine⟨s',H',h1,⟨by rw[List.flatten_append];simpa using h2,fun c hc => ?_⟩,h3⟩
 rcases abL.1 hc with hc | hc
 ·exact h.2 c hc
 ·rw[No] at hc;subst hc;exact hn
theorem OL.one {H:Hp}{el es:Nat}{x:AV}{L:List (List AV)}(h:OL H el es x L):∀ c∈L,c.all aY=true:=fun c hc=>by
 rw[adA]
 intro v hv
 exact h.1.one v (agW.2 ⟨c,hc,hv⟩)
theorem gG {α:Type}{l r:List α}{i:Nat}{a:α}(h:l.drop i=a::r):i<l.length/\l[i]? = some a/\l.drop (i+1)=r:=by
 have h1:i<l.length:=by
  have:=congrArg List.length h
  rw[agf,aaL] at this;omega
 refine⟨h1,?_,?_⟩
 ·have:=afL (xs:=l) (i:=i) (j:=0)
  rw[h,aej] at this
  rw[<-this];rfl
 ·have:=List.drop_drop (l:=l) (i:=1) (j:=i)
  rw[h] at this
  rw[<-this];rfl
theorem Out.nx {S:List Nat}{H H':Hp}(h:Out S H H'):H.next<=H'.next:=h.1
theorem Gt {H:Hp}{el fH es:Nat}{z:List AV}{x:AV}{l:List AV}(hx:Rw H es x l)(ho:∀ v∈l,aY v=true)(du:0<es)(hlen:l.length<=16777216) :
  ∃ s' H',gg el es z false (.slice H.next 0 0 0 true es) x (al H [] fH 0)=some (s',H')/\Ow H' el es s' l/\Out [] H H'/\(∀ j∈ak s',H.next<=j):=by
 have ha:=aI H [] fH 0
 obtain⟨s',H',h1,h2,h3,h4⟩:=ab6 (z:=z) (Ow.emp (H:=al H [] fH 0) (el:=el) (es:=es) (i:=H.next) (off:=0)) (hx.out0 ha) ho du (by simpa using hlen)
 refine⟨s',H',h1,by simpa using h2,ha.then h3 (fun j hj=>by cases hj),fun j hj => ?_⟩
 rcases h4 j hj with q | q
 ·cases q
 ·rw[bK] at q;omega
theorem Tx {n s i off z:Nat}(k:IntKind)(h:z<n):nj n s (.ptr i off) (.int k z)=some (.ptr i (off+z*s)):=by
 unfold nj
 simp only
 rw[if_pos (by omega),acr]
theorem aaO {n s i off:Nat}(k:IntKind)(h:0<n):nj n s (.ptr i off) (.int k 0)=some (.ptr i off):=by
 have:=Tx (s:=s) (i:=i) (off:=off) k h
 rw[ahi] at this
 exact this
theorem ZF {n i off:Nat}(k:IntKind)(h:1<n):nj n 1 (.ptr i off) (.int k 1)=some (.ptr i (off+1)):=by
 have:=Tx (s:=1) (i:=i) (off:=off) k h
 exact this
theorem kK (k:IntKind)(n:Int):aY (.int k n)=true:=aal rfl (id rfl)
theorem C7 (s:List Nat):aY (.str s)=true:=aal rfl (id rfl)
theorem XO (b:Bool):aY (.bool b)=true:=aal rfl (id rfl)
theorem Yo (i o:Nat):aY (.ptr i o)=true:=aal rfl (id rfl)
theorem aa8:aY .fD=true:=aal rfl (id rfl)
theorem U8 (i o n c:Nat)(x:Bool)(es:Nat):aY (.slice i o n c x es)=true:=aal rfl (id rfl)
theorem SZ:aY .ah=true:=aal rfl (id rfl)
theorem Wy (i:Nat):aY (.map i)=true:=aal rfl (id rfl)
theorem Xm:aY .jk=true:=aal rfl (id rfl)
theorem Vi (f:Go.Fn)(a b:List AV):aY (.func f a b)=true:=aal rfl (id rfl)
theorem abW:aY .nilFunc=true:=aal rfl (id rfl)
theorem Vk:aY .nilIface=true:=aal rfl (id rfl)
theorem Y6 (t:TypeId)(v:AV):aY (.iface t v)=true:=aal rfl (id rfl)
theorem ai:type_of% (And.intro @W8 (And.intro @XH (And.intro @Zc (And.intro @VS (And.intro @aa3 (And.intro @aaI (And.intro @XM (And.intro @abb (And.intro @UD (And.intro @ZY (And.intro @W1 (And.intro @abD (And.intro @VU (And.intro @Zq (And.intro @WU (And.intro @SC (And.intro @Y5 (And.intro @Wg (And.intro @Z6 (And.intro @Ue (And.intro @Y3 (And.intro @US (And.intro @Tp (And.intro @aag (And.intro @Wu (And.intro @Yl (And.intro @VB (And.intro @ZO (And.intro @TN (And.intro @aab (And.intro @ZE (And.intro @Xd (And.intro @VE (And.intro @Yc (And.intro @Xp (And.intro @aaN (And.intro @TJ (And.intro @TX (And.intro @V1 (And.intro @X6 (And.intro @aaq (And.intro @aaK (And.intro @aaY (And.intro @Tc (And.intro @WT (And.intro @WV (And.intro @ZU (And.intro @ZB (And.intro @WQ (And.intro @WN (And.intro @U4 (And.intro @Z9 (And.intro @Ya (And.intro @abE (And.intro @abU (And.intro @XQ (And.intro @Yp (And.intro @SD (And.intro @Lw (And.intro @Ug (And.intro @WG (And.intro @Ud (And.intro @Te (And.intro @Xr (And.intro @ab4 (And.intro @Uy (And.intro @Wl (And.intro @Tt (And.intro @aa5 (And.intro @YS (And.intro @WY (And.intro @Th (And.intro @Wd @abc))))))))))))))))))))))))))))))))))))))))))))))))))))))))))))))))))))))))):=And.intro @W8 (And.intro @XH (And.intro @Zc (And.intro @VS (And.intro @aa3 (And.intro @aaI (And.intro @XM (And.intro @abb (And.intro @UD (And.intro @ZY (And.intro @W1 (And.intro @abD (And.intro @VU (And.intro @Zq (And.intro @WU (And.intro @SC (And.intro @Y5 (And.intro @Wg (And.intro @Z6 (And.intro @Ue (And.intro @Y3 (And.intro @US (And.intro @Tp (And.intro @aag (And.intro @Wu (And.intro @Yl (And.intro @VB (And.intro @ZO (And.intro @TN (And.intro @aab (And.intro @ZE (And.intro @Xd (And.intro @VE (And.intro @Yc (And.intro @Xp (And.intro @aaN (And.intro @TJ (And.intro @TX (And.intro @V1 (And.intro @X6 (And.intro @aaq (And.intro @aaK (And.intro @aaY (And.intro @Tc (And.intro @WT (And.intro @WV (And.intro @ZU (And.intro @ZB (And.intro @WQ (And.intro @WN (And.intro @U4 (And.intro @Z9 (And.intro @Ya (And.intro @abE (And.intro @abU (And.intro @XQ (And.intro @Yp (And.intro @SD (And.intro @Lw (And.intro @Ug (And.intro @WG (And.intro @Ud (And.intro @Te (And.intro @Xr (And.intro @ab4 (And.intro @Uy (And.intro @Wl (And.intro @Tt (And.intro @aa5 (And.intro @YS (And.intro @WY (And.intro @Th (And.intro @Wd @abc))))))))))))))))))))))))))))))))))))))))))))))))))))))))))))))))))))))))
theorem av:type_of% (And.intro @aaO (And.intro @ZF (And.intro @gk (And.intro @bK (And.intro @La (And.intro @Jx (And.intro @vP (And.intro @tQ (And.intro @Fg (And.intro @Vs (And.intro @Sy (And.intro @iI (And.intro @ji (And.intro @MD (And.intro @sZ (And.intro @Ez @Br)))))))))))))))):=And.intro @aaO (And.intro @ZF (And.intro @gk (And.intro @bK (And.intro @La (And.intro @Jx (And.intro @vP (And.intro @tQ (And.intro @Fg (And.intro @Vs (And.intro @Sy (And.intro @iI (And.intro @ji (And.intro @MD (And.intro @sZ (And.intro @Ez @Br)))))))))))))))
theorem ag:type_of% (And.intro @kK (And.intro @C7 (And.intro @XO (And.intro @Yo (And.intro @aa8 (And.intro @U8 (And.intro @SZ (And.intro @Wy (And.intro @Xm (And.intro @Vi (And.intro @abW (And.intro @Vk (And.intro @Y6 @bK))))))))))))):=And.intro @kK (And.intro @C7 (And.intro @XO (And.intro @Yo (And.intro @aa8 (And.intro @U8 (And.intro @SZ (And.intro @Wy (And.intro @Xm (And.intro @Vi (And.intro @abW (And.intro @Vk (And.intro @Y6 @bK))))))))))))
theorem aj:(∀ (a:AV) (l:List AV),(a::l)[0]? = some a)/\(∀ (a:AV) (l:List AV) (i:Nat),(a::l)[i+1]? = l[i]?)/\(∀ n:Nat,0+n=n)/\((!true)=false)/\((!false)=true)/\(∀ h:Decidable True,@decide True h=true)/\(∀ h:Decidable False,@decide False h=false)/\(∀ a:Int,(a==a)=true)/\(∀ a:List Nat,(a==a)=true)/\(∀ a:Int,(a != a)=false)/\(∀ a:List Nat,(a != a)=false)/\(∀ a b:Int,(a ≥ b)=(b<=a))/\(∀ a b:Int,(a>b)=(b<a)):=
 ⟨fun _ _=>rfl,fun _ _ _=>rfl,adG,rfl,rfl,fun _=>decide_eq_true trivial,fun _=>decide_eq_false id,fun _=>beq_self_eq_true _,fun _=>beq_self_eq_true _,fun _=>bne_self_eq_false _,fun _=>bne_self_eq_false _,fun _ _=>rfl,fun _ _=>rfl⟩
theorem au:(∀ (f:List AV->AV) (l:List AV),Option.map f (some l)=some (f l))/\(∀ l:List AV,l.drop 0=l)/\(∀ (n:Nat) (a:AV) (l:List AV),(a::l).take (n+1)=a::l.take n)/\(∀ l:List AV,l.take 0=[])/\(∀ (n:Nat) (a:AV) (l:List AV),(a::l).drop (n+1)=l.drop n)/\(∀ (a b:AV) (l:List AV),(a::l).set 0 b=b::l)/\(∀ (n:Nat) (a b:AV) (l:List AV),(a::l).set (n+1) b=a::l.set n b)/\(∀ l:List AV,[]++l=l)/\(∀ (a:AV) (l m:List AV),a::l++m=a::(l++m))/\(∀ l:List AV,l++[]=l)/\(∀ n:Nat,n+0=n):=
 ⟨fun _ _=>rfl,fun _=>rfl,fun _ _ _=>rfl,fun _=>rfl,fun _ _ _=>rfl,fun _ _ _=>rfl,fun _ _ _ _=>rfl,fun _=>rfl,fun _ _ _=>rfl,ag8,fun _=>rfl⟩
theorem af:(∀ (H:Hp) (l:List AV) (el fl:Nat),(al H l el fl).next=H.next+1)/\(∀ (a:AV) (l:List AV),(a::l).length=l.length+1)/\(([]:List AV).length=0)/\(∀ (p:AV->Bool) (a:AV) (l:List AV),(a::l).all p=(p a&&l.all p))/\(∀ p:AV->Bool,([]:List AV).all p=true)/\(∀ b:Bool,(b&&true)=b)/\(∀ b:Bool,(true&&b)=b)/\(∀ b:Bool,(b&&b)=b)/\(∀ n:Nat,0+n=n)/\(∀ n:Nat,(n<=n)=True):=
 ⟨fun _ _ _ _=>rfl,fun _ _=>rfl,rfl,fun _ _ _=>rfl,fun _=>rfl,Bool.and_true,aeD,Bool.and_self,adG,fun n=>eq_true (aaC n)⟩
end K
end Go.Proofs.YtodfajmihkagnaaGreatDoor.Am
