/- A heap with a new object on top, written out (of no program). -/
import Derived.Test.YtodfajmihkagnaaGreatDoorAm15
set_option linter.unusedVariables false
set_option linter.unusedSimpArgs false
namespace Go.Proofs.YtodfajmihkagnaaGreatDoor.Am
set_option linter.unusedVariables false
set_option linter.unusedSimpArgs false
namespace Tr
variable {α:Type}
theorem BX:∀ (p:Pa) (x y:Option α) (t:Tr α),jV p y (jV p x t)=jV p y t
 | .e,x,y,t=>rfl
 | .a p,x,y,t=>congrArg (fun k=>Tr.node t.val k t.c1 t.c2 t.c3) (BX p x y t.c0)
 | .b p,x,y,t=>congrArg (fun k=>Tr.node t.val t.c0 k t.c2 t.c3) (BX p x y t.c1)
 | .c p,x,y,t=>congrArg (fun k=>Tr.node t.val t.c0 t.c1 k t.c3) (BX p x y t.c2)
 | .d p,x,y,t=>congrArg (fun k=>Tr.node t.val t.c0 t.c1 t.c2 k) (BX p x y t.c3)
theorem FD:∀ (p q:Pa) (x y:Option α) (t:Tr α),p≠q->jV p x (jV q y t)=jV q y (jV p x t)
 | .e,.e,x,y,t,h=>absurd rfl h
 | .a p,.a q,x,y,t,h=>congrArg (fun k=>Tr.node t.val k t.c1 t.c2 t.c3) (FD p q x y t.c0 (fun e=>h (by rw[e])))
 | .b p,.b q,x,y,t,h=>congrArg (fun k=>Tr.node t.val t.c0 k t.c2 t.c3) (FD p q x y t.c1 (fun e=>h (by rw[e])))
 | .c p,.c q,x,y,t,h=>congrArg (fun k=>Tr.node t.val t.c0 t.c1 k t.c3) (FD p q x y t.c2 (fun e=>h (by rw[e])))
 | .d p,.d q,x,y,t,h=>congrArg (fun k=>Tr.node t.val t.c0 t.c1 t.c2 k) (FD p q x y t.c3 (fun e=>h (by rw[e])))
 | .e,.a _,x,y,t,h=>rfl
 | .e,.b _,x,y,t,h=>rfl
 | .e,.c _,x,y,t,h=>rfl
 | .e,.d _,x,y,t,h=>rfl
 | .a _,.e,x,y,t,h=>rfl
 | .a _,.b _,x,y,t,h=>rfl
 | .a _,.c _,x,y,t,h=>rfl
 | .a _,.d _,x,y,t,h=>rfl
 | .b _,.e,x,y,t,h=>rfl
 | .b _,.a _,x,y,t,h=>rfl
 | .b _,.c _,x,y,t,h=>rfl
 | .b _,.d _,x,y,t,h=>rfl
 | .c _,.e,x,y,t,h=>rfl
 | .c _,.a _,x,y,t,h=>rfl
 | .c _,.b _,x,y,t,h=>rfl
 | .c _,.d _,x,y,t,h=>rfl
 | .d _,.e,x,y,t,h=>rfl
 | .d _,.a _,x,y,t,h=>rfl
 | .d _,.b _,x,y,t,h=>rfl
 | .d _,.c _,x,y,t,h=>rfl
theorem alF {n m:Nat}(h:n≠m):pathOf n≠pathOf m:=by
 intro e
 have h1:=fj (α:=Unit) .nil n m (some ())
 have h2:(jV (pathOf n) (some ()) (.nil:Tr Unit)).get m=some ():=by
  unfold get
  rw[<-e]
  have:=fj (α:=Unit) .nil n n (some ())
  rw[if_pos rfl] at this
  exact this
 rw[h2,if_neg (fun q=>h q.symm)] at h1
 have:(.nil:Tr Unit).get m=none:=vh _
 rw[this] at h1
 cases h1
theorem acd:∀ (l:List α) (t:Tr α) (n m:Nat) (v:α),m<n->(t.bZ n l).bO m v=(t.bO m v).bZ n l
 | [],t,n,m,v,h=>rfl
 | x::l,t,n,m,v,h=>by
  show ((t.put 34 n x).bZ (n+1) l).bO m v=((t.bO m v).put 34 n x).bZ (n+1) l
  rw[acd l _ _ _ _ (by omega)]
  congr 1
  exact FD _ _ _ _ _ (alF (by omega))
theorem U5:∀ (l:List α) (t:Tr α) (n k:Nat) (v:α),k<l.length->(t.bZ n l).bO (n+k) v=t.bZ n (l.set k v)
 | [],t,n,k,v,h=>by simp at h
 | x::l,t,n,0,v,h=>by
  show ((t.put 34 n x).bZ (n+1) l).bO (n+0) v=(t.put 34 n v).bZ (n+1) l
  rw[acd l _ _ _ _ (by omega)]
  congr 1
  exact BX _ _ _ _
 | x::l,t,n,k+1,v,h=>by
  show ((t.put 34 n x).bZ (n+1) l).bO (n+(k+1)) v=(t.put 34 n x).bZ (n+1) (l.set k v)
  rw[show n+(k+1)=n+1+k by omega]
  exact U5 l _ _ _ _ (by simpa using h)
end Tr
namespace K
def al (H:Hp)(l:List AV)(el fl:Nat):Hp:=⟨H.h.put 34 H.next (.cells (Tr.bZ .nil 0 l) 0 l.length el fl),H.next+1⟩
theorem gB {H:Hp}{l:List AV}{el fl:Nat}(h:l.length<=16777216):aE H l el fl=some (H.next,al H l el fl):=by
 unfold aE alloc
 have:Nat.ble l.length 16777216=true:=aez.mpr h
 rw[this];rfl
theorem bI (H:Hp)(l:List AV)(el fl:Nat):(al H l el fl).next=H.next+1:=aaw rfl (id rfl)
theorem Cr (H:Hp)(l:List AV)(el fl i:Nat):(al H l el fl).h.get i=if i=H.next then some (.cells (Tr.bZ .nil 0 l) 0 l.length el fl) else H.h.get i:=Tr.fj _ _ _ _
theorem bo (H:Hp)(l:List AV)(el fl:Nat):Cs (al H l el fl) H.next l el fl:=by
 refine⟨aif _,Tr.bZ .nil 0 l,by rw[Cr,if_pos rfl],fun k v hk => ?_⟩
 have:=(aas.1 hk).1
 rw[wY,if_pos (by omega)];exact hk
theorem aJ (H:Hp)(l:List AV)(el fl:Nat):Out [] H (al H l el fl):=⟨afu _,fun j hj _=>by rw[Cr,if_neg (by omega)]⟩
theorem Out.al {S:List Nat}{H H':Hp}(h:Out S H H')(l:List AV)(el fl:Nat):Out S H (al H' l el fl):=h.then (aJ H' l el fl) fun j hj=>by cases hj
theorem N7 {H H':Hp}{i o:Nat}(h:H'.h.get i=H.h.get i):cellAt H' i o=cellAt H i o:=by unfold cellAt;rw[h]
theorem Og {H H':Hp}{i:Nat}(h:H'.h.get i=H.h.get i):∀ (n o:Nat),av H' i o n=av H i o n
 | 0,o=>rfl
 | n+1,o=>by unfold av;rw[N7 h,Og h n]
theorem vc {H:Hp}{l:List AV}{el fl i o:Nat}(h:i=H.next):cellAt (al H l el fl) i o=l[o]? := by
 subst h
 cases hv:l[o]? with
 | some v=>exact (bo H l el fl).cellAt hv
 | none=>
  unfold cellAt
  rw[Cr,if_pos rfl]
  have:=List.getElem?_eq_none_iff.1 hv
  have hb:(Nat.ble 0 o&&Nat.blt o l.length)=false:=by
   rw[Bool.and_eq_false_iff];right
   rw[<-agC,ad5];omega
  simp only[hb,cond_false]
theorem tw {H:Hp}{l:List AV}{el fl i o:Nat}(h:i<H.next):cellAt (al H l el fl) i o=cellAt H i o:=N7 (by rw[Cr,if_neg (by omega)])
theorem El {H:Hp}{l:List AV}{el fl i o n:Nat}(h:i=H.next)(hn:o+n<=l.length):av (al H l el fl) i o n=some ((l.drop o).take n):=by
 subst h;exact (bo H l el fl).av n o hn
theorem Zz {H:Hp}{l:List AV}{el fl i o n:Nat}(h:i<H.next):av (al H l el fl) i o n=av H i o n:=Og (by rw[Cr,if_neg (by omega)]) _ _
theorem Out.cellAt {S:List Nat}{H H':Hp}(h:Out S H H'){i o:Nat}(hi:i<H.next)(hs:i∉S):cellAt H' i o=Am.cellAt H i o:=N7 (h.2 i hi hs)
theorem Out.av {S:List Nat}{H H':Hp}(h:Out S H H'){i o n:Nat}(hi:i<H.next)(hs:i∉S):av H' i o n=Am.av H i o n:=Og (h.2 i hi hs) _ _
theorem Kn (i o:Nat)(H:Hp):ld (.ptr i o) H=cellAt H i o:=aaw rfl (id rfl)
theorem JS (n i o:Nat)(H:Hp):aA n (.ptr i o) H=(av H i o n).map .agg:=aaw rfl (id rfl)
def iK (l:List AV)(o:Nat):List AV->List AV
 | []=>l
 | v::vs=>iK (l.set o v) (o+1) vs
theorem ER:∀ (vs l:List AV) (o:Nat),(iK l o vs).length=l.length
 | [],l,o=>rfl
 | v::vs,l,o=>by rw[iK,ER vs,adM]
theorem A8:∀ (vs l:List AV) (o k:Nat),o+vs.length<=l.length->(iK l o vs)[k]? = if o<=k/\k<o+vs.length then vs[k-o]? else l[k]?
 | [],l,o,k,h=>by rw[if_neg (by simp only[ads];omega)];rfl
 | v::vs,l,o,k,h=>by
  simp only[aaN] at h ⊢
  rw[iK,A8 vs _ _ _ (by rw[adM];omega)]
  by_cases h1:o+1<=k/\k<o+1+vs.length
  ·rw[if_pos h1,if_pos (by omega),show k-o=(k-(o+1))+1 by omega,adL]
  ·rw[if_neg h1]
   by_cases h2:k=o
   ·subst h2
    rw[if_pos (by omega),ahF,afz (by omega)];rfl
   ·rw[if_neg (by omega),ajj (fun q=>h2 q.symm)]
theorem VO (vs l:List AV)(h:vs.length=l.length):iK l 0 vs=vs:=by
 apply aij
 intro k
 rw[A8 vs l 0 k (by omega)]
 split
 ·rw[agR]
 ·rename_i hn
  rw[agl (by omega),agl (by omega)]
theorem acQ {H:Hp}{l:List AV}{el fl i o:Nat}{v:AV}(h:i=H.next)(hf:fl<=1)(ho:o<l.length)(hv:ba v=true):setCell (al H l el fl) i o v=some (al H (l.set o v) el fl):=by
 subst h
 have hs:((Tr.bZ .nil 0 l).get o).isSome=true:=by rw[wY,if_pos (by omega)];simp[ho]
 have hb:(Nat.ble 0 o&&Nat.blt o l.length&&Nat.ble fl 1&&((Tr.bZ .nil 0 l).get o).isSome&&ba v)=true:=by
  simp only[aaG,aez,ad5];exact⟨⟨⟨⟨by omega,ho⟩,hf⟩,hs⟩,hv⟩
 unfold setCell
 rw[Cr,if_pos rfl]
 simp only[hb,cond_true]
 have e1:(Tr.bZ .nil 0 l).bO o v=Tr.bZ .nil 0 (l.set o v):=by
  have:=Tr.U5 l .nil 0 o v ho
  rw[ad6] at this;exact this
 rw[e1]
 unfold al
 congr 2
 rw[adM]
 exact Tr.BX _ _ _ _
theorem Mg {H:Hp}{el fl i:Nat}(h:i=H.next)(hf:fl<=1):∀ (vs l:List AV) (o:Nat),o+vs.length<=l.length->(∀ v∈vs,ba v=true)->setCells (al H l el fl) i o vs=some (al H (iK l o vs) el fl)
 | [],l,o,_,_=>rfl
 | v::vs,l,o,hl,hv=>by
  simp only[aaN] at hl
  unfold setCells
  rw[acQ h hf (by omega) (hv v (.head _))]
  exact Mg h hf vs _ _ (by rw[adM];omega) fun u hu=>hv u (.tail _ hu)
theorem I7 {v:AV}(h:ba v=true):pJ v=some [v]:=by cases v<;>first | rfl | cases h
theorem Bl (l:List AV):pJ (.agg l)=some l:=aaw rfl (id rfl)
theorem Sp {H:Hp}{l:List AV}{el fl i o:Nat}{v:AV}(hv:ba v=true)(h:i=H.next)(hf:fl<=1)(ho:o<l.length):st 1 (.ptr i o) v (al H l el fl)=some (al H (l.set o v) el fl):=by
 unfold st
 simp only[I7 hv]
 show setCells _ i o [v]=_
 exact Mg h hf [v] l o (by simp only[aaN,ads];omega) fun u hu=>by rw[No] at hu;subst hu;exact hv
theorem iV {H:Hp}{l vs:List AV}{n el fl i:Nat}(hv:vs.all ba=true)(hn:n=vs.length)(h:i=H.next)(hf:fl<=1)(hl:l.length=vs.length):st n (.ptr i 0) (.agg vs) (al H l el fl)=some (al H vs el fl):=by
 unfold st
 have:Nat.beq n vs.length=true:=by subst hn;exact ahj _
 simp only[Bl,this,cond_true]
 rw[Mg h hf vs l 0 (by omega) (adY.1 hv),VO vs l hl.symm]
theorem iW {H:Hp}{el:Nat}{l:List AV}(h:l.length<=16777216):bx el (.agg l) H=some (H.next,al H l el 0):=by
 unfold bx;simp only[Bl];exact gB h
theorem P0 {H:Hp}{el:Nat}{v:AV}(hv:ba v=true):bx el v H=some (H.next,al H [v] el 0):=by
 unfold bx;simp only[I7 hv];exact gB (by simp)
theorem GY {z:List AV}{off:Nat}{v:AV}{r:List (Nat × Nat × AV)}(hv:ba v=true)(h:off+1<=z.length):fl z ((off,1,v)::r)=fl (z.set off v) r:=by
 have e:z.take off++[v]++z.drop (off+1)=z.set off v:=by
  rw[List.set_eq_take_append_cons_drop,if_pos (by omega)];simp
 show (match pJ v with | some cs=>if cs.length=1/\off+1<=z.length then fl (z.take off++cs++z.drop (off+1)) r else none | none=>none)=_
 rw[I7 hv]
 simp only
 rw[if_pos ⟨rfl,h⟩,e]
theorem zT {z:List AV}{off n:Nat}{l:List AV}{r:List (Nat × Nat × AV)}(hn:l.length=n)(h:off+n<=z.length):fl z ((off,n,.agg l)::r)=fl (z.take off++l++z.drop (off+n)) r:=by
 show (match pJ (.agg l) with | some cs=>if cs.length=n/\off+n<=z.length then fl (z.take off++cs++z.drop (off+n)) r else none | none=>none)=_
 rw[Bl]
 simp only
 rw[if_pos ⟨hn,h⟩]
theorem Rw.one {H:Hp}{es:Nat}{x:AV}{l:List AV}(h:Rw H es x l):ba x=true:=by cases h<;>rfl
theorem Ow.jO {H:Hp}{el es:Nat}{x:AV}{l:List AV}(h:Ow H el es x l):ba x=true:=h.rw.one
theorem uf {H:Hp}{el es fJ:Nat}{z:List AV}{s:AV}{l vs:List AV}(h:Ow H el es s l)(hv:vs.all ba=true)(hn:vs.length=es)(dy:0<es)(hlen:l.length+vs.length<=16777216) :
  ∃ s' H',(∀ i,i=H.next->gw el es z false s (.slice i 0 1 1 true es) (al H vs fJ 0)=some (s',H'))/\Ow H' el es s' (l++vs)/\Out (ak s) H H'/\(∀ j∈ak s',j∈ak s\/H.next<=j)/\ba s'=true:=by
 have c:=bo H vs fJ 0
 have hr:Rw (al H vs fJ 0) es (.slice H.next 0 1 1 true es) vs := .mk c.ro (by rw[hn,aiO]) (aaH _) rfl
 have ho:Ow (al H vs fJ 0) el es s l:=h.out (aJ H vs fJ 0) fun j hj=>by simp
 obtain⟨s',H',h1,h2,h3,h4⟩:=Wu (z:=z) ho hr (adY.1 hv) dy hlen
 refine⟨s',H',fun i hi=>by subst hi;exact h1,h2,((aJ H vs fJ 0).mono (S':=ak s) (fun j hj=>by cases hj)).then h3 (fun j hj => .inl hj),fun j hj=>(h4 j hj).imp id fun q=>by rw[bI] at q;omega,h2.jO⟩
theorem US {s:List Nat}{m:Nat}(k:IntKind)(h:m<=s.length):nJ (.str s) none (some (.int k m))=some (.str (s.take m)):=by
 unfold nJ
 simp only[ze (ac4 m) h (aaH _) (Bd.no 0) (Bd.yes k m _),aek,ada,agR]
theorem Vk {s:List Nat}{m:Nat}(k:IntKind)(h:m<=s.length):nJ (.str s) (some (.int k m)) none=some (.str (s.drop m)):=by
 unfold nJ
 simp only[ze h (aaH _) (aaH _) (Bd.yes k m 0) (Bd.no _),aek]
 rw[afi (by rw[afK];omega)]
theorem YW {s:List Nat}{a b:Nat}(k j:IntKind)(vw:a<=b)(h:b<=s.length):nJ (.str s) (some (.int k a)) (some (.int j b))=some (.str ((s.drop a).take (b-a))):=by
 unfold nJ
 simp only[ze vw h (aaH _) (Bd.yes k a 0) (Bd.yes j b _),aek]
theorem acK {s:List Nat}{i b:Nat}(k:IntKind)(h:s[i]? = some b):ue (.str s) (.int k i)=some (.int .u8 b):=by
 unfold ue
 simp only
 rw[if_pos (by omega),acT,h];rfl
theorem aag {s:List Nat}{b:Nat}(k:IntKind)(h:s[0]? = some b):ue (.str s) (.int k 0)=some (.int .u8 b):=acK (i:=0) k h
theorem Rw.ia {H:Hp}{es n:Nat}{x:AV}{l:List AV}(h:Rw H es x l)(hl:l.length=n*es)(dy:0<es){i:Nat}(hi:i<n):∃ b o,(∀ k,ia es x (.int k i)=some (.ptr b o))/\b∈ak x/\b<H.next/\
  (∀ k v,l[i*es+k]? = some v->k<es->cellAt H b (o+k)=some v)/\av H b o es=some ((l.drop (i*es)).take es):=by
 cases h with
 | nil=>
  simp only[ads] at hl
  rcases Nat.mul_eq_zero.1 hl.symm with q | q<;>omega
 | emp=>
  simp only[ads] at hl
  rcases Nat.mul_eq_zero.1 hl.symm with q | q<;>omega
 | @mk j off m cap ex l hr hn hc he=>
  have hm:m=n:=Nat.eq_of_mul_eq_mul_right dy (hn.symm.trans hl)
  subst hm
  have hle:(i+1)*es<=m*es:=aeF _ hi
  rw[afA,aiO] at hle
  refine⟨j,off+i*es,fun k=>yh hi,by rw[my he];exact .head _,hr.1,fun k v hk _ => ?_,?_⟩
  ·rw[aiB];exact hr.cellAt hk
  ·have h1:=((hr.drop (i*es) (by omega)).take es).av
   rw[ael,afK,Nat.min_eq_left (by omega)] at h1
   exact h1
def RL (H:Hp)(es:Nat)(x:AV)(L:List (List AV)):Prop:=Rw H es x L.flatten/\∀ c∈L,c.length=es
def OL (H:Hp)(el es:Nat)(x:AV)(L:List (List AV)):Prop:=Ow H el es x L.flatten/\∀ c∈L,c.length=es
theorem xd {es:Nat}:∀ {L:List (List AV)},(∀ c∈L,c.length=es)->L.flatten.length=L.length*es
 | [],_=>by simp
 | c::L,h=>by
  rw[aj1,aa0,h c (.head _),xd fun d hd=>h d (.tail _ hd),aaN,afA];omega
theorem Uv {es:Nat}:∀ {L:List (List AV)} {i:Nat} {c:List AV},(∀ c∈L,c.length=es)->L[i]? = some c->(L.flatten.drop (i*es)).take es=c
 | [],i,c,_,h=>by simp at h
 | a::L,0,c,hl,h=>by
  simp only[adR,adG] at h
  subst h
  have:=hl a (.head _)
  rw[ahk,ada,aj1,List.take_append_of_le_length (by omega),afi (by omega)]
 | a::L,i+1,c,hl,h=>by
  simp only[adL] at h
  have ha:=hl a (.head _)
  rw[aj1,afA,aiO,List.drop_append,List.drop_eq_nil_of_le (by omega),aiT,ha,Nat.add_sub_cancel]
  exact Uv (fun d hd=>hl d (.tail _ hd)) h
theorem OL.rl {H:Hp}{el es:Nat}{x:AV}{L:List (List AV)}(h:OL H el es x L):RL H es x L:=⟨h.1.rw,h.2⟩
theorem RL.out {H H':Hp}{es:Nat}{x:AV}{L:List (List AV)}{S:List Nat}(h:RL H es x L)(k:Out S H H')(hi:∀ j∈ak x,j∉S):RL H' es x L:=⟨h.1.out k hi,h.2⟩
theorem RL.out0 {H H':Hp}{es:Nat}{x:AV}{L:List (List AV)}(h:RL H es x L)(k:Out [] H H'):RL H' es x L:=h.out k fun _ _ q=>by cases q
theorem Rw.out0 {H H':Hp}{es:Nat}{x:AV}{l:List AV}(h:Rw H es x l)(k:Out [] H H'):Rw H' es x l:=h.out k fun _ _ q=>by cases q
theorem OL.out {H H':Hp}{el es:Nat}{x:AV}{L:List (List AV)}{S:List Nat}(h:OL H el es x L)(k:Out S H H')(hi:∀ j∈ak x,j∉S):OL H' el es x L:=⟨h.1.out k hi,h.2⟩
theorem RL.one {H:Hp}{es:Nat}{x:AV}{L:List (List AV)}(h:RL H es x L):ba x=true:=h.1.one
theorem RL.len {H:Hp}{es:Nat}{x:AV}{L:List (List AV)}(h:RL H es x L)(dy:0<es):bq x=some (.int .i64 (L.length:Nat)):=by
 obtain⟨n,h1,h2⟩:=h.1.len
 rw[xd h.2] at h2
 rw[h1,Nat.eq_of_mul_eq_mul_right dy h2]
theorem RL.at {H:Hp}{es:Nat}{x:AV}{L:List (List AV)}(h:RL H es x L)(dy:0<es){i:Nat}{c:List AV}(hi:L[i]? = some c):∃ b o,(∀ k,ia es x (.int k i)=some (.ptr b o))/\b∈ak x/\b<H.next/\av H b o es=some c/\∀ k v,c[k]? = some v->cellAt H b (o+k)=some v:=by
 have bu:=(aas.1 hi).1
 obtain⟨b,o,h1,h2,h3,h4,h5⟩:=h.1.ia (xd h.2) dy bu
 have hf:=Uv h.2 hi
 rw[hf] at h5
 refine⟨b,o,h1,h2,h3,h5,fun k v hv => ?_⟩
 have hk:k<es:=by have:=(aas.1 hv).1;rw[h.2 c (aaF hi)] at this;exact this
 refine h4 k v ?_ hk
 rw[<-hf,ahB,if_pos hk,afT] at hv
 exact hv
theorem OL.nil (H:Hp)(el es:Nat):OL H el es .ah []:=⟨.nil,fun c hc=>by cases hc⟩
theorem RL.nil (H:Hp)(es:Nat):RL H es .ah []:=⟨.nil,fun c hc=>by cases hc⟩
theorem OL.push {H:Hp}{el es fJ:Nat}{z:List AV}{s:AV}{L:List (List AV)}{vs:List AV}(h:OL H el es s L)(hv:vs.all ba=true)(hn:vs.length=es)(dy:0<es)(hlen:(L.length+1)*es<=16777216) :
  ∃ s' H',(∀ i,i=H.next->gw el es z false s (.slice i 0 1 1 true es) (al H vs fJ 0)=some (s',H'))/\OL H' el es s' (L++[vs])/\Out (ak s) H H'/\(∀ j∈ak s',j∈ak s\/H.next<=j)/\ba s'=true:=by
 obtain⟨s',H',h1,h2,h3⟩:=uf (fJ:=fJ) (z:=z) h.1 hv hn dy (by rw[xd h.2,hn];rw[afA,aiO] at hlen;exact hlen)
 refine⟨s',H',h1,⟨by rw[List.flatten_append];simpa using h2,fun c hc => ?_⟩,h3⟩
 rcases abV.1 hc with hc | hc
 ·exact h.2 c hc
 ·rw[No] at hc;subst hc;exact hn
theorem OL.one {H:Hp}{el es:Nat}{x:AV}{L:List (List AV)}(h:OL H el es x L):∀ c∈L,c.all ba=true:=fun c hc=>by
 rw[adY]
 intro v hv
 exact h.1.one v (ahl.2 ⟨c,hc,hv⟩)
theorem gy {α:Type}{l r:List α}{i:Nat}{a:α}(h:l.drop i=a::r):i<l.length/\l[i]? = some a/\l.drop (i+1)=r:=by
 have h1:i<l.length:=by
  have:=congrArg List.length h
  rw[afK,aaN] at this;omega
 refine⟨h1,?_,?_⟩
 ·have:=afT (xs:=l) (i:=i) (j:=0)
  rw[h,aem] at this
  rw[<-this];rfl
 ·have:=List.drop_drop (l:=l) (i:=1) (j:=i)
  rw[h] at this
  rw[<-this];rfl
theorem Out.nx {S:List Nat}{H H':Hp}(h:Out S H H'):H.next<=H'.next:=h.1
theorem Ej {H:Hp}{el fJ es:Nat}{z:List AV}{x:AV}{l:List AV}(hx:Rw H es x l)(ho:∀ v∈l,ba v=true)(dy:0<es)(hlen:l.length<=16777216) :
  ∃ s' H',gw el es z false (.slice H.next 0 0 0 true es) x (al H [] fJ 0)=some (s',H')/\Ow H' el es s' l/\Out [] H H'/\(∀ j∈ak s',H.next<=j):=by
 have ha:=aJ H [] fJ 0
 obtain⟨s',H',h1,h2,h3,h4⟩:=Wu (z:=z) (Ow.emp (H:=al H [] fJ 0) (el:=el) (es:=es) (i:=H.next) (off:=0)) (hx.out0 ha) ho dy (by simpa using hlen)
 refine⟨s',H',h1,by simpa using h2,ha.then h3 (fun j hj=>by cases hj),fun j hj => ?_⟩
 rcases h4 j hj with q | q
 ·cases q
 ·rw[bI] at q;omega
theorem Vw {n s i off z:Nat}(k:IntKind)(h:z<n):nj n s (.ptr i off) (.int k z)=some (.ptr i (off+z*s)):=by
 unfold nj
 simp only
 rw[if_pos (by omega),acT]
theorem Wz {n s i off:Nat}(k:IntKind)(h:0<n):nj n s (.ptr i off) (.int k 0)=some (.ptr i off):=by
 have:=Vw (s:=s) (i:=i) (off:=off) k h
 rw[ahk] at this
 exact this
theorem ZI {n i off:Nat}(k:IntKind)(h:1<n):nj n 1 (.ptr i off) (.int k 1)=some (.ptr i (off+1)):=by
 have:=Vw (s:=1) (i:=i) (off:=off) k h
 exact this
theorem kA (k:IntKind)(n:Int):ba (.int k n)=true:=aaw rfl (id rfl)
theorem Du (s:List Nat):ba (.str s)=true:=aaw rfl (id rfl)
theorem Wk (b:Bool):ba (.bool b)=true:=aaw rfl (id rfl)
theorem XU (i o:Nat):ba (.ptr i o)=true:=aaw rfl (id rfl)
theorem Ze:ba .fB=true:=aaw rfl (id rfl)
theorem WT (i o n c:Nat)(x:Bool)(es:Nat):ba (.slice i o n c x es)=true:=aaw rfl (id rfl)
theorem Wg:ba .ah=true:=aaw rfl (id rfl)
theorem Xr (i:Nat):ba (.map i)=true:=aaw rfl (id rfl)
theorem WN:ba .ja=true:=aaw rfl (id rfl)
theorem abX (f:Go.Fn)(a b:List AV):ba (.func f a b)=true:=aaw rfl (id rfl)
theorem ab8:ba .nilFunc=true:=aaw rfl (id rfl)
theorem Yb:ba .nilIface=true:=aaw rfl (id rfl)
theorem ab0 (t:TypeId)(v:AV):ba (.iface t v)=true:=aaw rfl (id rfl)
theorem aj:type_of% (And.intro @Tl (And.intro @Wo (And.intro @aab (And.intro @aa8 (And.intro @XV (And.intro @aaD (And.intro @aaL (And.intro @XP (And.intro @XB (And.intro @SB (And.intro @aaK (And.intro @WH (And.intro @WM (And.intro @XT (And.intro @S4 (And.intro @VD (And.intro @Zq (And.intro @abE (And.intro @abk (And.intro @ab9 (And.intro @abe (And.intro @YE (And.intro @Ti (And.intro @aaV (And.intro @W1 (And.intro @ZT (And.intro @ZV (And.intro @abt (And.intro @YZ (And.intro @ZS (And.intro @Yx (And.intro @Y0 (And.intro @Yp (And.intro @aah (And.intro @ZZ (And.intro @Xo (And.intro @T6 (And.intro @Um (And.intro @Xa (And.intro @ZB (And.intro @YJ (And.intro @Zf (And.intro @XW (And.intro @abi (And.intro @TT (And.intro @UD (And.intro @SW (And.intro @Yn (And.intro @X7 (And.intro @UI (And.intro @abo (And.intro @ab3 (And.intro @ZN (And.intro @Td (And.intro @SQ (And.intro @Tp (And.intro @abj (And.intro @Zw (And.intro @I6 (And.intro @Xt (And.intro @YV (And.intro @X0 (And.intro @Wi (And.intro @Z8 (And.intro @Ut (And.intro @W4 (And.intro @T9 (And.intro @abb (And.intro @WO (And.intro @Wb (And.intro @Y2 (And.intro @S0 (And.intro @WK @ab5))))))))))))))))))))))))))))))))))))))))))))))))))))))))))))))))))))))))):=And.intro @Tl (And.intro @Wo (And.intro @aab (And.intro @aa8 (And.intro @XV (And.intro @aaD (And.intro @aaL (And.intro @XP (And.intro @XB (And.intro @SB (And.intro @aaK (And.intro @WH (And.intro @WM (And.intro @XT (And.intro @S4 (And.intro @VD (And.intro @Zq (And.intro @abE (And.intro @abk (And.intro @ab9 (And.intro @abe (And.intro @YE (And.intro @Ti (And.intro @aaV (And.intro @W1 (And.intro @ZT (And.intro @ZV (And.intro @abt (And.intro @YZ (And.intro @ZS (And.intro @Yx (And.intro @Y0 (And.intro @Yp (And.intro @aah (And.intro @ZZ (And.intro @Xo (And.intro @T6 (And.intro @Um (And.intro @Xa (And.intro @ZB (And.intro @YJ (And.intro @Zf (And.intro @XW (And.intro @abi (And.intro @TT (And.intro @UD (And.intro @SW (And.intro @Yn (And.intro @X7 (And.intro @UI (And.intro @abo (And.intro @ab3 (And.intro @ZN (And.intro @Td (And.intro @SQ (And.intro @Tp (And.intro @abj (And.intro @Zw (And.intro @I6 (And.intro @Xt (And.intro @YV (And.intro @X0 (And.intro @Wi (And.intro @Z8 (And.intro @Ut (And.intro @W4 (And.intro @T9 (And.intro @abb (And.intro @WO (And.intro @Wb (And.intro @Y2 (And.intro @S0 (And.intro @WK @ab5))))))))))))))))))))))))))))))))))))))))))))))))))))))))))))))))))))))))
theorem ar:type_of% (And.intro @Wz (And.intro @ZI (And.intro @gB (And.intro @bI (And.intro @Kn (And.intro @JS (And.intro @vc (And.intro @tw (And.intro @El (And.intro @Zz (And.intro @Sp (And.intro @iV (And.intro @iW (And.intro @P0 (And.intro @tP (And.intro @GY @zT)))))))))))))))):=And.intro @Wz (And.intro @ZI (And.intro @gB (And.intro @bI (And.intro @Kn (And.intro @JS (And.intro @vc (And.intro @tw (And.intro @El (And.intro @Zz (And.intro @Sp (And.intro @iV (And.intro @iW (And.intro @P0 (And.intro @tP (And.intro @GY @zT)))))))))))))))
theorem ag:type_of% (And.intro @kA (And.intro @Du (And.intro @Wk (And.intro @XU (And.intro @Ze (And.intro @WT (And.intro @Wg (And.intro @Xr (And.intro @WN (And.intro @abX (And.intro @ab8 (And.intro @Yb (And.intro @ab0 @bI))))))))))))):=And.intro @kA (And.intro @Du (And.intro @Wk (And.intro @XU (And.intro @Ze (And.intro @WT (And.intro @Wg (And.intro @Xr (And.intro @WN (And.intro @abX (And.intro @ab8 (And.intro @Yb (And.intro @ab0 @bI))))))))))))
theorem ai:(∀ (a:AV) (l:List AV),(a::l)[0]? = some a)/\(∀ (a:AV) (l:List AV) (i:Nat),(a::l)[i+1]? = l[i]?)/\(∀ n:Nat,0+n=n)/\((!true)=false)/\((!false)=true)/\(∀ h:Decidable True,@decide True h=true)/\(∀ h:Decidable False,@decide False h=false)/\(∀ a:Int,(a==a)=true)/\(∀ a:List Nat,(a==a)=true)/\(∀ a:Int,(a != a)=false)/\(∀ a:List Nat,(a != a)=false)/\(∀ a b:Int,(a ≥ b)=(b<=a))/\(∀ a b:Int,(a>b)=(b<a)):=
 ⟨fun _ _=>rfl,fun _ _ _=>rfl,ad6,rfl,rfl,fun _=>decide_eq_true trivial,fun _=>decide_eq_false id,fun _=>beq_self_eq_true _,fun _=>beq_self_eq_true _,fun _=>bne_self_eq_false _,fun _=>bne_self_eq_false _,fun _ _=>rfl,fun _ _=>rfl⟩
theorem au:(∀ (f:List AV->AV) (l:List AV),Option.map f (some l)=some (f l))/\(∀ l:List AV,l.drop 0=l)/\(∀ (n:Nat) (a:AV) (l:List AV),(a::l).take (n+1)=a::l.take n)/\(∀ l:List AV,l.take 0=[])/\(∀ (n:Nat) (a:AV) (l:List AV),(a::l).drop (n+1)=l.drop n)/\(∀ (a b:AV) (l:List AV),(a::l).set 0 b=b::l)/\(∀ (n:Nat) (a b:AV) (l:List AV),(a::l).set (n+1) b=a::l.set n b)/\(∀ l:List AV,[]++l=l)/\(∀ (a:AV) (l m:List AV),a::l++m=a::(l++m))/\(∀ l:List AV,l++[]=l)/\(∀ n:Nat,n+0=n):=
 ⟨fun _ _=>rfl,fun _=>rfl,fun _ _ _=>rfl,fun _=>rfl,fun _ _ _=>rfl,fun _ _ _=>rfl,fun _ _ _ _=>rfl,fun _=>rfl,fun _ _ _=>rfl,ahD,fun _=>rfl⟩
theorem af:(∀ (H:Hp) (l:List AV) (el fl:Nat),(al H l el fl).next=H.next+1)/\(∀ (a:AV) (l:List AV),(a::l).length=l.length+1)/\(([]:List AV).length=0)/\(∀ (p:AV->Bool) (a:AV) (l:List AV),(a::l).all p=(p a&&l.all p))/\(∀ p:AV->Bool,([]:List AV).all p=true)/\(∀ b:Bool,(b&&true)=b)/\(∀ b:Bool,(true&&b)=b)/\(∀ b:Bool,(b&&b)=b)/\(∀ n:Nat,0+n=n)/\(∀ n:Nat,(n<=n)=True):=
 ⟨fun _ _ _ _=>rfl,fun _ _=>rfl,rfl,fun _ _ _=>rfl,fun _=>rfl,Bool.and_true,aeV,Bool.and_self,ad6,fun n=>eq_true (aaH n)⟩
end K
end Go.Proofs.YtodfajmihkagnaaGreatDoor.Am
