/- Laws that the proof uses. -/
import Derived.Test.YtodfajmihkagnaaGreatDoorAm15
set_option linter.unusedVariables false
set_option linter.unusedSimpArgs false
namespace Go.Proofs.YtodfajmihkagnaaGreatDoor.Am
namespace Tr
variable {α:Type}
theorem Kj:∀(p:Pa) (x y:Option α) (t:Tr α),mJ p y (mJ p x t)=mJ p y t
 |.e,x,y,t=>rfl|.a p,x,y,t=>congrArg (λk=>Tr.node t.val k t.c1 t.c2 t.c3) (Kj p x y t.c0)|.b p,x,y,t=>congrArg (λk=>Tr.node t.val t.c0 k t.c2 t.c3) (Kj p x y t.c1)|.c p,x,y,t=>congrArg (λk=>Tr.node t.val t.c0 t.c1 k t.c3) (Kj p x y t.c2)|.d p,x,y,t=>congrArg (λk=>Tr.node t.val t.c0 t.c1 t.c2 k) (Kj p x y t.c3)
theorem NR:∀(p q:Pa) (x y:Option α) (t:Tr α),p≠q->mJ p x (mJ q y t)=mJ q y (mJ p x t)
 |.e,.e,x,y,t,h=>absurd rfl h|.a p,.a q,x,y,t,h=>congrArg (λk=>Tr.node t.val k t.c1 t.c2 t.c3) (NR p q x y t.c0 (λe=>h (by rw[e])))|.b p,.b q,x,y,t,h=>congrArg (λk=>Tr.node t.val t.c0 k t.c2 t.c3) (NR p q x y t.c1 (λe=>h (by rw[e])))|.c p,.c q,x,y,t,h=>congrArg (λk=>Tr.node t.val t.c0 t.c1 k t.c3) (NR p q x y t.c2 (λe=>h (by rw[e])))|.d p,.d q,x,y,t,h=>congrArg (λk=>Tr.node t.val t.c0 t.c1 t.c2 k) (NR p q x y t.c3 (λe=>h (by rw[e])))|.e,.a _,x,y,t,h=>rfl|.e,.b _,x,y,t,h=>rfl|.e,.c _,x,y,t,h=>rfl|.e,.d _,x,y,t,h=>rfl|.a _,.e,x,y,t,h=>rfl|.a _,.b _,x,y,t,h=>rfl|.a _,.c _,x,y,t,h=>rfl|.a _,.d _,x,y,t,h=>rfl|.b _,.e,x,y,t,h=>rfl|.b _,.a _,x,y,t,h=>rfl|.b _,.c _,x,y,t,h=>rfl|.b _,.d _,x,y,t,h=>rfl|.c _,.e,x,y,t,h=>rfl|.c _,.a _,x,y,t,h=>rfl|.c _,.b _,x,y,t,h=>rfl|.c _,.d _,x,y,t,h=>rfl|.d _,.e,x,y,t,h=>rfl|.d _,.a _,x,y,t,h=>rfl|.d _,.b _,x,y,t,h=>rfl|.d _,.c _,x,y,t,h=>rfl
theorem atx {n m:Nat}(h:n≠m):pathOf n≠pathOf m:=by
 intro e;have h1:=gL (α:=Unit) .nil n m (some ());have h2:(mJ (pathOf n) (some ()) (.nil:Tr Unit)).get m=some ():=by unfold get;rw[<-e];have:=gL (α:=Unit) .nil n n (some ());rw[zz2 rfl] at this;exact this
 rw[h2,zz1 (λq=>h q.symm)] at h1;have:(.nil:Tr Unit).get m=none:=Bv _;rw[this] at h1;cases h1
theorem ala:∀(l:List α) (t:Tr α) (n m:Nat) (v:α),m<n->(t.cl n l).cW m v=(t.cW m v).cl n l
 |[],t,n,m,v,h=>rfl|x::l,t,n,m,v,h=>by show ((t.put 34 n x).cl (n+1) l).cW m v=((t.cW m v).put 34 n x).cl (n+1) l;rw[ala l _ _ _ _ zzz];congr 1;exact NR _ _ _ _ _ (atx zzz)
theorem ahs:∀(l:List α) (t:Tr α) (n k:Nat) (v:α),k<l.length->(t.cl n l).cW (n+k) v=t.cl n (l.set k v)
 |[],t,n,k,v,h=>by simp at h
 |x::l,t,n,0,v,h=>by show ((t.put 34 n x).cl (n+1) l).cW (n+0) v=(t.put 34 n v).cl (n+1) l;rw[ala l _ _ _ _ zzz];congr 1;exact Kj _ _ _ _
 |x::l,t,n,k+1,v,h=>by show ((t.put 34 n x).cl (n+1) l).cW (n+(k+1)) v=(t.put 34 n x).cl (n+1) (l.set k v);rw[show n+(k+1)=n+1+k by omega];exact ahs l _ _ _ _ (by simpa using h)
end Tr
namespace K
def al (H:Hp)(l:List AV)(el fl:Nat):Hp:=⟨H.h.put 34 H.next (.cells (Tr.cl .nil 0 l) 0 l.length el fl),H.next+1⟩
theorem eh {H:Hp}{l:List AV}{el fl:Nat}(h:l.length<=16777216):az H l el fl=some (H.next,al H l el fl):=by unfold az alloc;have:Nat.ble l.length 16777216=true:=ae2.mpr h;rw[this];rfl
theorem bT (H:Hp)(l:List AV)(el fl:Nat):(al H l el fl).next=H.next+1:=abg rfl (id rfl)
theorem Jz (H:Hp)(l:List AV)(el fl i:Nat):(al H l el fl).h.get i=if i=H.next then some (.cells (Tr.cl .nil 0 l) 0 l.length el fl) else H.h.get i:=Tr.gL _ _ _ _
theorem aP (H:Hp)(l:List AV)(el fl:Nat):Cs (al H l el fl) H.next l el fl:=by refine⟨ahA _,Tr.cl .nil 0 l,by rw[Jz,zz2 rfl],λk v hk=>?_⟩;have:=(aag.1 hk).1;rw[C9,zz2 zzz];exact hk
theorem aD (H:Hp)(l:List AV)(el fl:Nat):Out [] H (al H l el fl):=⟨agN _,λj hj _=>by rw[Jz,zz1 zzz]⟩
theorem Out.al {S:List Nat}{H H':Hp}(h:Out S H H')(l:List AV)(el fl:Nat):Out S H (al H' l el fl):=h.then (aD H' l el fl) λj hj=>by cases hj
section
variable {H H':Hp}{L:List (List AV)}{S:List Nat}{el el2 es i m o:Nat}{l vs z:List AV}{x:AV}
theorem Zy (h:H'.h.get i=H.h.get i):cellAt H' i o=cellAt H i o:=by unfold cellAt;rw[h]
theorem Wx {H H':Hp}{i:Nat}(h:H'.h.get i=H.h.get i):∀(n o:Nat),av H' i o n=av H i o n
 |0,o=>rfl|n+1,o=>by unfold av;rw[Zy h,Wx h n]
theorem BC {H:Hp}{l:List AV}{el fl i o:Nat}(h:i=H.next):cellAt (al H l el fl) i o=l[o]?:=by
 subst h;cases hv:l[o]? with
 |some v=>exact (aP H l el fl).cellAt hv|none=>
  unfold cellAt;rw[Jz,zz2 rfl];have:=List.getElem?_eq_none_iff.1 hv;have hb:(Nat.ble 0 o&&Nat.blt o l.length)=false:=by rw[Bool.and_eq_false_iff];right;rw[<-ahM,adW];omega
  simp only[hb,cond_false]
theorem xz {H:Hp}{l:List AV}{el fl i o:Nat}(h:i<H.next):cellAt (al H l el fl) i o=cellAt H i o:=Zy (by rw[Jz,zz1 zzz])
theorem Ou {H:Hp}{l:List AV}{el fl i o n:Nat}(h:i=H.next)(hn:o+n<=l.length):av (al H l el fl) i o n=some ((l.drop o).take n):=by subst h;exact (aP H l el fl).av n o hn
theorem anb {H:Hp}{l:List AV}{el fl i o n:Nat}(h:i<H.next):av (al H l el fl) i o n=av H i o n:=Wx (by rw[Jz,zz1 zzz]) _ _
theorem Out.cellAt {S:List Nat}{H H':Hp}(h:Out S H H'){i o:Nat}(hi:i<H.next)(hs:i∉S):cellAt H' i o=Am.cellAt H i o:=Zy (h.2 i hi hs)
theorem Out.av {S:List Nat}{H H':Hp}(h:Out S H H'){i o n:Nat}(hi:i<H.next)(hs:i∉S):av H' i o n=Am.av H i o n:=Wx (h.2 i hi hs) _ _
theorem RJ (i o:Nat)(H:Hp):ld (.ptr i o) H=cellAt H i o:=abg rfl (id rfl)
theorem PL (n i o:Nat)(H:Hp):aB n (.ptr i o) H=(av H i o n).map .agg:=abg rfl (id rfl)
def kR (l:List AV)(o:Nat):List AV->List AV
 |[]=>l|v::vs=>kR (l.set o v) (o+1) vs
theorem OF:∀(vs l:List AV) (o:Nat),(kR l o vs).length=l.length
 |[],l,o=>rfl|v::vs,l,o=>by rw[kR,OF vs,acV]
theorem FQ:∀(vs l:List AV) (o k:Nat),o+vs.length<=l.length->(kR l o vs)[k]?=if o<=k/\k<o+vs.length then vs[k-o]? else l[k]?
 |[],l,o,k,h=>by rw[zz1 (by simp only[ach];omega)];rfl
 |v::vs,l,o,k,h=>by
  simp only[aaP] at h⊢;rw[kR,FQ vs _ _ _ (by rw[acV];omega)];by_cases h1:o+1<=k/\k<o+1+vs.length;·rw[zz2 h1,zz2 zzz,show k-o=(k-(o+1))+1 by omega,acJ]
  ·rw[zz1 h1];by_cases h2:k=o;·subst h2;rw[zz2 zzz,ajQ,aeH zzz];rfl
   ·rw[zz1 zzz,ajA (λq=>h2 q.symm)]
theorem ajo (vs l:List AV)(h:vs.length=l.length):kR l 0 vs=vs:=by
 apply akn;intro k;rw[FQ vs l 0 k zzz];split;·rw[agA]
 ·rename_i hn;rw[agQ zzz,agQ zzz]
theorem aDV {fl:Nat}{v:AV}(h:i=H.next)(hf:fl<=1)(ho:o<l.length)(hv:aZ v=true):setCell (al H l el fl) i o v=some (al H (l.set o v) el fl):=by
 subst h;have hs:((Tr.cl .nil 0 l).get o).isSome=true:=by rw[C9,zz2 zzz];simp[ho]
 have hb:(Nat.ble 0 o&&Nat.blt o l.length&&Nat.ble fl 1&&((Tr.cl .nil 0 l).get o).isSome&&aZ v)=true:=by simp only[aaM,ae2,adW];exact⟨⟨⟨⟨zzz,ho⟩,hf⟩,hs⟩,hv⟩
 unfold setCell;rw[Jz,zz2 rfl];simp only[hb,cond_true];have e1:(Tr.cl .nil 0 l).cW o v=Tr.cl .nil 0 (l.set o v):=by have:=Tr.ahs l .nil 0 o v ho;rw[ade] at this;exact this
 rw[e1];unfold al;congr 2;rw[acV];exact Tr.Kj _ _ _ _
theorem abl {H:Hp}{el fl i:Nat}(h:i=H.next)(hf:fl<=1):∀(vs l:List AV) (o:Nat),o+vs.length<=l.length->(∀v∈vs,aZ v=true)->setCells (al H l el fl) i o vs=some (al H (kR l o vs) el fl)
 |[],l,o,_,_=>rfl|v::vs,l,o,hl,hv=>by simp only[aaP] at hl;unfold setCells;rw[aDV h hf zzz (hv v (.head _))];exact abl h hf vs _ _ (by rw[acV];omega) λu hu=>hv u (.tail _ hu)
theorem P6 {v:AV}(h:aZ v=true):uu v=some [v]:=by cases v<;>first|rfl|cases h
theorem HM (l:List AV):uu (.agg l)=some l:=abg rfl (id rfl)
theorem R1 {H:Hp}{l:List AV}{el fl i o:Nat}{v:AV}(hv:aZ v=true)(h:i=H.next)(hf:fl<=1)(ho:o<l.length):st 1 (.ptr i o) v (al H l el fl)=some (al H (l.set o v) el fl):=by unfold st;simp only[P6 hv];show setCells _ i o [v]=_;exact abl h hf [v] l o (by simp only[aaP,ach];omega) λu hu=>by rw[No] at hu;subst hu;exact hv
theorem gJ {H:Hp}{l vs:List AV}{n el fl i:Nat}(hv:vs.all aZ=true)(hn:n=vs.length)(h:i=H.next)(hf:fl<=1)(hl:l.length=vs.length):st n (.ptr i 0) (.agg vs) (al H l el fl)=some (al H vs el fl):=by
 unfold st;have:Nat.beq n vs.length=true:=by subst hn;exact ait _
 simp only[HM,this,cond_true];rw[abl h hf vs l 0 zzz (acT.1 hv),ajo vs l hl.symm]
theorem iw {H:Hp}{el:Nat}{l:List AV}(h:l.length<=16777216):bx el (.agg l) H=some (H.next,al H l el 0):=by unfold bx;simp only[HM];exact eh h
theorem MB {H:Hp}{el:Nat}{v:AV}(hv:aZ v=true):bx el v H=some (H.next,al H [v] el 0):=by unfold bx;simp only[P6 hv];exact eh zzy
theorem yW {z:List AV}{off:Nat}{v:AV}{r:List (Nat×Nat×AV)}(hv:aZ v=true)(h:off+1<=z.length):fl z ((off,1,v)::r)=fl (z.set off v) r:=by
 have e:z.take off++[v]++z.drop (off+1)=z.set off v:=by rw[List.set_eq_take_append_cons_drop,zz2 zzz];simp
 show (match uu v with|some cs=>if cs.length=1/\off+1<=z.length then fl (z.take off++cs++z.drop (off+1)) r else none|none=>none)=_;rw[P6 hv];simp only;rw[zz2 ⟨rfl,h⟩,e]
theorem Ai {z:List AV}{off n:Nat}{l:List AV}{r:List (Nat×Nat×AV)}(hn:l.length=n)(h:off+n<=z.length):fl z ((off,n,.agg l)::r)=fl (z.take off++l++z.drop (off+n)) r:=by show (match uu (.agg l) with|some cs=>if cs.length=n/\off+n<=z.length then fl (z.take off++cs++z.drop (off+n)) r else none|none=>none)=_;rw[HM];simp only;rw[zz2 ⟨hn,h⟩]
theorem Rw.one (h:Rw H es x l):aZ x=true:=by cases h<;>rfl
theorem Ow.lr (h:Ow H el es x l):aZ x=true:=h.rw.one
theorem vf {s:AV}(h:Ow H el es s l)(hv:vs.all aZ=true)(hn:vs.length=es)(ef:0<es)(hlen:l.length+vs.length<=16777216):
  ∃s' H',(∀i,i=H.next->cL el es z false s (.slice i 0 1 1 true es) (al H vs el2 0)=some (s',H'))/\Ow H' el es s' (l++vs)/\Out (ak s) H H'/\(∀j∈ak s',j∈ak s\/H.next<=j)/\aZ s'=true:=by
 have c:=aP H vs el2 0;have hr:Rw (al H vs el2 0) es (.slice H.next 0 1 1 true es) vs:=.mk c.ro (by rw[hn,aj4]) (aaO _) rfl;have ho:Ow (al H vs el2 0) el es s l:=h.out (aD H vs el2 0) λj hj=>zzy;obtain⟨s',H',h1,h2,h3,h4⟩:=ao8 (z:=z) ho hr (acT.1 hv) ef hlen;refine⟨s',H',λi hi=>by subst hi;exact h1,h2,((aD H vs el2 0).mono (S':=ak s) (λj hj=>by cases hj)).then h3 (λj hj=>.inl hj),λj hj=>(h4 j hj).imp id λq=>by rw[bT] at q;omega,h2.lr⟩
theorem aiv {s:List Nat}(k:IntKind)(h:m<=s.length):qM (.str s) none (some (.int k m))=some (.str (s.take m)):=by unfold qM;simp only[D9 (aa7 m) h (aaO _) (Bd.no 0) (Bd.yes k m _),adX,aaY,agA]
theorem agD {s:List Nat}(k:IntKind)(h:m<=s.length):qM (.str s) (some (.int k m)) none=some (.str (s.drop m)):=by unfold qM;simp only[D9 h (aaO _) (aaO _) (Bd.yes k m 0) (Bd.no _),adX];rw[afe (by rw[aeF];omega)]
theorem alX {s:List Nat}{a b:Nat}(k j:IntKind)(AG:a<=b)(h:b<=s.length):qM (.str s) (some (.int k a)) (some (.int j b))=some (.str ((s.drop a).take (b-a))):=by unfold qM;simp only[D9 AG h (aaO _) (Bd.yes k a 0) (Bd.yes j b _),adX]
theorem aF7 {s:List Nat}{b:Nat}(k:IntKind)(h:s[i]?=some b):Ah (.str s) (.int k i)=some (.int .u8 b):=by unfold Ah;simp only;rw[zz2 zzz,abI,h];rfl
theorem ae9 {s:List Nat}{b:Nat}(k:IntKind)(h:s[0]?=some b):Ah (.str s) (.int k 0)=some (.int .u8 b):=aF7 (i:=0) k h
theorem Rw.ia {H:Hp}{es n:Nat}{x:AV}{l:List AV}(h:Rw H es x l)(hl:l.length=n*es)(ef:0<es){i:Nat}(hi:i<n):∃b o,(∀k,ia es x (.int k i)=some (.ptr b o))/\b∈ak x/\b<H.next/\
  (∀k v,l[i*es+k]?=some v->k<es->cellAt H b (o+k)=some v)/\av H b o es=some ((l.drop (i*es)).take es):=by
 cases h with
 |nil=>
  simp only[ach] at hl;rcases Nat.mul_eq_zero.1 hl.symm with q|q<;>omega
 |emp=>
  simp only[ach] at hl;rcases Nat.mul_eq_zero.1 hl.symm with q|q<;>omega
 |@mk j off m cap ex l hr hn hc he=>
  have hm:m=n:=Nat.eq_of_mul_eq_mul_right ef (hn.symm.trans hl);subst hm;have hle:(i+1)*es<=m*es:=ad4 _ hi;rw[afs,aj4] at hle;refine⟨j,off+i*es,λk=>DL hi,by rw[pK he];exact .head _,hr.1,λk v hk _=>?_,?_⟩;·rw[ak2];exact hr.cellAt hk
  ·have h1:=((hr.drop (i*es) zzz).take es).av;rw[ad8,aeF,amV zzz] at h1;exact h1
def RL (H:Hp)(es:Nat)(x:AV)(L:List (List AV)):Prop:=Rw H es x L.flatten/\∀c∈L,c.length=es
def OL (H:Hp)(el es:Nat)(x:AV)(L:List (List AV)):Prop:=Ow H el es x L.flatten/\∀c∈L,c.length=es
theorem EH {es:Nat}:∀{L:List (List AV)},(∀c∈L,c.length=es)->L.flatten.length=L.length*es
 |[],_=>zzy|c::L,h=>by rw[agL,aal,h c (.head _),EH λd hd=>h d (.tail _ hd),aaP,afs];omega
theorem anG {es:Nat}:∀{L:List (List AV)} {i:Nat} {c:List AV},(∀c∈L,c.length=es)->L[i]?=some c->(L.flatten.drop (i*es)).take es=c
 |[],i,c,_,h=>by simp at h
 |a::L,0,c,hl,h=>by simp only[ada,acD] at h;subst h;have:=hl a (.head _);rw[ag0,aaY,agL,List.take_append_of_le_length zzz,afe zzz]
 |a::L,i+1,c,hl,h=>by simp only[acJ] at h;have ha:=hl a (.head _);rw[agL,afs,aj4,List.drop_append,aiG zzz,afP,ha,Nat.add_sub_cancel];exact anG (λd hd=>hl d (.tail _ hd)) h
theorem OL.rl (h:OL H el es x L):RL H es x L:=⟨h.1.rw,h.2⟩
theorem RL.out (h:RL H es x L)(k:Out S H H')(hi:∀j∈ak x,j∉S):RL H' es x L:=⟨h.1.out k hi,h.2⟩
theorem RL.au (h:RL H es x L)(k:Out [] H H'):RL H' es x L:=h.out k λ_ _ q=>by cases q
theorem Rw.au (h:Rw H es x l)(k:Out [] H H'):Rw H' es x l:=h.out k λ_ _ q=>by cases q
theorem OL.out (h:OL H el es x L)(k:Out S H H')(hi:∀j∈ak x,j∉S):OL H' el es x L:=⟨h.1.out k hi,h.2⟩
theorem RL.one (h:RL H es x L):aZ x=true:=h.1.one
theorem RL.len (h:RL H es x L)(ef:0<es):aE x=some (.int .i64 (L.length:Nat)):=by obtain⟨n,h1,h2⟩:=h.1.len;rw[EH h.2] at h2;rw[h1,Nat.eq_of_mul_eq_mul_right ef h2]
theorem RL.at {H:Hp}{es:Nat}{x:AV}{L:List (List AV)}(h:RL H es x L)(ef:0<es){i:Nat}{c:List AV}(hi:L[i]?=some c):∃b o,(∀k,ia es x (.int k i)=some (.ptr b o))/\b∈ak x/\b<H.next/\av H b o es=some c/\∀k v,c[k]?=some v->cellAt H b (o+k)=some v:=by
 have aV:=(aag.1 hi).1;obtain⟨b,o,h1,h2,h3,h4,h5⟩:=h.1.ia (EH h.2) ef aV;have hf:=anG h.2 hi;rw[hf] at h5;refine⟨b,o,h1,h2,h3,h5,λk v hv=>?_⟩;have hk:k<es:=by have:=(aag.1 hv).1;rw[h.2 c (aac hi)] at this;exact this
 refine h4 k v ?_ hk;rw[<-hf,ajz,zz2 hk,agr] at hv;exact hv
theorem OL.nil (H:Hp)(el es:Nat):OL H el es .ah []:=⟨.nil,λc hc=>by cases hc⟩
theorem RL.nil (H:Hp)(es:Nat):RL H es .ah []:=⟨.nil,λc hc=>by cases hc⟩
theorem OL.push {s:AV}(h:OL H el es s L)(hv:vs.all aZ=true)(hn:vs.length=es)(ef:0<es)(hlen:(L.length+1)*es<=16777216):
  ∃s' H',(∀i,i=H.next->cL el es z false s (.slice i 0 1 1 true es) (al H vs el2 0)=some (s',H'))/\OL H' el es s' (L++[vs])/\Out (ak s) H H'/\(∀j∈ak s',j∈ak s\/H.next<=j)/\aZ s'=true:=by
 obtain⟨s',H',h1,h2,h3⟩:=vf (el2:=el2) (z:=z) h.1 hv hn ef (by rw[EH h.2,hn];rw[afs,aj4] at hlen;exact hlen);refine⟨s',H',h1,⟨by rw[List.flatten_append];simpa using h2,λc hc=>?_⟩,h3⟩;rcases aa2.1 hc with hc|hc;·exact h.2 c hc
 ·rw[No] at hc;subst hc;exact hn
theorem OL.one (h:OL H el es x L):∀c∈L,c.all aZ=true:=λc hc=>by rw[acT];intro v hv;exact h.1.one v (akG.2 ⟨c,hc,hv⟩)
theorem dU {α:Type}{l r:List α}{a:α}(h:l.drop i=a::r):i<l.length/\l[i]?=some a/\l.drop (i+1)=r:=by
 have h1:i<l.length:=by have:=congrArg List.length h;rw[aeF,aaP] at this;omega
 refine⟨h1,?_,?_⟩;·have:=agr (xs:=l) (i:=i) (j:=0);rw[h,aed] at this;rw[<-this];rfl
 ·have:=List.drop_drop (l:=l) (i:=1) (j:=i);rw[h] at this;rw[<-this];rfl
theorem Out.nx (h:Out S H H'):H.next<=H'.next:=h.1
theorem He (hx:Rw H es x l)(ho:∀v∈l,aZ v=true)(ef:0<es)(hlen:l.length<=16777216):
  ∃s' H',cL el es z false (.slice H.next 0 0 0 true es) x (al H [] el2 0)=some (s',H')/\Ow H' el es s' l/\Out [] H H'/\(∀j∈ak s',H.next<=j):=by
 have ha:=aD H [] el2 0;obtain⟨s',H',h1,h2,h3,h4⟩:=ao8 (z:=z) (Ow.emp (H:=al H [] el2 0) (el:=el) (es:=es) (i:=H.next) (off:=0)) (hx.au ha) ho ef (by simpa using hlen);refine⟨s',H',h1,by simpa using h2,ha.then h3 (λj hj=>by cases hj),λj hj=>?_⟩;rcases h4 j hj with q|q;·cases q
 ·rw[bT] at q;omega
theorem adG {n s off z:Nat}(k:IntKind)(h:z<n):qD n s (.ptr i off) (.int k z)=some (.ptr i (off+z*s)):=by unfold qD;simp only;rw[zz2 zzz,abI]
theorem aoc {n s i off:Nat}(k:IntKind)(h:0<n):qD n s (.ptr i off) (.int k 0)=some (.ptr i off):=by have:=adG (s:=s) (i:=i) (off:=off) k h;rw[ag0] at this;exact this
theorem ahL {n i off:Nat}(k:IntKind)(h:1<n):qD n 1 (.ptr i off) (.int k 1)=some (.ptr i (off+1)):=by have:=adG (s:=1) (i:=i) (off:=off) k h;exact this
theorem iS (k:IntKind)(n:Int):aZ (.int k n)=true:=abg rfl (id rfl)
theorem J5 (s:List Nat):aZ (.str s)=true:=abg rfl (id rfl)
theorem ZR (b:Bool):aZ (.bool b)=true:=abg rfl (id rfl)
theorem anD (i o:Nat):aZ (.ptr i o)=true:=abg rfl (id rfl)
theorem afj:aZ .da=true:=abg rfl (id rfl)
theorem aos (i o n c:Nat)(x:Bool)(es:Nat):aZ (.slice i o n c x es)=true:=abg rfl (id rfl)
theorem afo:aZ .ah=true:=abg rfl (id rfl)
theorem ac4 (i:Nat):aZ (.map i)=true:=abg rfl (id rfl)
theorem amz:aZ .lG=true:=abg rfl (id rfl)
theorem an0 (f:Go.Fn)(a b:List AV):aZ (.func f a b)=true:=abg rfl (id rfl)
theorem alI:aZ .nilFunc=true:=abg rfl (id rfl)
theorem aoM:aZ .nilIface=true:=abg rfl (id rfl)
theorem akM (t:TypeId)(v:AV):aZ (.iface t v)=true:=abg rfl (id rfl)
theorem ai:type_of% (And.intro @adz (And.intro @afA (And.intro @aoS (And.intro @aeE (And.intro @ajc (And.intro @aep (And.intro @aeh (And.intro @ana (And.intro @agJ (And.intro @adR (And.intro @adJ (And.intro @ag6 (And.intro @aeQ (And.intro @ahO (And.intro @anV (And.intro @afO (And.intro @ao0 (And.intro @amw (And.intro @aic (And.intro @ako (And.intro @aeu (And.intro @am9 (And.intro @aij (And.intro @aff (And.intro @aj5 (And.intro @aik (And.intro @anO (And.intro @aoJ (And.intro @Ry (And.intro @QW (And.intro @aiE (And.intro @ah4 (And.intro @PG (And.intro @aiy (And.intro @aiT (And.intro @apy (And.intro @agl (And.intro @ahq (And.intro @akj (And.intro @anS (And.intro @aho (And.intro @ahe (And.intro @afp (And.intro @al9 (And.intro @aj7 (And.intro @aiF (And.intro @apd (And.intro @apE (And.intro @ajD (And.intro @anH (And.intro @aoQ (And.intro @ajI (And.intro @aeD (And.intro @ao7 (And.intro @abc (And.intro @ae3 (And.intro @agu (And.intro @akK (And.intro @SJ (And.intro @apx (And.intro @ahd (And.intro @aoX (And.intro @amY (And.intro @ajE (And.intro @apv (And.intro @YS (And.intro @ajh (And.intro @adK (And.intro @ano (And.intro @aif (And.intro @aiY (And.intro @aiS (And.intro @am6 @agT))))))))))))))))))))))))))))))))))))))))))))))))))))))))))))))))))))))))):=And.intro @adz (And.intro @afA (And.intro @aoS (And.intro @aeE (And.intro @ajc (And.intro @aep (And.intro @aeh (And.intro @ana (And.intro @agJ (And.intro @adR (And.intro @adJ (And.intro @ag6 (And.intro @aeQ (And.intro @ahO (And.intro @anV (And.intro @afO (And.intro @ao0 (And.intro @amw (And.intro @aic (And.intro @ako (And.intro @aeu (And.intro @am9 (And.intro @aij (And.intro @aff (And.intro @aj5 (And.intro @aik (And.intro @anO (And.intro @aoJ (And.intro @Ry (And.intro @QW (And.intro @aiE (And.intro @ah4 (And.intro @PG (And.intro @aiy (And.intro @aiT (And.intro @apy (And.intro @agl (And.intro @ahq (And.intro @akj (And.intro @anS (And.intro @aho (And.intro @ahe (And.intro @afp (And.intro @al9 (And.intro @aj7 (And.intro @aiF (And.intro @apd (And.intro @apE (And.intro @ajD (And.intro @anH (And.intro @aoQ (And.intro @ajI (And.intro @aeD (And.intro @ao7 (And.intro @abc (And.intro @ae3 (And.intro @agu (And.intro @akK (And.intro @SJ (And.intro @apx (And.intro @ahd (And.intro @aoX (And.intro @amY (And.intro @ajE (And.intro @apv (And.intro @YS (And.intro @ajh (And.intro @adK (And.intro @ano (And.intro @aif (And.intro @aiY (And.intro @aiS (And.intro @am6 @agT))))))))))))))))))))))))))))))))))))))))))))))))))))))))))))))))))))))))
theorem ar:type_of% (And.intro @aoc (And.intro @ahL (And.intro @eh (And.intro @bT (And.intro @RJ (And.intro @PL (And.intro @BC (And.intro @xz (And.intro @Ou (And.intro @anb (And.intro @R1 (And.intro @gJ (And.intro @iw (And.intro @MB (And.intro @pz (And.intro @yW @Ai)))))))))))))))):=And.intro @aoc (And.intro @ahL (And.intro @eh (And.intro @bT (And.intro @RJ (And.intro @PL (And.intro @BC (And.intro @xz (And.intro @Ou (And.intro @anb (And.intro @R1 (And.intro @gJ (And.intro @iw (And.intro @MB (And.intro @pz (And.intro @yW @Ai)))))))))))))))
theorem ag:type_of% (And.intro @iS (And.intro @J5 (And.intro @ZR (And.intro @anD (And.intro @afj (And.intro @aos (And.intro @afo (And.intro @ac4 (And.intro @amz (And.intro @an0 (And.intro @alI (And.intro @aoM (And.intro @akM @bT))))))))))))):=And.intro @iS (And.intro @J5 (And.intro @ZR (And.intro @anD (And.intro @afj (And.intro @aos (And.intro @afo (And.intro @ac4 (And.intro @amz (And.intro @an0 (And.intro @alI (And.intro @aoM (And.intro @akM @bT))))))))))))
theorem aj:(∀(a:AV) (l:List AV),(a::l)[0]?=some a)/\(∀(a:AV) (l:List AV) (i:Nat),(a::l)[i+1]?=l[i]?)/\(∀n:Nat,0+n=n)/\((!true)=false)/\((!false)=true)/\(∀h:Decidable True,@decide True h=true)/\(∀h:Decidable False,@decide False h=false)/\(∀a:Int,(a==a)=true)/\(∀a:List Nat,(a==a)=true)/\(∀a:Int,(a != a)=false)/\(∀a:List Nat,(a != a)=false)/\(∀a b:Int,(a ≥ b)=(b<=a))/\(∀a b:Int,(a>b)=(b<a)):=
 ⟨λ_ _=>rfl,λ_ _ _=>rfl,ade,rfl,rfl,λ_=>zz3 trivial,λ_=>zz4 id,λ_=>beq_self_eq_true _,λ_=>beq_self_eq_true _,λ_=>bne_self_eq_false _,λ_=>bne_self_eq_false _,λ_ _=>rfl,λ_ _=>rfl⟩
theorem zz0:type_of%(And.intro @ai @aj):=⟨@ai,@aj⟩
theorem aq:(∀(f:List AV->AV) (l:List AV),Option.map f (some l)=some (f l))/\(∀l:List AV,l.drop 0=l)/\(∀(n:Nat) (a:AV) (l:List AV),(a::l).take (n+1)=a::l.take n)/\(∀l:List AV,l.take 0=[])/\(∀(n:Nat) (a:AV) (l:List AV),(a::l).drop (n+1)=l.drop n)/\(∀(a b:AV) (l:List AV),(a::l).set 0 b=b::l)/\(∀(n:Nat) (a b:AV) (l:List AV),(a::l).set (n+1) b=a::l.set n b)/\(∀l:List AV,[]++l=l)/\(∀(a:AV) (l m:List AV),a::l++m=a::(l++m))/\(∀l:List AV,l++[]=l)/\(∀n:Nat,n+0=n):=
 ⟨λ_ _=>rfl,λ_=>rfl,λ_ _ _=>rfl,λ_=>rfl,λ_ _ _=>rfl,λ_ _ _=>rfl,λ_ _ _ _=>rfl,λ_=>rfl,λ_ _ _=>rfl,acQ,λ_=>rfl⟩
theorem af:(∀(H:Hp) (l:List AV) (el fl:Nat),(al H l el fl).next=H.next+1)/\(∀(a:AV) (l:List AV),(a::l).length=l.length+1)/\(([]:List AV).length=0)/\(∀(p:AV->Bool) (a:AV) (l:List AV),(a::l).all p=(p a&&l.all p))/\(∀p:AV->Bool,([]:List AV).all p=true)/\(∀b:Bool,(b&&true)=b)/\(∀b:Bool,(true&&b)=b)/\(∀b:Bool,(b&&b)=b)/\(∀n:Nat,0+n=n)/\(∀n:Nat,(n<=n)=True):=
 ⟨λ_ _ _ _=>rfl,λ_ _=>rfl,rfl,λ_ _ _=>rfl,λ_=>rfl,Bool.and_true,acy,Bool.and_self,ade,λn=>eq_true (aaO n)⟩
end
end K
end Go.Proofs.YtodfajmihkagnaaGreatDoor.Am
