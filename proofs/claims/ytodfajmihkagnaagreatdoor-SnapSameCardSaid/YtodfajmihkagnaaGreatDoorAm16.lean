/- Laws that the proof uses. -/
import Derived.Test.YtodfajmihkagnaaGreatDoorAm15
set_option linter.unusedVariables false
set_option linter.unusedSimpArgs false
namespace Go.Proofs.YtodfajmihkagnaaGreatDoor.Am
namespace Tr
variable {α:Type}
theorem Kc:∀(p:Pa) (x y:Option α) (t:Tr α),mI p y (mI p x t)=mI p y t
 |.e,x,y,t=>rfl|.a p,x,y,t=>congrArg (λk=>Tr.node t.val k t.c1 t.c2 t.c3) (Kc p x y t.c0)|.b p,x,y,t=>congrArg (λk=>Tr.node t.val t.c0 k t.c2 t.c3) (Kc p x y t.c1)|.c p,x,y,t=>congrArg (λk=>Tr.node t.val t.c0 t.c1 k t.c3) (Kc p x y t.c2)|.d p,x,y,t=>congrArg (λk=>Tr.node t.val t.c0 t.c1 t.c2 k) (Kc p x y t.c3)
theorem NH:∀(p q:Pa) (x y:Option α) (t:Tr α),p≠q->mI p x (mI q y t)=mI q y (mI p x t)
 |.e,.e,x,y,t,h=>absurd rfl h|.a p,.a q,x,y,t,h=>congrArg (λk=>Tr.node t.val k t.c1 t.c2 t.c3) (NH p q x y t.c0 (λe=>h (by rw[e])))|.b p,.b q,x,y,t,h=>congrArg (λk=>Tr.node t.val t.c0 k t.c2 t.c3) (NH p q x y t.c1 (λe=>h (by rw[e])))|.c p,.c q,x,y,t,h=>congrArg (λk=>Tr.node t.val t.c0 t.c1 k t.c3) (NH p q x y t.c2 (λe=>h (by rw[e])))|.d p,.d q,x,y,t,h=>congrArg (λk=>Tr.node t.val t.c0 t.c1 t.c2 k) (NH p q x y t.c3 (λe=>h (by rw[e])))|.e,.a _,x,y,t,h=>rfl|.e,.b _,x,y,t,h=>rfl|.e,.c _,x,y,t,h=>rfl|.e,.d _,x,y,t,h=>rfl|.a _,.e,x,y,t,h=>rfl|.a _,.b _,x,y,t,h=>rfl|.a _,.c _,x,y,t,h=>rfl|.a _,.d _,x,y,t,h=>rfl|.b _,.e,x,y,t,h=>rfl|.b _,.a _,x,y,t,h=>rfl|.b _,.c _,x,y,t,h=>rfl|.b _,.d _,x,y,t,h=>rfl|.c _,.e,x,y,t,h=>rfl|.c _,.a _,x,y,t,h=>rfl|.c _,.b _,x,y,t,h=>rfl|.c _,.d _,x,y,t,h=>rfl|.d _,.e,x,y,t,h=>rfl|.d _,.a _,x,y,t,h=>rfl|.d _,.b _,x,y,t,h=>rfl|.d _,.c _,x,y,t,h=>rfl
theorem asJ {n m:Nat}(h:n≠m):pathOf n≠pathOf m:=by
 intro e;have h1:=gE (α:=Unit) .nil n m (some ());have h2:(mI (pathOf n) (some ()) (.nil:Tr Unit)).get m=some ():=by unfold get;rw[<-e];have:=gE (α:=Unit) .nil n n (some ());rw[zz2 rfl] at this;exact this
 rw[h2,zz1 (λq=>h q.symm)] at h1;have:(.nil:Tr Unit).get m=none:=Bn _;rw[this] at h1;cases h1
theorem akm:∀(l:List α) (t:Tr α) (n m:Nat) (v:α),m<n->(t.cz n l).bW m v=(t.bW m v).cz n l
 |[],t,n,m,v,h=>rfl|x::l,t,n,m,v,h=>by show ((t.put 34 n x).cz (n+1) l).bW m v=((t.bW m v).put 34 n x).cz (n+1) l;rw[akm l _ _ _ _ zzz];congr 1;exact NH _ _ _ _ _ (asJ zzz)
theorem agE:∀(l:List α) (t:Tr α) (n k:Nat) (v:α),k<l.length->(t.cz n l).bW (n+k) v=t.cz n (l.set k v)
 |[],t,n,k,v,h=>by simp at h
 |x::l,t,n,0,v,h=>by show ((t.put 34 n x).cz (n+1) l).bW (n+0) v=(t.put 34 n v).cz (n+1) l;rw[akm l _ _ _ _ zzz];congr 1;exact Kc _ _ _ _
 |x::l,t,n,k+1,v,h=>by show ((t.put 34 n x).cz (n+1) l).bW (n+(k+1)) v=(t.put 34 n x).cz (n+1) (l.set k v);rw[show n+(k+1)=n+1+k by omega];exact agE l _ _ _ _ (by simpa using h)
end Tr
namespace K
def al (H:Hp)(l:List AV)(el fl:Nat):Hp:=⟨H.h.put 34 H.next (.cells (Tr.cz .nil 0 l) 0 l.length el fl),H.next+1⟩
theorem eA {H:Hp}{l:List AV}{el fl:Nat}(h:l.length<=16777216):aA H l el fl=some (H.next,al H l el fl):=by unfold aA alloc;have:Nat.ble l.length 16777216=true:=aeF.mpr h;rw[this];rfl
theorem bS (H:Hp)(l:List AV)(el fl:Nat):(al H l el fl).next=H.next+1:=abk rfl (id rfl)
theorem Jo (H:Hp)(l:List AV)(el fl i:Nat):(al H l el fl).h.get i=if i=H.next then some (.cells (Tr.cz .nil 0 l) 0 l.length el fl) else H.h.get i:=Tr.gE _ _ _ _
theorem aP (H:Hp)(l:List AV)(el fl:Nat):Cs (al H l el fl) H.next l el fl:=by refine⟨ahL _,Tr.cz .nil 0 l,by rw[Jo,zz2 rfl],λk v hk=>?_⟩;have:=(aac.1 hk).1;rw[Dc,zz2 zzz];exact hk
theorem aD (H:Hp)(l:List AV)(el fl:Nat):Out [] H (al H l el fl):=⟨agD _,λj hj _=>by rw[Jo,zz1 zzz]⟩
theorem Out.al {S:List Nat}{H H':Hp}(h:Out S H H')(l:List AV)(el fl:Nat):Out S H (al H' l el fl):=h.then (aD H' l el fl) λj hj=>by cases hj
section
variable {H H':Hp}{L:List (List AV)}{S:List Nat}{el el2 es i m o:Nat}{l vs z:List AV}{x:AV}
theorem YJ (h:H'.h.get i=H.h.get i):cellAt H' i o=cellAt H i o:=by unfold cellAt;rw[h]
theorem V0 {H H':Hp}{i:Nat}(h:H'.h.get i=H.h.get i):∀(n o:Nat),av H' i o n=av H i o n
 |0,o=>rfl|n+1,o=>by unfold av;rw[YJ h,V0 h n]
theorem Bw {H:Hp}{l:List AV}{el fl i o:Nat}(h:i=H.next):cellAt (al H l el fl) i o=l[o]?:=by
 subst h;cases hv:l[o]? with
 |some v=>exact (aP H l el fl).cellAt hv|none=>
  unfold cellAt;rw[Jo,zz2 rfl];have:=List.getElem?_eq_none_iff.1 hv;have hb:(Nat.ble 0 o&&Nat.blt o l.length)=false:=by rw[Bool.and_eq_false_iff];right;rw[<-ahP,aeg];omega
  simp only[hb,cond_false]
theorem xE {H:Hp}{l:List AV}{el fl i o:Nat}(h:i<H.next):cellAt (al H l el fl) i o=cellAt H i o:=YJ (by rw[Jo,zz1 zzz])
theorem Oc {H:Hp}{l:List AV}{el fl i o n:Nat}(h:i=H.next)(hn:o+n<=l.length):av (al H l el fl) i o n=some ((l.drop o).take n):=by subst h;exact (aP H l el fl).av n o hn
theorem amp {H:Hp}{l:List AV}{el fl i o n:Nat}(h:i<H.next):av (al H l el fl) i o n=av H i o n:=V0 (by rw[Jo,zz1 zzz]) _ _
theorem Out.cellAt {S:List Nat}{H H':Hp}(h:Out S H H'){i o:Nat}(hi:i<H.next)(hs:i∉S):cellAt H' i o=Am.cellAt H i o:=YJ (h.2 i hi hs)
theorem Out.av {S:List Nat}{H H':Hp}(h:Out S H H'){i o n:Nat}(hi:i<H.next)(hs:i∉S):av H' i o n=Am.av H i o n:=V0 (h.2 i hi hs) _ _
theorem Rf (i o:Nat)(H:Hp):ld (.ptr i o) H=cellAt H i o:=abk rfl (id rfl)
theorem Pt (n i o:Nat)(H:Hp):aB n (.ptr i o) H=(av H i o n).map .agg:=abk rfl (id rfl)
def kN (l:List AV)(o:Nat):List AV->List AV
 |[]=>l|v::vs=>kN (l.set o v) (o+1) vs
theorem Oi:∀(vs l:List AV) (o:Nat),(kN l o vs).length=l.length
 |[],l,o=>rfl|v::vs,l,o=>by rw[kN,Oi vs,adi]
theorem FC:∀(vs l:List AV) (o k:Nat),o+vs.length<=l.length->(kN l o vs)[k]?=if o<=k/\k<o+vs.length then vs[k-o]? else l[k]?
 |[],l,o,k,h=>by rw[zz1 (by simp only[acj];omega)];rfl
 |v::vs,l,o,k,h=>by
  simp only[aau] at h⊢;rw[kN,FC vs _ _ _ (by rw[adi];omega)];by_cases h1:o+1<=k/\k<o+1+vs.length;·rw[zz2 h1,zz2 zzz,show k-o=(k-(o+1))+1 by omega,adb]
  ·rw[zz1 h1];by_cases h2:k=o;·subst h2;rw[zz2 zzz,ajA,ae0 zzz];rfl
   ·rw[zz1 zzz,aji (λq=>h2 q.symm)]
theorem aiB (vs l:List AV)(h:vs.length=l.length):kN l 0 vs=vs:=by
 apply aj8;intro k;rw[FC vs l 0 k zzz];split;·rw[agN]
 ·rename_i hn;rw[agM zzz,agM zzz]
theorem aDe {fl:Nat}{v:AV}(h:i=H.next)(hf:fl<=1)(ho:o<l.length)(hv:aW v=true):setCell (al H l el fl) i o v=some (al H (l.set o v) el fl):=by
 subst h;have hs:((Tr.cz .nil 0 l).get o).isSome=true:=by rw[Dc,zz2 zzz];simp[ho]
 have hb:(Nat.ble 0 o&&Nat.blt o l.length&&Nat.ble fl 1&&((Tr.cz .nil 0 l).get o).isSome&&aW v)=true:=by simp only[aam,aeF,aeg];exact⟨⟨⟨⟨zzz,ho⟩,hf⟩,hs⟩,hv⟩
 unfold setCell;rw[Jo,zz2 rfl];simp only[hb,cond_true];have e1:(Tr.cz .nil 0 l).bW o v=Tr.cz .nil 0 (l.set o v):=by have:=Tr.agE l .nil 0 o v ho;rw[adn] at this;exact this
 rw[e1];unfold al;congr 2;rw[adi];exact Tr.Kc _ _ _ _
theorem aav {H:Hp}{el fl i:Nat}(h:i=H.next)(hf:fl<=1):∀(vs l:List AV) (o:Nat),o+vs.length<=l.length->(∀v∈vs,aW v=true)->setCells (al H l el fl) i o vs=some (al H (kN l o vs) el fl)
 |[],l,o,_,_=>rfl|v::vs,l,o,hl,hv=>by simp only[aau] at hl;unfold setCells;rw[aDe h hf zzz (hv v (.head _))];exact aav h hf vs _ _ (by rw[adi];omega) λu hu=>hv u (.tail _ hu)
theorem PI {v:AV}(h:aW v=true):uE v=some [v]:=by cases v<;>first|rfl|cases h
theorem HA (l:List AV):uE (.agg l)=some l:=abk rfl (id rfl)
theorem Rx {H:Hp}{l:List AV}{el fl i o:Nat}{v:AV}(hv:aW v=true)(h:i=H.next)(hf:fl<=1)(ho:o<l.length):st 1 (.ptr i o) v (al H l el fl)=some (al H (l.set o v) el fl):=by unfold st;simp only[PI hv];show setCells _ i o [v]=_;exact aav h hf [v] l o (by simp only[aau,acj];omega) λu hu=>by rw[No] at hu;subst hu;exact hv
theorem gy {H:Hp}{l vs:List AV}{n el fl i:Nat}(hv:vs.all aW=true)(hn:n=vs.length)(h:i=H.next)(hf:fl<=1)(hl:l.length=vs.length):st n (.ptr i 0) (.agg vs) (al H l el fl)=some (al H vs el fl):=by
 unfold st;have:Nat.beq n vs.length=true:=by subst hn;exact aiw _
 simp only[HA,this,cond_true];rw[aav h hf vs l 0 zzz (adP.1 hv),aiB vs l hl.symm]
theorem iz {H:Hp}{el:Nat}{l:List AV}(h:l.length<=16777216):bx el (.agg l) H=some (H.next,al H l el 0):=by unfold bx;simp only[HA];exact eA h
theorem Ms {H:Hp}{el:Nat}{v:AV}(hv:aW v=true):bx el v H=some (H.next,al H [v] el 0):=by unfold bx;simp only[PI hv];exact eA zzy
theorem yW {z:List AV}{off:Nat}{v:AV}{r:List (Nat×Nat×AV)}(hv:aW v=true)(h:off+1<=z.length):fl z ((off,1,v)::r)=fl (z.set off v) r:=by
 have e:z.take off++[v]++z.drop (off+1)=z.set off v:=by rw[List.set_eq_take_append_cons_drop,zz2 zzz];simp
 show (match uE v with|some cs=>if cs.length=1/\off+1<=z.length then fl (z.take off++cs++z.drop (off+1)) r else none|none=>none)=_;rw[PI hv];simp only;rw[zz2 ⟨rfl,h⟩,e]
theorem z8 {z:List AV}{off n:Nat}{l:List AV}{r:List (Nat×Nat×AV)}(hn:l.length=n)(h:off+n<=z.length):fl z ((off,n,.agg l)::r)=fl (z.take off++l++z.drop (off+n)) r:=by show (match uE (.agg l) with|some cs=>if cs.length=n/\off+n<=z.length then fl (z.take off++cs++z.drop (off+n)) r else none|none=>none)=_;rw[HA];simp only;rw[zz2 ⟨hn,h⟩]
theorem Rw.one (h:Rw H es x l):aW x=true:=by cases h<;>rfl
theorem Ow.lg (h:Ow H el es x l):aW x=true:=h.rw.one
theorem wL {s:AV}(h:Ow H el es s l)(hv:vs.all aW=true)(hn:vs.length=es)(dY:0<es)(hlen:l.length+vs.length<=16777216):
  ∃s' H',(∀i,i=H.next->c8 el es z false s (.slice i 0 1 1 true es) (al H vs el2 0)=some (s',H'))/\Ow H' el es s' (l++vs)/\Out (ak s) H H'/\(∀j∈ak s',j∈ak s\/H.next<=j)/\aW s'=true:=by
 have c:=aP H vs el2 0;have hr:Rw (al H vs el2 0) es (.slice H.next 0 1 1 true es) vs:=.mk c.ro (by rw[hn,ajR]) (aaq _) rfl;have ho:Ow (al H vs el2 0) el es s l:=h.out (aD H vs el2 0) λj hj=>zzy;obtain⟨s',H',h1,h2,h3,h4⟩:=aon (z:=z) ho hr (adP.1 hv) dY hlen;refine⟨s',H',λi hi=>by subst hi;exact h1,h2,((aD H vs el2 0).mono (S':=ak s) (λj hj=>by cases hj)).then h3 (λj hj=>.inl hj),λj hj=>(h4 j hj).imp id λq=>by rw[bS] at q;omega,h2.lg⟩
theorem ahF {s:List Nat}(k:IntKind)(h:m<=s.length):qM (.str s) none (some (.int k m))=some (.str (s.take m)):=by unfold qM;simp only[Ea (abg m) h (aaq _) (Bd.no 0) (Bd.yes k m _),ael,aaM,agN]
theorem afM {s:List Nat}(k:IntKind)(h:m<=s.length):qM (.str s) (some (.int k m)) none=some (.str (s.drop m)):=by unfold qM;simp only[Ea h (aaq _) (aaq _) (Bd.yes k m 0) (Bd.no _),ael];rw[ae2 (by rw[aeG];omega)]
theorem ak6 {s:List Nat}{a b:Nat}(k j:IntKind)(Az:a<=b)(h:b<=s.length):qM (.str s) (some (.int k a)) (some (.int j b))=some (.str ((s.drop a).take (b-a))):=by unfold qM;simp only[Ea Az h (aaq _) (Bd.yes k a 0) (Bd.yes j b _),ael]
theorem aFt {s:List Nat}{b:Nat}(k:IntKind)(h:s[i]?=some b):z7 (.str s) (.int k i)=some (.int .u8 b):=by unfold z7;simp only;rw[zz2 zzz,abO,h];rfl
theorem aem {s:List Nat}{b:Nat}(k:IntKind)(h:s[0]?=some b):z7 (.str s) (.int k 0)=some (.int .u8 b):=aFt (i:=0) k h
theorem Rw.ia {H:Hp}{es n:Nat}{x:AV}{l:List AV}(h:Rw H es x l)(hl:l.length=n*es)(dY:0<es){i:Nat}(hi:i<n):∃b o,(∀k,ia es x (.int k i)=some (.ptr b o))/\b∈ak x/\b<H.next/\
  (∀k v,l[i*es+k]?=some v->k<es->cellAt H b (o+k)=some v)/\av H b o es=some ((l.drop (i*es)).take es):=by
 cases h with
 |nil=>
  simp only[acj] at hl;rcases Nat.mul_eq_zero.1 hl.symm with q|q<;>omega
 |emp=>
  simp only[acj] at hl;rcases Nat.mul_eq_zero.1 hl.symm with q|q<;>omega
 |@mk j off m cap ex l hr hn hc he=>
  have hm:m=n:=Nat.eq_of_mul_eq_mul_right dY (hn.symm.trans hl);subst hm;have hle:(i+1)*es<=m*es:=adS _ hi;rw[afB,ajR] at hle;refine⟨j,off+i*es,λk=>DL hi,by rw[pH he];exact .head _,hr.1,λk v hk _=>?_,?_⟩;·rw[ak3];exact hr.cellAt hk
  ·have h1:=((hr.drop (i*es) zzz).take es).av;rw[ad9,aeG,amM zzz] at h1;exact h1
def RL (H:Hp)(es:Nat)(x:AV)(L:List (List AV)):Prop:=Rw H es x L.flatten/\∀c∈L,c.length=es
def OL (H:Hp)(el es:Nat)(x:AV)(L:List (List AV)):Prop:=Ow H el es x L.flatten/\∀c∈L,c.length=es
theorem CY {es:Nat}:∀{L:List (List AV)},(∀c∈L,c.length=es)->L.flatten.length=L.length*es
 |[],_=>zzy|c::L,h=>by rw[agF,aah,h c (.head _),CY λd hd=>h d (.tail _ hd),aau,afB];omega
theorem amQ {es:Nat}:∀{L:List (List AV)} {i:Nat} {c:List AV},(∀c∈L,c.length=es)->L[i]?=some c->(L.flatten.drop (i*es)).take es=c
 |[],i,c,_,h=>by simp at h
 |a::L,0,c,hl,h=>by simp only[adp,acM] at h;subst h;have:=hl a (.head _);rw[ahD,aaM,agF,List.take_append_of_le_length zzz,ae2 zzz]
 |a::L,i+1,c,hl,h=>by simp only[adb] at h;have ha:=hl a (.head _);rw[agF,afB,ajR,List.drop_append,aiA zzz,afV,ha,Nat.add_sub_cancel];exact amQ (λd hd=>hl d (.tail _ hd)) h
theorem OL.rl (h:OL H el es x L):RL H es x L:=⟨h.1.rw,h.2⟩
theorem RL.out (h:RL H es x L)(k:Out S H H')(hi:∀j∈ak x,j∉S):RL H' es x L:=⟨h.1.out k hi,h.2⟩
theorem RL.au (h:RL H es x L)(k:Out [] H H'):RL H' es x L:=h.out k λ_ _ q=>by cases q
theorem Rw.au (h:Rw H es x l)(k:Out [] H H'):Rw H' es x l:=h.out k λ_ _ q=>by cases q
theorem OL.out (h:OL H el es x L)(k:Out S H H')(hi:∀j∈ak x,j∉S):OL H' el es x L:=⟨h.1.out k hi,h.2⟩
theorem RL.one (h:RL H es x L):aW x=true:=h.1.one
theorem RL.len (h:RL H es x L)(dY:0<es):aG x=some (.int .i64 (L.length:Nat)):=by obtain⟨n,h1,h2⟩:=h.1.len;rw[CY h.2] at h2;rw[h1,Nat.eq_of_mul_eq_mul_right dY h2]
theorem RL.at {H:Hp}{es:Nat}{x:AV}{L:List (List AV)}(h:RL H es x L)(dY:0<es){i:Nat}{c:List AV}(hi:L[i]?=some c):∃b o,(∀k,ia es x (.int k i)=some (.ptr b o))/\b∈ak x/\b<H.next/\av H b o es=some c/\∀k v,c[k]?=some v->cellAt H b (o+k)=some v:=by
 have aX:=(aac.1 hi).1;obtain⟨b,o,h1,h2,h3,h4,h5⟩:=h.1.ia (CY h.2) dY aX;have hf:=amQ h.2 hi;rw[hf] at h5;refine⟨b,o,h1,h2,h3,h5,λk v hv=>?_⟩;have hk:k<es:=by have:=(aac.1 hv).1;rw[h.2 c (aab hi)] at this;exact this
 refine h4 k v ?_ hk;rw[<-hf,ajg,zz2 hk,afX] at hv;exact hv
theorem OL.nil (H:Hp)(el es:Nat):OL H el es .ah []:=⟨.nil,λc hc=>by cases hc⟩
theorem RL.nil (H:Hp)(es:Nat):RL H es .ah []:=⟨.nil,λc hc=>by cases hc⟩
theorem OL.push {s:AV}(h:OL H el es s L)(hv:vs.all aW=true)(hn:vs.length=es)(dY:0<es)(hlen:(L.length+1)*es<=16777216):
  ∃s' H',(∀i,i=H.next->c8 el es z false s (.slice i 0 1 1 true es) (al H vs el2 0)=some (s',H'))/\OL H' el es s' (L++[vs])/\Out (ak s) H H'/\(∀j∈ak s',j∈ak s\/H.next<=j)/\aW s'=true:=by
 obtain⟨s',H',h1,h2,h3⟩:=wL (el2:=el2) (z:=z) h.1 hv hn dY (by rw[CY h.2,hn];rw[afB,ajR] at hlen;exact hlen);refine⟨s',H',h1,⟨by rw[List.flatten_append];simpa using h2,λc hc=>?_⟩,h3⟩;rcases aaQ.1 hc with hc|hc;·exact h.2 c hc
 ·rw[No] at hc;subst hc;exact hn
theorem OL.one (h:OL H el es x L):∀c∈L,c.all aW=true:=λc hc=>by rw[adP];intro v hv;exact h.1.one v (ah8.2 ⟨c,hc,hv⟩)
theorem dU {α:Type}{l r:List α}{a:α}(h:l.drop i=a::r):i<l.length/\l[i]?=some a/\l.drop (i+1)=r:=by
 have h1:i<l.length:=by have:=congrArg List.length h;rw[aeG,aau] at this;omega
 refine⟨h1,?_,?_⟩;·have:=afX (xs:=l) (i:=i) (j:=0);rw[h,aeA] at this;rw[<-this];rfl
 ·have:=List.drop_drop (l:=l) (i:=1) (j:=i);rw[h] at this;rw[<-this];rfl
theorem Out.nx (h:Out S H H'):H.next<=H'.next:=h.1
theorem JK (hx:Rw H es x l)(ho:∀v∈l,aW v=true)(dY:0<es)(hlen:l.length<=16777216):
  ∃s' H',c8 el es z false (.slice H.next 0 0 0 true es) x (al H [] el2 0)=some (s',H')/\Ow H' el es s' l/\Out [] H H'/\(∀j∈ak s',H.next<=j):=by
 have ha:=aD H [] el2 0;obtain⟨s',H',h1,h2,h3,h4⟩:=aon (z:=z) (Ow.emp (H:=al H [] el2 0) (el:=el) (es:=es) (i:=H.next) (off:=0)) (hx.au ha) ho dY (by simpa using hlen);refine⟨s',H',h1,by simpa using h2,ha.then h3 (λj hj=>by cases hj),λj hj=>?_⟩;rcases h4 j hj with q|q;·cases q
 ·rw[bS] at q;omega
theorem acL {n s off z:Nat}(k:IntKind)(h:z<n):qA n s (.ptr i off) (.int k z)=some (.ptr i (off+z*s)):=by unfold qA;simp only;rw[zz2 zzz,abO]
theorem anl {n s i off:Nat}(k:IntKind)(h:0<n):qA n s (.ptr i off) (.int k 0)=some (.ptr i off):=by have:=acL (s:=s) (i:=i) (off:=off) k h;rw[ahD] at this;exact this
theorem agY {n i off:Nat}(k:IntKind)(h:1<n):qA n 1 (.ptr i off) (.int k 1)=some (.ptr i (off+1)):=by have:=acL (s:=1) (i:=i) (off:=off) k h;exact this
theorem iV (k:IntKind)(n:Int):aW (.int k n)=true:=abk rfl (id rfl)
theorem JX (s:List Nat):aW (.str s)=true:=abk rfl (id rfl)
theorem Y0 (b:Bool):aW (.bool b)=true:=abk rfl (id rfl)
theorem amO (i o:Nat):aW (.ptr i o)=true:=abk rfl (id rfl)
theorem aev:aW .dE=true:=abk rfl (id rfl)
theorem anB (i o n c:Nat)(x:Bool)(es:Nat):aW (.slice i o n c x es)=true:=abk rfl (id rfl)
theorem aeB:aW .ah=true:=abk rfl (id rfl)
theorem ab4 (i:Nat):aW (.map i)=true:=abk rfl (id rfl)
theorem alP:aW .lz=true:=abk rfl (id rfl)
theorem am9 (f:Go.Fn)(a b:List AV):aW (.func f a b)=true:=abk rfl (id rfl)
theorem akT:aW .nilFunc=true:=abk rfl (id rfl)
theorem an0:aW .nilIface=true:=abk rfl (id rfl)
theorem ajY (t:TypeId)(v:AV):aW (.iface t v)=true:=abk rfl (id rfl)
theorem ai:type_of% (And.intro @acE (And.intro @aeL (And.intro @an6 (And.intro @adR (And.intro @ain (And.intro @adB (And.intro @adr (And.intro @amo (And.intro @afT (And.intro @acX (And.intro @acP (And.intro @agk (And.intro @ad4 (And.intro @ag1 (And.intro @am3 (And.intro @ae1 (And.intro @aof (And.intro @alL (And.intro @ahn (And.intro @ajB (And.intro @adG (And.intro @amn (And.intro @aht (And.intro @aer (And.intro @ajh (And.intro @ahv (And.intro @amX (And.intro @anX (And.intro @agt (And.intro @af3 (And.intro @ahN (And.intro @ahf (And.intro @acT (And.intro @ahI (And.intro @ah1 (And.intro @aoL (And.intro @afv (And.intro @agC (And.intro @ajx (And.intro @am0 (And.intro @agA (And.intro @agr (And.intro @aeC (And.intro @alk (And.intro @ajk (And.intro @ahO (And.intro @aot (And.intro @aoR (And.intro @aiS (And.intro @amR (And.intro @an4 (And.intro @aiX (And.intro @adQ (And.intro @aol (And.intro @alU (And.intro @aeh (And.intro @afE (And.intro @ajV (And.intro @Si (And.intro @aoK (And.intro @agq (And.intro @aoc (And.intro @amd (And.intro @aiT (And.intro @aoI (And.intro @aiI (And.intro @ais (And.intro @acQ (And.intro @amB (And.intro @ahq (And.intro @ah5 (And.intro @ah0 (And.intro @amk @af4))))))))))))))))))))))))))))))))))))))))))))))))))))))))))))))))))))))))):=And.intro @acE (And.intro @aeL (And.intro @an6 (And.intro @adR (And.intro @ain (And.intro @adB (And.intro @adr (And.intro @amo (And.intro @afT (And.intro @acX (And.intro @acP (And.intro @agk (And.intro @ad4 (And.intro @ag1 (And.intro @am3 (And.intro @ae1 (And.intro @aof (And.intro @alL (And.intro @ahn (And.intro @ajB (And.intro @adG (And.intro @amn (And.intro @aht (And.intro @aer (And.intro @ajh (And.intro @ahv (And.intro @amX (And.intro @anX (And.intro @agt (And.intro @af3 (And.intro @ahN (And.intro @ahf (And.intro @acT (And.intro @ahI (And.intro @ah1 (And.intro @aoL (And.intro @afv (And.intro @agC (And.intro @ajx (And.intro @am0 (And.intro @agA (And.intro @agr (And.intro @aeC (And.intro @alk (And.intro @ajk (And.intro @ahO (And.intro @aot (And.intro @aoR (And.intro @aiS (And.intro @amR (And.intro @an4 (And.intro @aiX (And.intro @adQ (And.intro @aol (And.intro @alU (And.intro @aeh (And.intro @afE (And.intro @ajV (And.intro @Si (And.intro @aoK (And.intro @agq (And.intro @aoc (And.intro @amd (And.intro @aiT (And.intro @aoI (And.intro @aiI (And.intro @ais (And.intro @acQ (And.intro @amB (And.intro @ahq (And.intro @ah5 (And.intro @ah0 (And.intro @amk @af4))))))))))))))))))))))))))))))))))))))))))))))))))))))))))))))))))))))))
theorem ar:type_of% (And.intro @anl (And.intro @agY (And.intro @eA (And.intro @bS (And.intro @Rf (And.intro @Pt (And.intro @Bw (And.intro @xE (And.intro @Oc (And.intro @amp (And.intro @Rx (And.intro @gy (And.intro @iz (And.intro @Ms (And.intro @pW (And.intro @yW @z8)))))))))))))))):=And.intro @anl (And.intro @agY (And.intro @eA (And.intro @bS (And.intro @Rf (And.intro @Pt (And.intro @Bw (And.intro @xE (And.intro @Oc (And.intro @amp (And.intro @Rx (And.intro @gy (And.intro @iz (And.intro @Ms (And.intro @pW (And.intro @yW @z8)))))))))))))))
theorem ag:type_of% (And.intro @iV (And.intro @JX (And.intro @Y0 (And.intro @amO (And.intro @aev (And.intro @anB (And.intro @aeB (And.intro @ab4 (And.intro @alP (And.intro @am9 (And.intro @akT (And.intro @an0 (And.intro @ajY @bS))))))))))))):=And.intro @iV (And.intro @JX (And.intro @Y0 (And.intro @amO (And.intro @aev (And.intro @anB (And.intro @aeB (And.intro @ab4 (And.intro @alP (And.intro @am9 (And.intro @akT (And.intro @an0 (And.intro @ajY @bS))))))))))))
theorem aj:(∀(a:AV) (l:List AV),(a::l)[0]?=some a)/\(∀(a:AV) (l:List AV) (i:Nat),(a::l)[i+1]?=l[i]?)/\(∀n:Nat,0+n=n)/\((!true)=false)/\((!false)=true)/\(∀h:Decidable True,@decide True h=true)/\(∀h:Decidable False,@decide False h=false)/\(∀a:Int,(a==a)=true)/\(∀a:List Nat,(a==a)=true)/\(∀a:Int,(a != a)=false)/\(∀a:List Nat,(a != a)=false)/\(∀a b:Int,(a ≥ b)=(b<=a))/\(∀a b:Int,(a>b)=(b<a)):=
 ⟨λ_ _=>rfl,λ_ _ _=>rfl,adn,rfl,rfl,λ_=>zz3 trivial,λ_=>zz4 id,λ_=>beq_self_eq_true _,λ_=>beq_self_eq_true _,λ_=>bne_self_eq_false _,λ_=>bne_self_eq_false _,λ_ _=>rfl,λ_ _=>rfl⟩
theorem zz0:type_of%(And.intro @ai @aj):=⟨@ai,@aj⟩
theorem aq:(∀(f:List AV->AV) (l:List AV),Option.map f (some l)=some (f l))/\(∀l:List AV,l.drop 0=l)/\(∀(n:Nat) (a:AV) (l:List AV),(a::l).take (n+1)=a::l.take n)/\(∀l:List AV,l.take 0=[])/\(∀(n:Nat) (a:AV) (l:List AV),(a::l).drop (n+1)=l.drop n)/\(∀(a b:AV) (l:List AV),(a::l).set 0 b=b::l)/\(∀(n:Nat) (a b:AV) (l:List AV),(a::l).set (n+1) b=a::l.set n b)/\(∀l:List AV,[]++l=l)/\(∀(a:AV) (l m:List AV),a::l++m=a::(l++m))/\(∀l:List AV,l++[]=l)/\(∀n:Nat,n+0=n):=
 ⟨λ_ _=>rfl,λ_=>rfl,λ_ _ _=>rfl,λ_=>rfl,λ_ _ _=>rfl,λ_ _ _=>rfl,λ_ _ _ _=>rfl,λ_=>rfl,λ_ _ _=>rfl,ac4,λ_=>rfl⟩
theorem af:(∀(H:Hp) (l:List AV) (el fl:Nat),(al H l el fl).next=H.next+1)/\(∀(a:AV) (l:List AV),(a::l).length=l.length+1)/\(([]:List AV).length=0)/\(∀(p:AV->Bool) (a:AV) (l:List AV),(a::l).all p=(p a&&l.all p))/\(∀p:AV->Bool,([]:List AV).all p=true)/\(∀b:Bool,(b&&true)=b)/\(∀b:Bool,(true&&b)=b)/\(∀b:Bool,(b&&b)=b)/\(∀n:Nat,0+n=n)/\(∀n:Nat,(n<=n)=True):=
 ⟨λ_ _ _ _=>rfl,λ_ _=>rfl,rfl,λ_ _ _=>rfl,λ_=>rfl,Bool.and_true,acy,Bool.and_self,adn,λn=>eq_true (aaq n)⟩
end
end K
end Go.Proofs.YtodfajmihkagnaaGreatDoor.Am
