/- Laws that the proof uses. -/
import Derived.Test.YtodfajmihkagnaaGreatDoorAm15
set_option linter.unusedVariables false
set_option linter.unusedSimpArgs false
namespace Go.Proofs.YtodfajmihkagnaaGreatDoor.Am
namespace Tr
variable {α:Type}
theorem Je:∀(p:Pa) (x y:Option α) (t:Tr α),mf p y (mf p x t)=mf p y t
 |.e,x,y,t=>rfl|.a p,x,y,t=>congrArg (λk=>Tr.node t.val k t.c1 t.c2 t.c3) (Je p x y t.c0)|.b p,x,y,t=>congrArg (λk=>Tr.node t.val t.c0 k t.c2 t.c3) (Je p x y t.c1)|.c p,x,y,t=>congrArg (λk=>Tr.node t.val t.c0 t.c1 k t.c3) (Je p x y t.c2)|.d p,x,y,t=>congrArg (λk=>Tr.node t.val t.c0 t.c1 t.c2 k) (Je p x y t.c3)
theorem Ms:∀(p q:Pa) (x y:Option α) (t:Tr α),p≠q->mf p x (mf q y t)=mf q y (mf p x t)
 |.e,.e,x,y,t,h=>absurd rfl h|.a p,.a q,x,y,t,h=>congrArg (λk=>Tr.node t.val k t.c1 t.c2 t.c3) (Ms p q x y t.c0 (λe=>h (by rw[e])))|.b p,.b q,x,y,t,h=>congrArg (λk=>Tr.node t.val t.c0 k t.c2 t.c3) (Ms p q x y t.c1 (λe=>h (by rw[e])))|.c p,.c q,x,y,t,h=>congrArg (λk=>Tr.node t.val t.c0 t.c1 k t.c3) (Ms p q x y t.c2 (λe=>h (by rw[e])))|.d p,.d q,x,y,t,h=>congrArg (λk=>Tr.node t.val t.c0 t.c1 t.c2 k) (Ms p q x y t.c3 (λe=>h (by rw[e])))|.e,.a _,x,y,t,h=>rfl|.e,.b _,x,y,t,h=>rfl|.e,.c _,x,y,t,h=>rfl|.e,.d _,x,y,t,h=>rfl|.a _,.e,x,y,t,h=>rfl|.a _,.b _,x,y,t,h=>rfl|.a _,.c _,x,y,t,h=>rfl|.a _,.d _,x,y,t,h=>rfl|.b _,.e,x,y,t,h=>rfl|.b _,.a _,x,y,t,h=>rfl|.b _,.c _,x,y,t,h=>rfl|.b _,.d _,x,y,t,h=>rfl|.c _,.e,x,y,t,h=>rfl|.c _,.a _,x,y,t,h=>rfl|.c _,.b _,x,y,t,h=>rfl|.c _,.d _,x,y,t,h=>rfl|.d _,.e,x,y,t,h=>rfl|.d _,.a _,x,y,t,h=>rfl|.d _,.b _,x,y,t,h=>rfl|.d _,.c _,x,y,t,h=>rfl
theorem aqr {n m:Nat}(h:n≠m):pathOf n≠pathOf m:=by
 intro e;have h1:=gw (α:=Unit) .nil n m (some ());have h2:(mf (pathOf n) (some ()) (.nil:Tr Unit)).get m=some ():=by unfold get;rw[<-e];have:=gw (α:=Unit) .nil n n (some ());rw[zz2 rfl] at this;exact this
 rw[h2,zz1 (λq=>h q.symm)] at h1;have:(.nil:Tr Unit).get m=none:=AK _;rw[this] at h1;cases h1
theorem air:∀(l:List α) (t:Tr α) (n m:Nat) (v:α),m<n->(t.bZ n l).cL m v=(t.cL m v).bZ n l
 |[],t,n,m,v,h=>rfl|x::l,t,n,m,v,h=>by show ((t.put 34 n x).bZ (n+1) l).cL m v=((t.cL m v).put 34 n x).bZ (n+1) l;rw[air l _ _ _ _ zzz];congr 1;exact Ms _ _ _ _ _ (aqr zzz)
theorem aeR:∀(l:List α) (t:Tr α) (n k:Nat) (v:α),k<l.length->(t.bZ n l).cL (n+k) v=t.bZ n (l.set k v)
 |[],t,n,k,v,h=>by simp at h
 |x::l,t,n,0,v,h=>by show ((t.put 34 n x).bZ (n+1) l).cL (n+0) v=(t.put 34 n v).bZ (n+1) l;rw[air l _ _ _ _ zzz];congr 1;exact Je _ _ _ _
 |x::l,t,n,k+1,v,h=>by show ((t.put 34 n x).bZ (n+1) l).cL (n+(k+1)) v=(t.put 34 n x).bZ (n+1) (l.set k v);rw[show n+(k+1)=n+1+k by omega];exact aeR l _ _ _ _ (by simpa using h)
end Tr
namespace K
def al (H:Hp)(l:List AV)(el fl:Nat):Hp:=⟨H.h.put 34 H.next (.cells (Tr.bZ .nil 0 l) 0 l.length el fl),H.next+1⟩
theorem eC {H:Hp}{l:List AV}{el fl:Nat}(h:l.length<=16777216):aA H l el fl=some (H.next,al H l el fl):=by unfold aA alloc;have:Nat.ble l.length 16777216=true:=af1.mpr h;rw[this];rfl
theorem bQ (H:Hp)(l:List AV)(el fl:Nat):(al H l el fl).next=H.next+1:=abG rfl (id rfl)
theorem Iu (H:Hp)(l:List AV)(el fl i:Nat):(al H l el fl).h.get i=if i=H.next then some (.cells (Tr.bZ .nil 0 l) 0 l.length el fl) else H.h.get i:=Tr.gw _ _ _ _
theorem aO (H:Hp)(l:List AV)(el fl:Nat):Cs (al H l el fl) H.next l el fl:=by refine⟨ai9 _,Tr.bZ .nil 0 l,by rw[Iu,zz2 rfl],λk v hk=>?_⟩;have:=(aak.1 hk).1;rw[Co,zz2 zzz];exact hk
theorem aD (H:Hp)(l:List AV)(el fl:Nat):Out [] H (al H l el fl):=⟨ahX _,λj hj _=>by rw[Iu,zz1 zzz]⟩
theorem Out.al {S:List Nat}{H H':Hp}(h:Out S H H')(l:List AV)(el fl:Nat):Out S H (al H' l el fl):=h.then (aD H' l el fl) λj hj=>by cases hj
section
variable {H H':Hp}{L:List (List AV)}{S:List Nat}{el el2 es i m o:Nat}{l vs z:List AV}{x:AV}
theorem Xh (h:H'.h.get i=H.h.get i):cellAt H' i o=cellAt H i o:=by unfold cellAt;rw[h]
theorem Uv {H H':Hp}{i:Nat}(h:H'.h.get i=H.h.get i):∀(n o:Nat),au H' i o n=au H i o n
 |0,o=>rfl|n+1,o=>by unfold au;rw[Xh h,Uv h n]
theorem AS {H:Hp}{l:List AV}{el fl i o:Nat}(h:i=H.next):cellAt (al H l el fl) i o=l[o]?:=by
 subst h;cases hv:l[o]? with
 |some v=>exact (aO H l el fl).cellAt hv|none=>
  unfold cellAt;rw[Iu,zz2 rfl];have:=List.getElem?_eq_none_iff.1 hv;have hb:(Nat.ble 0 o&&Nat.blt o l.length)=false:=by rw[Bool.and_eq_false_iff];right;rw[<-aja,aeI];omega
  simp only[hb,cond_false]
theorem wS {H:Hp}{l:List AV}{el fl i o:Nat}(h:i<H.next):cellAt (al H l el fl) i o=cellAt H i o:=Xh (by rw[Iu,zz1 zzz])
theorem MX {H:Hp}{l:List AV}{el fl i o n:Nat}(h:i=H.next)(hn:o+n<=l.length):au (al H l el fl) i o n=some ((l.drop o).take n):=by subst h;exact (aO H l el fl).au n o hn
theorem ako {H:Hp}{l:List AV}{el fl i o n:Nat}(h:i<H.next):au (al H l el fl) i o n=au H i o n:=Uv (by rw[Iu,zz1 zzz]) _ _
theorem Out.cellAt {S:List Nat}{H H':Hp}(h:Out S H H'){i o:Nat}(hi:i<H.next)(hs:i∉S):cellAt H' i o=Am.cellAt H i o:=Xh (h.2 i hi hs)
theorem Out.au {S:List Nat}{H H':Hp}(h:Out S H H'){i o n:Nat}(hi:i<H.next)(hs:i∉S):au H' i o n=Am.au H i o n:=Uv (h.2 i hi hs) _ _
theorem PW (i o:Nat)(H:Hp):ld (.ptr i o) H=cellAt H i o:=abG rfl (id rfl)
theorem NZ (n i o:Nat)(H:Hp):aB n (.ptr i o) H=(au H i o n).map .agg:=abG rfl (id rfl)
def kf (l:List AV)(o:Nat):List AV->List AV
 |[]=>l|v::vs=>kf (l.set o v) (o+1) vs
theorem M5:∀(vs l:List AV) (o:Nat),(kf l o vs).length=l.length
 |[],l,o=>rfl|v::vs,l,o=>by rw[kf,M5 vs,adZ]
theorem ED:∀(vs l:List AV) (o k:Nat),o+vs.length<=l.length->(kf l o vs)[k]?=if o<=k/\k<o+vs.length then vs[k-o]? else l[k]?
 |[],l,o,k,h=>by rw[zz1 (by simp only[acU];omega)];rfl
 |v::vs,l,o,k,h=>by
  simp only[aaG] at h⊢;rw[kf,ED vs _ _ _ (by rw[adZ];omega)];by_cases h1:o+1<=k/\k<o+1+vs.length;·rw[zz2 h1,zz2 zzz,show k-o=(k-(o+1))+1 by omega,adr]
  ·rw[zz1 h1];by_cases h2:k=o;·subst h2;rw[zz2 zzz,aka,agH zzz];rfl
   ·rw[zz1 zzz,aj6 (λq=>h2 q.symm)]
theorem agL (vs l:List AV)(h:vs.length=l.length):kf l 0 vs=vs:=by
 apply ak7;intro k;rw[ED vs l 0 k zzz];split;·rw[aij]
 ·rename_i hn;rw[aid zzz,aid zzz]
theorem aAv {fl:Nat}{v:AV}(h:i=H.next)(hf:fl<=1)(ho:o<l.length)(hv:aX v=true):setCell (al H l el fl) i o v=some (al H (l.set o v) el fl):=by
 subst h;have hs:((Tr.bZ .nil 0 l).get o).isSome=true:=by rw[Co,zz2 zzz];simp[ho]
 have hb:(Nat.ble 0 o&&Nat.blt o l.length&&Nat.ble fl 1&&((Tr.bZ .nil 0 l).get o).isSome&&aX v)=true:=by simp only[aaA,af1,aeI];exact⟨⟨⟨⟨zzz,ho⟩,hf⟩,hs⟩,hv⟩
 unfold setCell;rw[Iu,zz2 rfl];simp only[hb,cond_true];have e1:(Tr.bZ .nil 0 l).cL o v=Tr.bZ .nil 0 (l.set o v):=by have:=Tr.aeR l .nil 0 o v ho;rw[ad0] at this;exact this
 rw[e1];unfold al;congr 2;rw[adZ];exact Tr.Je _ _ _ _
theorem YX {H:Hp}{el fl i:Nat}(h:i=H.next)(hf:fl<=1):∀(vs l:List AV) (o:Nat),o+vs.length<=l.length->(∀v∈vs,aX v=true)->setCells (al H l el fl) i o vs=some (al H (kf l o vs) el fl)
 |[],l,o,_,_=>rfl|v::vs,l,o,hl,hv=>by simp only[aaG] at hl;unfold setCells;rw[aAv h hf zzz (hv v (.head _))];exact YX h hf vs _ _ (by rw[adZ];omega) λu hu=>hv u (.tail _ hu)
theorem Oh {v:AV}(h:aX v=true):tM v=some [v]:=by cases v<;>first|rfl|cases h
theorem GC (l:List AV):tM (.agg l)=some l:=abG rfl (id rfl)
theorem P9 {H:Hp}{l:List AV}{el fl i o:Nat}{v:AV}(hv:aX v=true)(h:i=H.next)(hf:fl<=1)(ho:o<l.length):st 1 (.ptr i o) v (al H l el fl)=some (al H (l.set o v) el fl):=by unfold st;simp only[Oh hv];show setCells _ i o [v]=_;exact YX h hf [v] l o (by simp only[aaG,acU];omega) λu hu=>by rw[No] at hu;subst hu;exact hv
theorem gp {H:Hp}{l vs:List AV}{n el fl i:Nat}(hv:vs.all aX=true)(hn:n=vs.length)(h:i=H.next)(hf:fl<=1)(hl:l.length=vs.length):st n (.ptr i 0) (.agg vs) (al H l el fl)=some (al H vs el fl):=by
 unfold st;have:Nat.beq n vs.length=true:=by subst hn;exact aju _
 simp only[GC,this,cond_true];rw[YX h hf vs l 0 zzz (aeh.1 hv),agL vs l hl.symm]
theorem hJ {H:Hp}{el:Nat}{l:List AV}(h:l.length<=16777216):bx el (.agg l) H=some (H.next,al H l el 0):=by unfold bx;simp only[GC];exact eC h
theorem Lc {H:Hp}{el:Nat}{v:AV}(hv:aX v=true):bx el v H=some (H.next,al H [v] el 0):=by unfold bx;simp only[Oh hv];exact eC zzy
theorem yq {z:List AV}{off:Nat}{v:AV}{r:List (Nat×Nat×AV)}(hv:aX v=true)(h:off+1<=z.length):fl z ((off,1,v)::r)=fl (z.set off v) r:=by
 have e:z.take off++[v]++z.drop (off+1)=z.set off v:=by rw[List.set_eq_take_append_cons_drop,zz2 zzz];simp
 show (match tM v with|some cs=>if cs.length=1/\off+1<=z.length then fl (z.take off++cs++z.drop (off+1)) r else none|none=>none)=_;rw[Oh hv];simp only;rw[zz2 ⟨rfl,h⟩,e]
theorem zx {z:List AV}{off n:Nat}{l:List AV}{r:List (Nat×Nat×AV)}(hn:l.length=n)(h:off+n<=z.length):fl z ((off,n,.agg l)::r)=fl (z.take off++l++z.drop (off+n)) r:=by show (match tM (.agg l) with|some cs=>if cs.length=n/\off+n<=z.length then fl (z.take off++cs++z.drop (off+n)) r else none|none=>none)=_;rw[GC];simp only;rw[zz2 ⟨hn,h⟩]
theorem Rw.one (h:Rw H es x l):aX x=true:=by cases h<;>rfl
theorem Ow.kH (h:Ow H el es x l):aX x=true:=h.rw.one
theorem vM {s:AV}(h:Ow H el es s l)(hv:vs.all aX=true)(hn:vs.length=es)(dO:0<es)(hlen:l.length+vs.length<=16777216):
  ∃s' H',(∀i,i=H.next->cY el es z false s (.slice i 0 1 1 true es) (al H vs el2 0)=some (s',H'))/\Ow H' el es s' (l++vs)/\Out (ak s) H H'/\(∀j∈ak s',j∈ak s\/H.next<=j)/\aX s'=true:=by
 have c:=aO H vs el2 0;have hr:Rw (al H vs el2 0) es (.slice H.next 0 1 1 true es) vs:=.mk c.ro (by rw[hn,akX]) (aaC _) rfl;have ho:Ow (al H vs el2 0) el es s l:=h.out (aD H vs el2 0) λj hj=>zzy;obtain⟨s',H',h1,h2,h3,h4⟩:=ami (z:=z) ho hr (aeh.1 hv) dO hlen;refine⟨s',H',λi hi=>by subst hi;exact h1,h2,((aD H vs el2 0).mono (S':=ak s) (λj hj=>by cases hj)).then h3 (λj hj=>.inl hj),λj hj=>(h4 j hj).imp id λq=>by rw[bQ] at q;omega,h2.kH⟩
theorem afR {s:List Nat}(k:IntKind)(h:m<=s.length):qc (.str s) none (some (.int k m))=some (.str (s.take m)):=by unfold qc;simp only[Dk (abz m) h (aaC _) (Bd.no 0) (Bd.yes k m _),aeL,abl,aij]
theorem ad3 {s:List Nat}(k:IntKind)(h:m<=s.length):qc (.str s) (some (.int k m)) none=some (.str (s.drop m)):=by unfold qc;simp only[Dk h (aaC _) (aaC _) (Bd.yes k m 0) (Bd.no _),aeL];rw[agI (by rw[af5];omega)]
theorem ajc {s:List Nat}{a b:Nat}(k j:IntKind)(zW:a<=b)(h:b<=s.length):qc (.str s) (some (.int k a)) (some (.int j b))=some (.str ((s.drop a).take (b-a))):=by unfold qc;simp only[Dk zW h (aaC _) (Bd.yes k a 0) (Bd.yes j b _),aeL]
theorem aCI {s:List Nat}{b:Nat}(k:IntKind)(h:s[i]?=some b):zw (.str s) (.int k i)=some (.int .u8 b):=by unfold zw;simp only;rw[zz2 zzz,acv,h];rfl
theorem acD {s:List Nat}{b:Nat}(k:IntKind)(h:s[0]?=some b):zw (.str s) (.int k 0)=some (.int .u8 b):=aCI (i:=0) k h
theorem Rw.ia {H:Hp}{es n:Nat}{x:AV}{l:List AV}(h:Rw H es x l)(hl:l.length=n*es)(dO:0<es){i:Nat}(hi:i<n):∃b o,(∀k,ia es x (.int k i)=some (.ptr b o))/\b∈ak x/\b<H.next/\
  (∀k v,l[i*es+k]?=some v->k<es->cellAt H b (o+k)=some v)/\au H b o es=some ((l.drop (i*es)).take es):=by
 cases h with
 |nil=>
  simp only[acU] at hl;rcases Nat.mul_eq_zero.1 hl.symm with q|q<;>omega
 |emp=>
  simp only[acU] at hl;rcases Nat.mul_eq_zero.1 hl.symm with q|q<;>omega
 |@mk j off m cap ex l hr hn hc he=>
  have hm:m=n:=Nat.eq_of_mul_eq_mul_right dO (hn.symm.trans hl);subst hm;have hle:(i+1)*es<=m*es:=aeQ _ hi;rw[agX,akX] at hle;refine⟨j,off+i*es,λk=>CZ hi,by rw[oR he];exact .head _,hr.1,λk v hk _=>?_,?_⟩;·rw[ame];exact hr.cellAt hk
  ·have h1:=((hr.drop (i*es) zzz).take es).au;rw[aeX,af5,anX zzz] at h1;exact h1
def RL (H:Hp)(es:Nat)(x:AV)(L:List (List AV)):Prop:=Rw H es x L.flatten/\∀c∈L,c.length=es
def OL (H:Hp)(el es:Nat)(x:AV)(L:List (List AV)):Prop:=Ow H el es x L.flatten/\∀c∈L,c.length=es
theorem DQ {es:Nat}:∀{L:List (List AV)},(∀c∈L,c.length=es)->L.flatten.length=L.length*es
 |[],_=>zzy|c::L,h=>by rw[ahV,aam,h c (.head _),DQ λd hd=>h d (.tail _ hd),aaG,agX];omega
theorem akQ {es:Nat}:∀{L:List (List AV)} {i:Nat} {c:List AV},(∀c∈L,c.length=es)->L[i]?=some c->(L.flatten.drop (i*es)).take es=c
 |[],i,c,_,h=>by simp at h
 |a::L,0,c,hl,h=>by simp only[adW,adn] at h;subst h;have:=hl a (.head _);rw[ai8,abl,ahV,List.take_append_of_le_length zzz,agI zzz]
 |a::L,i+1,c,hl,h=>by simp only[adr] at h;have ha:=hl a (.head _);rw[ahV,agX,akX,List.drop_append,ajE zzz,ahG,ha,Nat.add_sub_cancel];exact akQ (λd hd=>hl d (.tail _ hd)) h
theorem OL.rl (h:OL H el es x L):RL H es x L:=⟨h.1.rw,h.2⟩
theorem RL.out (h:RL H es x L)(k:Out S H H')(hi:∀j∈ak x,j∉S):RL H' es x L:=⟨h.1.out k hi,h.2⟩
theorem RL.av (h:RL H es x L)(k:Out [] H H'):RL H' es x L:=h.out k λ_ _ q=>by cases q
theorem Rw.av (h:Rw H es x l)(k:Out [] H H'):Rw H' es x l:=h.out k λ_ _ q=>by cases q
theorem OL.out (h:OL H el es x L)(k:Out S H H')(hi:∀j∈ak x,j∉S):OL H' el es x L:=⟨h.1.out k hi,h.2⟩
theorem RL.one (h:RL H es x L):aX x=true:=h.1.one
theorem RL.len (h:RL H es x L)(dO:0<es):aG x=some (.int .i64 (L.length:Nat)):=by obtain⟨n,h1,h2⟩:=h.1.len;rw[DQ h.2] at h2;rw[h1,Nat.eq_of_mul_eq_mul_right dO h2]
theorem RL.at {H:Hp}{es:Nat}{x:AV}{L:List (List AV)}(h:RL H es x L)(dO:0<es){i:Nat}{c:List AV}(hi:L[i]?=some c):∃b o,(∀k,ia es x (.int k i)=some (.ptr b o))/\b∈ak x/\b<H.next/\au H b o es=some c/\∀k v,c[k]?=some v->cellAt H b (o+k)=some v:=by
 have aW:=(aak.1 hi).1;obtain⟨b,o,h1,h2,h3,h4,h5⟩:=h.1.ia (DQ h.2) dO aW;have hf:=akQ h.2 hi;rw[hf] at h5;refine⟨b,o,h1,h2,h3,h5,λk v hv=>?_⟩;have hk:k<es:=by have:=(aak.1 hv).1;rw[h.2 c (aad hi)] at this;exact this
 refine h4 k v ?_ hk;rw[<-hf,ajA,zz2 hk,ahf] at hv;exact hv
theorem OL.nil (H:Hp)(el es:Nat):OL H el es .ah []:=⟨.nil,λc hc=>by cases hc⟩
theorem RL.nil (H:Hp)(es:Nat):RL H es .ah []:=⟨.nil,λc hc=>by cases hc⟩
theorem OL.push {s:AV}(h:OL H el es s L)(hv:vs.all aX=true)(hn:vs.length=es)(dO:0<es)(hlen:(L.length+1)*es<=16777216):
  ∃s' H',(∀i,i=H.next->cY el es z false s (.slice i 0 1 1 true es) (al H vs el2 0)=some (s',H'))/\OL H' el es s' (L++[vs])/\Out (ak s) H H'/\(∀j∈ak s',j∈ak s\/H.next<=j)/\aX s'=true:=by
 obtain⟨s',H',h1,h2,h3⟩:=vM (el2:=el2) (z:=z) h.1 hv hn dO (by rw[DQ h.2,hn];rw[agX,akX] at hlen;exact hlen);refine⟨s',H',h1,⟨by rw[List.flatten_append];simpa using h2,λc hc=>?_⟩,h3⟩;rcases abm.1 hc with hc|hc;·exact h.2 c hc
 ·rw[No] at hc;subst hc;exact hn
theorem OL.one (h:OL H el es x L):∀c∈L,c.all aX=true:=λc hc=>by rw[aeh];intro v hv;exact h.1.one v (alL.2 ⟨c,hc,hv⟩)
theorem eg {α:Type}{l r:List α}{a:α}(h:l.drop i=a::r):i<l.length/\l[i]?=some a/\l.drop (i+1)=r:=by
 have h1:i<l.length:=by have:=congrArg List.length h;rw[af5,aaG] at this;omega
 refine⟨h1,?_,?_⟩;·have:=ahf (xs:=l) (i:=i) (j:=0);rw[h,ae9] at this;rw[<-this];rfl
 ·have:=List.drop_drop (l:=l) (i:=1) (j:=i);rw[h] at this;rw[<-this];rfl
theorem Out.nx (h:Out S H H'):H.next<=H'.next:=h.1
theorem Mi (hx:Rw H es x l)(ho:∀v∈l,aX v=true)(dO:0<es)(hlen:l.length<=16777216):
  ∃s' H',cY el es z false (.slice H.next 0 0 0 true es) x (al H [] el2 0)=some (s',H')/\Ow H' el es s' l/\Out [] H H'/\(∀j∈ak s',H.next<=j):=by
 have ha:=aD H [] el2 0;obtain⟨s',H',h1,h2,h3,h4⟩:=ami (z:=z) (Ow.emp (H:=al H [] el2 0) (el:=el) (es:=es) (i:=H.next) (off:=0)) (hx.av ha) ho dO (by simpa using hlen);refine⟨s',H',h1,by simpa using h2,ha.then h3 (λj hj=>by cases hj),λj hj=>?_⟩;rcases h4 j hj with q|q;·cases q
 ·rw[bQ] at q;omega
theorem aa4 {n s off z:Nat}(k:IntKind)(h:z<n):pV n s (.ptr i off) (.int k z)=some (.ptr i (off+z*s)):=by unfold pV;simp only;rw[zz2 zzz,acv]
theorem ali {n s i off:Nat}(k:IntKind)(h:0<n):pV n s (.ptr i off) (.int k 0)=some (.ptr i off):=by have:=aa4 (s:=s) (i:=i) (off:=off) k h;rw[ai8] at this;exact this
theorem ae8 {n i off:Nat}(k:IntKind)(h:1<n):pV n 1 (.ptr i off) (.int k 1)=some (.ptr i (off+1)):=by have:=aa4 (s:=1) (i:=i) (off:=off) k h;exact this
theorem iF (k:IntKind)(n:Int):aX (.int k n)=true:=abG rfl (id rfl)
theorem I0 (s:List Nat):aX (.str s)=true:=abG rfl (id rfl)
theorem XA (b:Bool):aX (.bool b)=true:=abG rfl (id rfl)
theorem akO (i o:Nat):aX (.ptr i o)=true:=abG rfl (id rfl)
theorem acM:aX .db=true:=abG rfl (id rfl)
theorem alA (i o n c:Nat)(x:Bool)(es:Nat):aX (.slice i o n c x es)=true:=abG rfl (id rfl)
theorem acR:aX .ah=true:=abG rfl (id rfl)
theorem aat (i:Nat):aX (.map i)=true:=abG rfl (id rfl)
theorem ajO:aX .kP=true:=abG rfl (id rfl)
theorem ak8 (f:Go.Fn)(a b:List AV):aX (.func f a b)=true:=abG rfl (id rfl)
theorem aiY:aX .nilFunc=true:=abG rfl (id rfl)
theorem alW:aX .nilIface=true:=abG rfl (id rfl)
theorem ah3 (t:TypeId)(v:AV):aX (.iface t v)=true:=abG rfl (id rfl)
theorem ai:type_of% (And.intro @aaX (And.intro @ac1 (And.intro @al2 (And.intro @ab6 (And.intro @agy (And.intro @abQ (And.intro @abI (And.intro @akn (And.intro @aea (And.intro @abg (And.intro @aa7 (And.intro @aex (And.intro @acj (And.intro @afb (And.intro @ak2 (And.intro @adg (And.intro @ama (And.intro @ajL (And.intro @afy (And.intro @ahH (And.intro @abV (And.intro @akm (And.intro @afF (And.intro @acI (And.intro @ahq (And.intro @afH (And.intro @akW (And.intro @alT (And.intro @agl (And.intro @aek (And.intro @afZ (And.intro @afp (And.intro @abc (And.intro @afU (And.intro @age (And.intro @amH (And.intro @adL (And.intro @aeP (And.intro @ahD (And.intro @akZ (And.intro @aeN (And.intro @aeE (And.intro @acS (And.intro @ajq (And.intro @ahs (And.intro @af0 (And.intro @amo (And.intro @amN (And.intro @ag1 (And.intro @akR (And.intro @al0 (And.intro @ag5 (And.intro @ab5 (And.intro @amg (And.intro @ajT (And.intro @acy (And.intro @adU (And.intro @ah1 (And.intro @QG (And.intro @amG (And.intro @aeD (And.intro @al7 (And.intro @akd (And.intro @ag2 (And.intro @amE (And.intro @agS (And.intro @agD (And.intro @aa8 (And.intro @akB (And.intro @afC (And.intro @agj (And.intro @agd (And.intro @akk @ael))))))))))))))))))))))))))))))))))))))))))))))))))))))))))))))))))))))))):=And.intro @aaX (And.intro @ac1 (And.intro @al2 (And.intro @ab6 (And.intro @agy (And.intro @abQ (And.intro @abI (And.intro @akn (And.intro @aea (And.intro @abg (And.intro @aa7 (And.intro @aex (And.intro @acj (And.intro @afb (And.intro @ak2 (And.intro @adg (And.intro @ama (And.intro @ajL (And.intro @afy (And.intro @ahH (And.intro @abV (And.intro @akm (And.intro @afF (And.intro @acI (And.intro @ahq (And.intro @afH (And.intro @akW (And.intro @alT (And.intro @agl (And.intro @aek (And.intro @afZ (And.intro @afp (And.intro @abc (And.intro @afU (And.intro @age (And.intro @amH (And.intro @adL (And.intro @aeP (And.intro @ahD (And.intro @akZ (And.intro @aeN (And.intro @aeE (And.intro @acS (And.intro @ajq (And.intro @ahs (And.intro @af0 (And.intro @amo (And.intro @amN (And.intro @ag1 (And.intro @akR (And.intro @al0 (And.intro @ag5 (And.intro @ab5 (And.intro @amg (And.intro @ajT (And.intro @acy (And.intro @adU (And.intro @ah1 (And.intro @QG (And.intro @amG (And.intro @aeD (And.intro @al7 (And.intro @akd (And.intro @ag2 (And.intro @amE (And.intro @agS (And.intro @agD (And.intro @aa8 (And.intro @akB (And.intro @afC (And.intro @agj (And.intro @agd (And.intro @akk @ael))))))))))))))))))))))))))))))))))))))))))))))))))))))))))))))))))))))))
theorem ar:type_of% (And.intro @ali (And.intro @ae8 (And.intro @eC (And.intro @bQ (And.intro @PW (And.intro @NZ (And.intro @AS (And.intro @wS (And.intro @MX (And.intro @ako (And.intro @P9 (And.intro @gp (And.intro @hJ (And.intro @Lc (And.intro @pY (And.intro @yq @zx)))))))))))))))):=And.intro @ali (And.intro @ae8 (And.intro @eC (And.intro @bQ (And.intro @PW (And.intro @NZ (And.intro @AS (And.intro @wS (And.intro @MX (And.intro @ako (And.intro @P9 (And.intro @gp (And.intro @hJ (And.intro @Lc (And.intro @pY (And.intro @yq @zx)))))))))))))))
theorem ag:type_of% (And.intro @iF (And.intro @I0 (And.intro @XA (And.intro @akO (And.intro @acM (And.intro @alA (And.intro @acR (And.intro @aat (And.intro @ajO (And.intro @ak8 (And.intro @aiY (And.intro @alW (And.intro @ah3 @bQ))))))))))))):=And.intro @iF (And.intro @I0 (And.intro @XA (And.intro @akO (And.intro @acM (And.intro @alA (And.intro @acR (And.intro @aat (And.intro @ajO (And.intro @ak8 (And.intro @aiY (And.intro @alW (And.intro @ah3 @bQ))))))))))))
theorem aj:(∀(a:AV) (l:List AV),(a::l)[0]?=some a)/\(∀(a:AV) (l:List AV) (i:Nat),(a::l)[i+1]?=l[i]?)/\(∀n:Nat,0+n=n)/\((!true)=false)/\((!false)=true)/\(∀h:Decidable True,@decide True h=true)/\(∀h:Decidable False,@decide False h=false)/\(∀a:Int,(a==a)=true)/\(∀a:List Nat,(a==a)=true)/\(∀a:Int,(a != a)=false)/\(∀a:List Nat,(a != a)=false)/\(∀a b:Int,(a ≥ b)=(b<=a))/\(∀a b:Int,(a>b)=(b<a)):=
 ⟨λ_ _=>rfl,λ_ _ _=>rfl,ad0,rfl,rfl,λ_=>zz3 trivial,λ_=>zz4 id,λ_=>beq_self_eq_true _,λ_=>beq_self_eq_true _,λ_=>bne_self_eq_false _,λ_=>bne_self_eq_false _,λ_ _=>rfl,λ_ _=>rfl⟩
theorem zz0:type_of%(And.intro @ai @aj):=⟨@ai,@aj⟩
theorem aq:(∀(f:List AV->AV) (l:List AV),Option.map f (some l)=some (f l))/\(∀l:List AV,l.drop 0=l)/\(∀(n:Nat) (a:AV) (l:List AV),(a::l).take (n+1)=a::l.take n)/\(∀l:List AV,l.take 0=[])/\(∀(n:Nat) (a:AV) (l:List AV),(a::l).drop (n+1)=l.drop n)/\(∀(a b:AV) (l:List AV),(a::l).set 0 b=b::l)/\(∀(n:Nat) (a b:AV) (l:List AV),(a::l).set (n+1) b=a::l.set n b)/\(∀l:List AV,[]++l=l)/\(∀(a:AV) (l m:List AV),a::l++m=a::(l++m))/\(∀l:List AV,l++[]=l)/\(∀n:Nat,n+0=n):=
 ⟨λ_ _=>rfl,λ_=>rfl,λ_ _ _=>rfl,λ_=>rfl,λ_ _ _=>rfl,λ_ _ _=>rfl,λ_ _ _ _=>rfl,λ_=>rfl,λ_ _ _=>rfl,adz,λ_=>rfl⟩
theorem af:(∀(H:Hp) (l:List AV) (el fl:Nat),(al H l el fl).next=H.next+1)/\(∀(a:AV) (l:List AV),(a::l).length=l.length+1)/\(([]:List AV).length=0)/\(∀(p:AV->Bool) (a:AV) (l:List AV),(a::l).all p=(p a&&l.all p))/\(∀p:AV->Bool,([]:List AV).all p=true)/\(∀b:Bool,(b&&true)=b)/\(∀b:Bool,(true&&b)=b)/\(∀b:Bool,(b&&b)=b)/\(∀n:Nat,0+n=n)/\(∀n:Nat,(n<=n)=True):=
 ⟨λ_ _ _ _=>rfl,λ_ _=>rfl,rfl,λ_ _ _=>rfl,λ_=>rfl,Bool.and_true,ac9,Bool.and_self,ad0,λn=>eq_true (aaC n)⟩
end
end K
end Go.Proofs.YtodfajmihkagnaaGreatDoor.Am
