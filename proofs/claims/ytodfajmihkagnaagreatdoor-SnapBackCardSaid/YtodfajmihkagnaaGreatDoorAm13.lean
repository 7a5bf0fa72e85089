/- Laws that the proof uses. -/
import Derived.Test.YtodfajmihkagnaaGreatDoorAm12
set_option linter.unusedVariables false
set_option linter.unusedSimpArgs false
namespace Go.Proofs.YtodfajmihkagnaaGreatDoor.Am
namespace K
section
variable {α:Type}
theorem Ry (v:α)(k:α->R):B1 (some v) k=k v:=abg rfl (id rfl)
theorem QW (v:AV)(H:Hp)(k:AV->Hp->R):B2 (some (v,H)) k=k v H:=abg rfl (id rfl)
theorem aiE (v:Nat)(H:Hp)(k:Nat->Hp->R):BN (some (v,H)) k=k v H:=abg rfl (id rfl)
end
theorem aeE (f:(Hp->R)->R)(k:Hp->R):JN 0 f k=f k:=abg rfl (id rfl)
theorem ajc (f:(AV->Hp->R)->R)(k:AV->Hp->R):JN 1 f k=f k:=abg rfl (id rfl)
theorem aep (f:(AV->AV->Hp->R)->R)(k:AV->AV->Hp->R):JN 2 f k=f k:=abg rfl (id rfl)
theorem aeh (f:(AV->AV->AV->Hp->R)->R)(k:AV->AV->AV->Hp->R):JN 3 f k=f k:=abg rfl (id rfl)
theorem ana (f:(AV->AV->AV->AV->Hp->R)->R)(k:AV->AV->AV->AV->Hp->R):JN 4 f k=f k:=abg rfl (id rfl)
theorem agJ (f:(AV->AV->AV->AV->AV->Hp->R)->R)(k:AV->AV->AV->AV->AV->Hp->R):JN 5 f k=f k:=abg rfl (id rfl)
theorem adR (f:(AV->AV->AV->AV->AV->AV->Hp->R)->R)(k:AV->AV->AV->AV->AV->AV->Hp->R):JN 6 f k=f k:=abg rfl (id rfl)
theorem adJ (f:(AV->AV->AV->AV->AV->AV->AV->Hp->R)->R)(k:AV->AV->AV->AV->AV->AV->AV->Hp->R):JN 7 f k=f k:=abg rfl (id rfl)
theorem ag6 (f:(AV->AV->AV->AV->AV->AV->AV->AV->Hp->R)->R)(k:AV->AV->AV->AV->AV->AV->AV->AV->Hp->R):JN 8 f k=f k:=abg rfl (id rfl)
theorem aeQ (f:(AV->AV->AV->AV->AV->AV->AV->AV->AV->Hp->R)->R)(k:AV->AV->AV->AV->AV->AV->AV->AV->AV->Hp->R):JN 9 f k=f k:=abg rfl (id rfl)
theorem ahO (f:(AV->AV->AV->AV->AV->AV->AV->AV->AV->AV->Hp->R)->R)(k:AV->AV->AV->AV->AV->AV->AV->AV->AV->AV->Hp->R):JN 10 f k=f k:=abg rfl (id rfl)
theorem anV (f:(AV->AV->AV->AV->AV->AV->AV->AV->AV->AV->AV->Hp->R)->R)(k:AV->AV->AV->AV->AV->AV->AV->AV->AV->AV->AV->Hp->R):JN 11 f k=f k:=abg rfl (id rfl)
theorem afO (f:(AV->AV->AV->AV->AV->AV->AV->AV->AV->AV->AV->AV->Hp->R)->R)(k:AV->AV->AV->AV->AV->AV->AV->AV->AV->AV->AV->AV->Hp->R):JN 12 f k=f k:=abg rfl (id rfl)
theorem ao0 (f:(AV->AV->AV->AV->AV->AV->AV->AV->AV->AV->AV->AV->AV->Hp->R)->R)(k:AV->AV->AV->AV->AV->AV->AV->AV->AV->AV->AV->AV->AV->Hp->R):JN 13 f k=f k:=abg rfl (id rfl)
theorem amw (f:(AV->AV->AV->AV->AV->AV->AV->AV->AV->AV->AV->AV->AV->AV->Hp->R)->R)(k:AV->AV->AV->AV->AV->AV->AV->AV->AV->AV->AV->AV->AV->AV->Hp->R):JN 14 f k=f k:=abg rfl (id rfl)
theorem aic (f:(AV->AV->AV->AV->AV->AV->AV->AV->AV->AV->AV->AV->AV->AV->AV->Hp->R)->R)(k:AV->AV->AV->AV->AV->AV->AV->AV->AV->AV->AV->AV->AV->AV->AV->Hp->R):JN 15 f k=f k:=abg rfl (id rfl)
theorem ako (f:(AV->AV->AV->AV->AV->AV->AV->AV->AV->AV->AV->AV->AV->AV->AV->AV->Hp->R)->R)(k:AV->AV->AV->AV->AV->AV->AV->AV->AV->AV->AV->AV->AV->AV->AV->AV->Hp->R):JN 16 f k=f k:=abg rfl (id rfl)
theorem aeu (f:(AV->AV->AV->AV->AV->AV->AV->AV->AV->AV->AV->AV->AV->AV->AV->AV->AV->Hp->R)->R)(k:AV->AV->AV->AV->AV->AV->AV->AV->AV->AV->AV->AV->AV->AV->AV->AV->AV->Hp->R):JN 17 f k=f k:=abg rfl (id rfl)
theorem am9 (f:(AV->AV->AV->AV->AV->AV->AV->AV->AV->AV->AV->AV->AV->AV->AV->AV->AV->AV->Hp->R)->R)(k:AV->AV->AV->AV->AV->AV->AV->AV->AV->AV->AV->AV->AV->AV->AV->AV->AV->AV->Hp->R):JN 18 f k=f k:=abg rfl (id rfl)
theorem aij (f:(AV->AV->AV->AV->AV->AV->AV->AV->AV->AV->AV->AV->AV->AV->AV->AV->AV->AV->AV->Hp->R)->R)(k:AV->AV->AV->AV->AV->AV->AV->AV->AV->AV->AV->AV->AV->AV->AV->AV->AV->AV->AV->Hp->R):JN 19 f k=f k:=abg rfl (id rfl)
theorem aff (f:(AV->AV->AV->AV->AV->AV->AV->AV->AV->AV->AV->AV->AV->AV->AV->AV->AV->AV->AV->AV->Hp->R)->R)(k:AV->AV->AV->AV->AV->AV->AV->AV->AV->AV->AV->AV->AV->AV->AV->AV->AV->AV->AV->AV->Hp->R):JN 20 f k=f k:=abg rfl (id rfl)
theorem aj5 (f:(AV->AV->AV->AV->AV->AV->AV->AV->AV->AV->AV->AV->AV->AV->AV->AV->AV->AV->AV->AV->AV->Hp->R)->R)(k:AV->AV->AV->AV->AV->AV->AV->AV->AV->AV->AV->AV->AV->AV->AV->AV->AV->AV->AV->AV->AV->Hp->R):JN 21 f k=f k:=abg rfl (id rfl)
theorem aik (f:(AV->AV->AV->AV->AV->AV->AV->AV->AV->AV->AV->AV->AV->AV->AV->AV->AV->AV->AV->AV->AV->AV->Hp->R)->R)(k:AV->AV->AV->AV->AV->AV->AV->AV->AV->AV->AV->AV->AV->AV->AV->AV->AV->AV->AV->AV->AV->AV->Hp->R):JN 22 f k=f k:=abg rfl (id rfl)
theorem anO (f:(AV->AV->AV->AV->AV->AV->AV->AV->AV->AV->AV->AV->AV->AV->AV->AV->AV->AV->AV->AV->AV->AV->AV->Hp->R)->R)(k:AV->AV->AV->AV->AV->AV->AV->AV->AV->AV->AV->AV->AV->AV->AV->AV->AV->AV->AV->AV->AV->AV->AV->Hp->R):JN 23 f k=f k:=abg rfl (id rfl)
theorem aoJ (f:(AV->AV->AV->AV->AV->AV->AV->AV->AV->AV->AV->AV->AV->AV->AV->AV->AV->AV->AV->AV->AV->AV->AV->AV->Hp->R)->R)(k:AV->AV->AV->AV->AV->AV->AV->AV->AV->AV->AV->AV->AV->AV->AV->AV->AV->AV->AV->AV->AV->AV->AV->AV->Hp->R):JN 24 f k=f k:=abg rfl (id rfl)
theorem ah4 (x y:R):CD (.bool true) x y=x:=abg rfl (id rfl)
theorem PG (x y:R):CD (.bool false) x y=y:=abg rfl (id rfl)
theorem LA (b:Bool)(x y:R):CD (.bool b) x y=if b then x else y:=by cases b<;>rfl
theorem aiy (f:(AV->Hp->R)->R)(k:AV->Hp->R)(H:Hp):GO (.bool true) true f k H=f k:=abg rfl (id rfl)
theorem aiT (f:(AV->Hp->R)->R)(k:AV->Hp->R)(H:Hp):GO (.bool false) true f k H=k bS H:=abg rfl (id rfl)
theorem apy (f:(AV->Hp->R)->R)(k:AV->Hp->R)(H:Hp):GO (.bool true) false f k H=k bS H:=abg rfl (id rfl)
theorem agl (f:(AV->Hp->R)->R)(k:AV->Hp->R)(H:Hp):GO (.bool false) false f k H=f k:=abg rfl (id rfl)
theorem ahq (f:(AV->Hp->R)->R)(k:AV->Hp->R)(H:Hp):GO bS true f k H=k bS H:=abg rfl (id rfl)
theorem akj (f:(AV->Hp->R)->R)(k:AV->Hp->R)(H:Hp):GO bS false f k H=k bS H:=abg rfl (id rfl)
theorem anS (x y:R):jj (.bool true) true x y=x:=abg rfl (id rfl)
theorem aho (x y:R):jj (.bool false) true x y=y:=abg rfl (id rfl)
theorem ahe (x y:R):jj (.bool true) false x y=y:=abg rfl (id rfl)
theorem afp (x y:R):jj (.bool false) false x y=x:=abg rfl (id rfl)
theorem al9 (a b:AV):pk (.bool true) a b=some a:=abg rfl (id rfl)
theorem aj7 (a b:AV):pk (.bool false) a b=some b:=abg rfl (id rfl)
theorem aiF (i o:Nat):aJ (.ptr i o)=some (.ptr i o):=abg rfl (id rfl)
theorem apd (t:TypeId)(v:AV):aJ (.iface t v)=some (.iface t v):=abg rfl (id rfl)
theorem apE (off i o:Nat):fa off (.ptr i o)=some (.ptr i (o+off)):=abg rfl (id rfl)
theorem ajD (off:Nat)(l:List AV):fd off (.agg l)=l[off]?:=abg rfl (id rfl)
theorem anH (i:Nat)(l:List AV):ex i (.tuple l)=l[i]?:=abg rfl (id rfl)
theorem aoQ (k:IntKind)(a b:Int):bc (.int k a) (.int k b)=some (.int k (k.wrap (a+b))):=by simp[bc,ii]
theorem ajI (k:IntKind)(a b:Int):pG (.int k a) (.int k b)=some (.int k (k.wrap (a-b))):=by simp[pG,ii]
theorem aeD (k:IntKind)(a b:Int):vC (.int k a) (.int k b)=some (.int k (k.wrap (a*b))):=by simp[vC,ii]
theorem ao7 (k:IntKind)(a b:Int):bK (.int k a) (.int k b)=some (.bool (a==b)):=by simp[bK,ii]
theorem abc (k:IntKind)(a b:Int):eA (.int k a) (.int k b)=some (.bool (a != b)):=by simp[eA,ii]
theorem ae3 (k:IntKind)(a b:Int):ba (.int k a) (.int k b)=some (.bool (a<b)):=by simp[ba,ii]
theorem agu (k:IntKind)(a b:Int):qF (.int k a) (.int k b)=some (.bool (a<=b)):=by simp[qF,ii]
theorem akK (k:IntKind)(a b:Int):gF (.int k a) (.int k b)=some (.bool (b<a)):=by simp[gF,ii]
theorem SJ (k:IntKind)(a b:Int):lg (.int k a) (.int k b)=some (.bool (b<=a)):=by simp[lg,ii]
theorem aBJ (k:IntKind)(a b:Int)(h:b≠0):Gx (.int k a) (.int k b)=some (.int k (k.wrap (a.tdiv b))):=by simp[Gx,ii,h]
theorem aoW (k:IntKind)(a b:Int)(h:b≠0):wk (.int k a) (.int k b)=some (.int k (a.tmod b)):=by simp[wk,ii,h]
theorem apx (a b:List Nat):seq (.str a) (.str b)=some (.bool (a==b)):=abg rfl (id rfl)
theorem ahd (a b:List Nat):tW (.str a) (.str b)=some (.bool (!(a==b))):=abg rfl (id rfl)
theorem aoX (a b:List Nat):slt (.str a) (.str b)=some (.bool (tj a b)):=abg rfl (id rfl)
theorem AR {a b:List Nat}(h:a.length+b.length<=4294967296):uN (.str a) (.str b)=some (.str (a++b)):=by have:Nat.ble (a.length+b.length) 4294967296=true:=ae2.mpr h;simp[uN,ss,this]
theorem amY (s:List Nat):lens (.str s)=some (.int .i64 s.length):=abg rfl (id rfl)
theorem ajE:aE .ah=some (.int .i64 0):=abg rfl (id rfl)
theorem apv (i o n c:Nat)(x:Bool)(es:Nat):aE (.slice i o n c x es)=some (.int .i64 n):=abg rfl (id rfl)
theorem ajh (a b:Bool):bb .eql (.bool a) (.bool b)=some (.bool (a==b)):=abg rfl (id rfl)
theorem adK (a b:Bool):bb .neq (.bool a) (.bool b)=some (.bool (!(a==b))):=abg rfl (id rfl)
theorem YS (b:Bool):dR .not (.bool b)=some (.bool !b):=abg rfl (id rfl)
theorem ano (k j:IntKind)(n:Int):cv k (.int j n)=some (.int k (k.wrap n)):=abg rfl (id rfl)
theorem aif (H:Hp):pe .da .da H=some true:=abg rfl (id rfl)
theorem aiY (i o:Nat)(H:Hp):pe .da (.ptr i o) H=some false:=abg rfl (id rfl)
theorem aiS (i o:Nat)(H:Hp):pe (.ptr i o) .da H=some false:=abg rfl (id rfl)
theorem am6 (b:Bool):zT .eql (some b)=some (.bool b):=abg rfl (id rfl)
theorem agT (b:Bool):zT .neq (some b)=some (.bool !b):=abg rfl (id rfl)
theorem eG {a b:AV}{x:R}(h:same a b=true):SM a b x=x:=by simp[SM,h]
theorem wrap_i64 {a:Int}(h:-9223372036854775808<=a)(k:a<=9223372036854775807):IntKind.wrap .i64 a=a:=by simp only[IntKind.wrap,IntKind.bits,IntKind.signed];simp;omega
section
variable {H H' H'':Hp}{S S' k:List Nat}{T a c cap el es i o off:Nat}{e:ME}{l:List AV}{x:AV}
theorem DA {P:Program}{ext:Nat->Option Ext}{bH:Nat->Option Prim}{an:Nat->An}{aU:Nat}{p:Prim}{args:List AV}{r:AV×Hp}(hp:bH aU=some p)(h:p args H=some r):
  CK P (vU P) ext bH an (.func (.func aU) [] []) args H=some r:=by
 refine Y3 Qx ?_;unfold AB;simp only[hp,afP,acQ];exact h
def Cs (H:Hp)(i:Nat)(l:List AV)(el fl:Nat):Prop:=i<H.next/\∃c,H.h.get i=some (.cells c 0 l.length el fl)/\∀k v,l[k]?=some v->c.get k=some v
def Mp (H:Hp)(i:Nat)(es:List ME)(c:Nat):Prop:=i<H.next/\H.h.get i=some (.map es c)
def Out (S:List Nat)(H H':Hp):Prop:=H.next<=H'.next/\∀j,j<H.next->j∉S->H'.h.get j=H.h.get j
theorem Out.refl (S:List Nat)(H:Hp):Out S H H:=⟨aaO _,λ_ _ _=>rfl⟩
theorem Out.trans (h:Out S H H')(k:Out S H' H''):Out S H H'':=
 ⟨afz h.1 k.1,λj hj hs=>(k.2 j (adi hj h.1) hs).trans (h.2 j hj hs)⟩
theorem Out.mono (h:Out S H H')(k:∀j∈S,j∈S'):Out S' H H':=⟨h.1,λj hj hs=>h.2 j hj λq=>hs (k j q)⟩
theorem Out.then (h:Out S H H')(k:Out S' H' H'')(hs:∀j∈S',j∈S\/H.next<=j):Out S H H'':=
 ⟨afz h.1 k.1,λj hj hn=>(k.2 j (adi hj h.1) λq=>(hs j q).elim hn zzz).trans (h.2 j hj hn)⟩
theorem Cs.out {fl:Nat}(h:Cs H i l el fl)(k:Out S H H')(hi:i∉S):Cs H' i l el fl:=
 ⟨adi h.1 k.1,by rw[k.2 i h.1 hi];exact h.2⟩
theorem Mp.out {es:List ME}(h:Mp H i es c)(k:Out S H H')(hi:i∉S):Mp H' i es c:=
 ⟨adi h.1 k.1,by rw[k.2 i h.1 hi];exact h.2⟩
theorem Cs.cellAt {H:Hp}{i:Nat}{l:List AV}{el fl:Nat}(h:Cs H i l el fl){o:Nat}{v:AV}(hv:l[o]?=some v):cellAt H i o=some v:=by
 obtain⟨_,c,hc,hg⟩:=h;have ho:o<l.length:=(aag.1 hv).1;unfold Am.cellAt;rw[hc];have hb:(Nat.ble 0 o&&Nat.blt o l.length)=true:=by rw[aaM,ae2,adW];omega
 simp only[hb,cond_true];exact hg o v hv
theorem Cs.ld {H:Hp}{i:Nat}{l:List AV}{el fl:Nat}(h:Cs H i l el fl){o:Nat}{v:AV}(hv:l[o]?=some v):ld (.ptr i o) H=some v:=h.cellAt hv
theorem Cs.av {H:Hp}{i:Nat}{l:List AV}{el fl:Nat}(h:Cs H i l el fl):∀(n o:Nat),o+n<=l.length->av H i o n=some ((l.drop o).take n)
 |0,o,_=>by simp[Am.av]
 |n+1,o,hn=>by have ho:o<l.length:=zzz;have h1:=h.cellAt (o:=o) (v:=l[o]) (aaC ho);have h2:=h.av n (o+1) zzz;unfold Am.av;rw[h1,h2,aiB ho];rfl
theorem S8 (H:Hp)(i j:Nat)(o:AO):(setObj H i o).h.get j=if j=i then some o else H.h.get j:=Tr.gL _ _ _ _
theorem WO {fl:Nat}(h:Cs H i l el fl)(hf:fl<=1)(ho:o<l.length){v:AV}(hv:aZ v=true):
  ∃H',setCell H i o v=some H'/\Cs H' i (l.set o v) el fl/\Out [i] H H'/\H'.next=H.next:=by
 obtain⟨hi,c,hc,hg⟩:=h;have hs:(c.get o).isSome=true:=by rw[hg o l[o] (aaC ho)];rfl
 have hb:(Nat.ble 0 o&&Nat.blt o l.length&&Nat.ble fl 1&&(c.get o).isSome&&aZ v)=true:=by simp only[aaM,ae2,adW];exact⟨⟨⟨⟨zzz,ho⟩,hf⟩,hs⟩,hv⟩
 refine⟨{H with h:=H.h.cW i (.cells (c.cW o v) 0 l.length el fl)},?_,⟨hi,c.cW o v,?_,?_⟩,⟨aaO _,?_⟩,rfl⟩;·unfold setCell;rw[hc];simp only[hb,cond_true]
 ·show (Tr.cW H.h i _).get i=_;rw[Tr.cW,Tr.gL,zz2 rfl,acV]
 ·intro k u hk;rw[Tr.cW,Tr.gL];by_cases hko:k=o;·subst hko;rw[aeH zzz] at hk;rw[zz2 rfl];exact hk
  ·rw[ajA (λq=>hko q.symm)] at hk;rw[zz1 hko];exact hg k u hk
 ·intro j hj hn;show (Tr.cW H.h i _).get j=_;rw[Tr.cW,Tr.gL,zz1 (by simpa using hn)]
theorem ff {fl:Nat}(h:Cs H i l el fl)(hf:fl<=1)(ho:o<l.length){v:AV}(hv:aZ v=true):
  ∃H',st 1 (.ptr i o) v H=some H'/\Cs H' i (l.set o v) el fl/\Out [i] H H'/\H'.next=H.next:=by
 obtain⟨H',h1,h2,h3,h4⟩:=WO h hf ho hv;refine⟨H',?_,h2,h3,h4⟩;have hc:uu v=some [v]:=by cases v<;>first|rfl|cases hv
 unfold st;simp only[hc];show setCells H i o [v]=_;simp only[setCells,h1,abY,acf]
theorem agp (H:Hp)(l:List AV)(el fl:Nat)(hl:l.length<=16777216):∃H',az H l el fl=some (H.next,H')/\Cs H' H.next l el fl/\Out [] H H'/\H'.next=H.next+1:=by
 refine⟨⟨H.h.put 34 H.next (.cells (Tr.cl .nil 0 l) 0 l.length el fl),H.next+1⟩,?_,⟨ahA _,Tr.cl .nil 0 l,?_,?_⟩,⟨agN _,?_⟩,rfl⟩;·unfold az alloc;have:Nat.ble l.length 16777216=true:=ae2.mpr hl;rw[this];rfl
 ·show (Tr.put 34 H.h H.next _).get H.next=_;rw[Tr.put,Tr.gL,zz2 rfl]
 ·intro k v hk;rw[C9];have:=(aag.1 hk).1;rw[zz2 zzz];exact hk
 ·intro j hj _;show (Tr.put 34 H.h H.next _).get j=_;rw[Tr.put,Tr.gL,zz1 zzz]
theorem Uo (H:Hp):∃H',BV H=some (H.next,H')/\Mp H' H.next [] 0/\Out [] H H'/\H'.next=H.next+1:=by
 refine⟨⟨H.h.put 34 H.next (.map [] 0),H.next+1⟩,rfl,⟨ahA _,?_⟩,⟨agN _,?_⟩,rfl⟩;·show (Tr.put 34 H.h H.next _).get H.next=_;rw[Tr.put,Tr.gL,zz2 rfl]
 ·intro j hj _;show (Tr.put 34 H.h H.next _).get j=_;rw[Tr.put,Tr.gL,zz1 zzz]
def Ro (H:Hp)(i off:Nat)(l:List AV):Prop:=i<H.next/\∃c lo hi el fl,H.h.get i=some (.cells c lo hi el fl)/\lo<=off/\off+l.length<=hi/\∀k v,l[k]?=some v->c.get (off+k)=some v
theorem Cs.ro {fl:Nat}(h:Cs H i l el fl):Ro H i 0 l:=by obtain⟨hi,c,hc,hg⟩:=h;exact⟨hi,c,0,l.length,el,fl,hc,aaO _,zzz,λk v hk=>by rw[ade];exact hg k v hk⟩
theorem Ro.out (h:Ro H i off l)(k:Out S H H')(hi:i∉S):Ro H' i off l:=
 ⟨adi h.1 k.1,by rw[k.2 i h.1 hi];exact h.2⟩
theorem Ro.cellAt {H:Hp}{i off:Nat}{l:List AV}(h:Ro H i off l){k:Nat}{v:AV}(hv:l[k]?=some v):cellAt H i (off+k)=some v:=by
 obtain⟨_,c,lo,hi,el,fl,hc,h1,h2,hg⟩:=h;have hk:k<l.length:=(aag.1 hv).1;unfold Am.cellAt;rw[hc];have hb:(Nat.ble lo (off+k)&&Nat.blt (off+k) hi)=true:=by rw[aaM,ae2,adW];omega
 simp only[hb,cond_true];exact hg k v hv
theorem Ro.ld {H:Hp}{i off:Nat}{l:List AV}(h:Ro H i off l){k:Nat}{v:AV}(hv:l[k]?=some v):ld (.ptr i (off+k)) H=some v:=h.cellAt hv
theorem Ro.drop (h:Ro H i off l)(n:Nat)(hn:n<=l.length):Ro H i (off+n) (l.drop n):=by obtain⟨hi,c,lo,ka,el,fl,hc,h1,h2,hg⟩:=h;refine⟨hi,c,lo,ka,el,fl,hc,zzz,by rw[aeF];omega,λk v hk=>?_⟩;rw[agr] at hk;rw[ak2];exact hg _ v hk
theorem Ro.take (h:Ro H i off l)(n:Nat):Ro H i off (l.take n):=by
 obtain⟨hi,c,lo,ka,el,fl,hc,h1,h2,hg⟩:=h;refine⟨hi,c,lo,ka,el,fl,hc,h1,by rw[ad8];omega,λk v hk=>?_⟩;rw[ajz] at hk;split at hk;·exact hg _ v hk
 ·cases hk
theorem Ro.av:∀{l:List AV} {off:Nat},Ro H i off l->Am.av H i off l.length=some l
 |[],off,_=>rfl|v::l,off,h=>by have h1:=h.cellAt (k:=0) (v:=v) rfl;have h2:=(h.drop 1 zzy).av;simp only[List.drop_succ_cons,aaY] at h2;rw[aed] at h1;rw[aaP];unfold Am.av;rw[h1,h2];rfl
def ak:AV->List Nat
 |.slice i _ _ cap ex _=>bif ex&&Nat.beq cap 0 then [] else [i]
 |.ptr i _=>[i]|.map i=>[i]|_=>[]
theorem pK {n:Nat}{ex:Bool}(h:(ex&&Nat.beq cap 0)=false):ak (.slice i o n cap ex es)=[i]:=by simp only[ak,h,cond_false]
inductive Rw (H:Hp) (es:Nat):AV->List AV->Prop
 |nil:Rw H es .ah []
 |emp {i off:Nat}:Rw H es (.slice i off 0 0 true es) []
 |mk {i off n cap:Nat} {ex:Bool} {l:List AV} (h:Ro H i off l) (hn:l.length=n*es) (hc:n<=cap) (he:(ex&&Nat.beq cap 0)=false):Rw H es (.slice i off n cap ex es) l
theorem Rw.out (h:Rw H es x l)(k:Out S H H')(hi:∀j∈ak x,j∉S):Rw H' es x l:=by
 cases h with
 |nil=>exact .nil|emp=>exact .emp|mk h hn hc he=>exact .mk (h.out k (hi _ (by rw[pK he];exact .head _))) hn hc he
theorem Rw.lt (h:Rw H es x l):∀j∈ak x,j<H.next:=by
 cases h with
 |nil=>intro j hj;cases hj
 |emp=>intro j hj;cases hj
 |mk h hn hc he=>intro j hj;rw[pK he,No] at hj;subst hj;exact h.1
theorem Rw.len (h:Rw H es x l):∃n:Nat,aE x=some (.int .i64 n)/\l.length=n*es:=by
 cases h with
 |nil=>exact⟨0,rfl,zzy⟩|emp=>exact⟨0,rfl,zzy⟩|mk h hn hc he=>exact⟨_,rfl,hn⟩
theorem Rw.gu (h:Rw H 1 x l):aE x=some (.int .i64 l.length):=by obtain⟨n,h1,h2⟩:=h.len;rw[h1,h2,adM]
inductive Ow (H:Hp) (el es:Nat):AV->List AV->Prop
 |nil:Ow H el es .ah []
 |emp {i off:Nat}:Ow H el es (.slice i off 0 0 true es) []
 |mk {i off n cap:Nat} {ex:Bool} {l:List AV} {c:Tr AV} {lo hi fl:Nat} (ka:i<H.next) (hg:H.h.get i=some (.cells c lo hi el fl)) (hf:fl<=1) (iK:lo<=off) (lK:off+cap*es<=hi) (jC:n<=cap) (hn:l.length=n*es)
   (hc:∀k v,l[k]?=some v->c.get (off+k)=some v) (hs:∀k,k<cap*es->(c.get (off+k)).isSome=true) (h1:∀v∈l,aZ v=true) (he:(ex&&Nat.beq cap 0)=false):Ow H el es (.slice i off n cap ex es) l
theorem Ow.rw {H:Hp}{el es:Nat}{x:AV}{l:List AV}(h:Ow H el es x l):Rw H es x l:=by
 cases h with
 |nil=>exact .nil|emp=>exact .emp|@mk i off n cap ex l c lo hi fl ka hg hf iK lK jC hn hc hs h1 he=>
  exact .mk ⟨ka,c,lo,hi,el,fl,hg,iK,by rw[hn];exact afz (Nat.add_le_add_left (ad4 _ jC) _) lK,hc⟩ hn jC he
theorem Ow.out (h:Ow H el es x l)(k:Out S H H')(hi:∀j∈ak x,j∉S):Ow H' el es x l:=by
 cases h with
 |nil=>exact .nil|emp=>exact .emp|mk ka hg hf iK lK jC hn hc hs h1 he=>exact .mk (adi ka k.1) (by rw[k.2 _ ka (hi _ (by rw[pK he];exact .head _))];exact hg) hf iK lK jC hn hc hs h1 he
theorem Ow.one (h:Ow H el es x l):∀v∈l,aZ v=true:=by
 cases h with
 |nil=>intro v hv;cases hv
 |emp=>intro v hv;cases hv
 |mk _ _ _ _ _ _ _ _ _ h1 _=>exact h1
theorem Cs.ow {n:Nat}{fl:Nat}(h:Cs H i l el fl)(hf:fl<=1)(hn:l.length=n*es)(h1:∀v∈l,aZ v=true)(ex:Bool):Ow H el es (.slice i 0 n n ex es) l:=by
 cases hex:(ex&&Nat.beq n 0) with
 |true=>
  rw[aaM] at hex;obtain⟨rfl,nU⟩:=hex;obtain rfl:=aa9 nU;have:l=[]:=by simpa using hn
  subst this;exact .emp
 |false=>
 obtain⟨hi,c,hc,hg⟩:=h;refine .mk hi hc hf (aaO _) zzz (aaO _) hn (λk v hk=>by rw[ade];exact hg k v hk) (λk hk=>?_) h1 hex;rw[ade,hg k l[k] (aaC zzz)];rfl
theorem Sd:∀(l:List AV) (H:Hp) (i off:Nat) (c:Tr AV) (lo hi el fl:Nat),H.h.get i=some (.cells c lo hi el fl)->fl<=1->lo<=off->off+l.length<=hi->(∀k,k<l.length->(c.get (off+k)).isSome=true)->(∀v∈l,aZ v=true)->
  ∃H' c',setCells H i off l=some H'/\H'.next=H.next/\H'.h.get i=some (.cells c' lo hi el fl)/\(∀j,j≠i->H'.h.get j=H.h.get j)/\∀k,c'.get k=if off<=k/\k<off+l.length then l[k-off]? else c.get k
 |[],H,i,off,c,lo,hi,el,fl,hg,hf,h1,h2,hs,ho=>⟨H,c,rfl,rfl,hg,λ_ _=>rfl,λk=>by rw[zz1 (by simp only[ach];omega)]⟩|v::l,H,i,off,c,lo,hi,el,fl,hg,hf,h1,h2,hs,ho=>by
  simp only[aaP] at h2;have yx:=hs 0 zzy;rw[aed] at yx;have hb:(Nat.ble lo off&&Nat.blt off hi&&Nat.ble fl 1&&(c.get off).isSome&&aZ v)=true:=by simp only[aaM,ae2,adW];exact⟨⟨⟨⟨h1,zzz⟩,hf⟩,yx⟩,ho v (.head _)⟩
  have fY:setCell H i off v=some {H with h:=H.h.cW i (.cells (c.cW off v) lo hi el fl)}:=by unfold setCell;rw[hg];simp only[hb,cond_true]
  obtain⟨H',c',q1,q2,q3,q4,q5⟩:=Sd l {H with h:=H.h.cW i (.cells (c.cW off v) lo hi el fl)} i (off+1) (c.cW off v) lo hi el fl (by
    show (Tr.cW H.h i _).get i=_;rw[Tr.cW,Tr.gL,zz2 rfl]) hf zzz zzz (λk hk=>by
    rw[Tr.cW,Tr.gL];split;·rfl
    ·have:=hs (k+1) (by simp;omega);rw[show off+1+k=off+(k+1) by omega];exact this) (λu hu=>ho u (.tail _ hu))
  refine⟨H',c',?_,q2,q3,λj hj=>?_,λk=>?_⟩;·simp only[setCells,fY,abY,acf];exact q1
  ·rw[q4 j hj];show (Tr.cW H.h i _).get j=_;rw[Tr.cW,Tr.gL,zz1 hj]
  ·rw[q5 k,Tr.cW,Tr.gL];by_cases hk:k=off;·subst hk;rw[zz1 zzz,zz2 rfl,zz2 zzy,ajQ];rfl
   ·rw[zz1 hk];by_cases iu:off+1<=k/\k<off+1+l.length;·rw[zz2 iu,zz2 (by simp;omega),show k-off=(k-(off+1))+1 by omega,acJ]
    ·rw[zz1 iu,zz1 (by simp;omega)]
theorem N0 {n:Nat}{s:AV}{new:List AV}(h:Ow H el es s l)(uC:new.length=n*es)(ho:∀v∈new,aZ v=true)(ef:0<es)(hlen:l.length+new.length<=16777216):
  ∃s' H',Il el es n new s H=some (s',H')/\Ow H' el es s' (l++new)/\Out (ak s) H H'/\(∀j∈ak s',j∈ak s\/H.next<=j):=by
 have mP:∀v∈l++new,aZ v=true:=λv hv=>(aa2.1 hv).elim (h.one v) (ho v);have apj:∀s0:List Nat,n≠0->l=[]->∃H',az H new el 0=some (H.next,H')/\Ow H' el es (.slice H.next 0 n n false es) (l++new)/\Out s0 H H'/\(∀j∈ak (.slice H.next 0 n n false es),j∈s0\/H.next<=j):=by intro s0 hn hl;subst hl;obtain⟨H',h1,h2,h3,h4⟩:=agp H new el 0 (by simp only[ach] at hlen;omega);refine⟨H',h1,h2.ow zzz uC ho false,h3.mono (λj hj=>by cases hj),λj hj=>?_⟩;simp only[ak,acw,cond_false,No] at hj;exact .inr zzz
 cases h with
 |nil=>
  unfold Il;simp only;by_cases hn:n=0
  ·subst hn;have:new=[]:=by simpa using uC
   subst this;exact⟨.ah,H,rfl,.nil,Out.refl _ _,λj hj=>by cases hj⟩
  ·rw[rm hn,cond_false];have hle:n<=16777216:=by have:=Nat.le_mul_of_pos_right n ef;simp only[ach] at hlen;omega
   have hb:Nat.ble n 16777216=true:=ae2.mpr hle;rw[hb,cond_true];obtain⟨H',h1,h2⟩:=apj [] hn rfl;exact⟨_,H',by rw[h1];rfl,h2⟩
 |@emp i off=>
  unfold Il;have hle:n<=16777216:=by have:=Nat.le_mul_of_pos_right n ef;simp only[ach] at hlen;omega
  have hb:(Nat.ble (0+n) 16777216&&Nat.beq es es&&new.all aZ)=true:=by simp only[aaM,ae2,Ab,acT];exact⟨⟨zzz,trivial⟩,ho⟩
  simp only[hb,cond_true];by_cases hn:n=0
  ·subst hn;have:new=[]:=by simpa using uC
   subst this;exact⟨.slice i off 0 0 true es,H,rfl,.emp,Out.refl _ _,λj hj=>by cases hj⟩
  ·have jQ:Nat.ble (0+n) 0=false:=by rw[<-ahM,ae2];omega
   rw[jQ,cond_false];obtain⟨H',h1,h2⟩:=apj (ak (.slice i off 0 0 true es)) hn rfl;refine⟨.slice H.next 0 n n false es,H',?_,h2⟩;simp only[ag0,Am.av,acf,afP,h1,adX,ade]
 |@mk i off m cap ex l c lo hi fl ka hg hf iK lK jC hn hc hs h1 he=>
  unfold Il;have mf:n<=new.length:=by rw[uC];exact Nat.le_mul_of_pos_right n ef
  have IB:m<=l.length:=by rw[hn];exact Nat.le_mul_of_pos_right m ef
  have hb:(Nat.ble (m+n) 16777216&&Nat.beq es es&&new.all aZ)=true:=by simp only[aaM,ae2,Ab,acT];exact⟨⟨zzz,trivial⟩,ho⟩
  simp only[hb,cond_true];have mu:(l++new).length=(m+n)*es:=by rw[aal,hn,uC,afs]
  by_cases acG:m+n<=cap
  ·have jQ:Nat.ble (m+n) cap=true:=ae2.mpr acG;rw[jQ,cond_true];have hr:(m+n)*es<=cap*es:=ad4 _ acG;rw[afs] at hr;obtain⟨H',c',q1,q2,q3,q4,q5⟩:=Sd new H i (off+m*es) c lo hi el fl hg hf zzz (by rw[uC];omega) (λk hk=>by rw[ak2];exact hs _ (by rw[uC] at hk;omega)) ho;refine⟨_,H',by rw[q1];rfl,.mk (by rw[q2];exact ka) q3 hf iK lK acG mu (λk v hk=>?_) (λk hk=>?_) mP he,⟨by rw[q2];exact aaO _,λj hj En=>q4 j (by rw[pK he] at En;simpa using En)⟩,λj hj=>.inl (by rw[pK he] at hj⊢;exact hj)⟩
   ·rw[q5];by_cases kN:k<l.length;·rw[zz1 zzz,hc k v (by rw[abd kN] at hk;exact hk)]
    ·rw[abk zzz] at hk;have:=(aag.1 hk).1;rw[zz2 zzz,<-hk];congr 1;omega
   ·rw[q5];split;·rename_i hq;rw[aaC zzz];rfl
    ·exact hs k hk
  ·have jQ:Nat.ble (m+n) cap=false:=by rw[<-ahM,ae2];omega
   rw[jQ,cond_false];cases ex with
   |true=>
    simp only[cond_true];have Mg:Ro H i off l:=⟨ka,c,lo,hi,el,fl,hg,iK,by rw[hn];exact afz (Nat.add_le_add_left (ad4 _ jC) _) lK,hc⟩;have B9:=Mg.av;rw[hn] at B9;rw[B9];obtain⟨H',r1,r2,r3,r4⟩:=agp H (l++new) el 0 (by rw[aal];omega);refine⟨_,H',by simp only[acf];rw[r1];rfl,r2.ow zzz mu mP false,r3.mono (λj hj=>by cases hj),λj hj=>?_⟩;simp only[ak,acw,cond_false,No] at hj;exact .inr zzz
   |false=>
    simp only[cond_false,hg];have hr:m*es<=cap*es:=ad4 _ jC;have xQ:(Nat.ble fl 1&&Nat.ble lo off&&Nat.ble (off+m*es) hi&&Nat.beq el el)=true:=by simp only[aaM,ae2,Ab];exact⟨⟨⟨hf,iK⟩,zzz⟩,trivial⟩
    rw[xQ,cond_true];refine⟨_,_,rfl,.mk (c:=c.cl (off+m*es) new) (lo:=off) (hi:=off+(m+n)*es) (fl:=1) ?_ ?_ zzz (aaO _) (aaO _) (aaO _) mu (λk v hk=>?_) (λk hk=>?_) mP rfl,⟨?_,λj hj En=>?_⟩,λj hj=>?_⟩;·exact ahA _
    ·show (Tr.put 34 (H.h.del i) H.next _).get H.next=_;rw[Tr.put,Tr.gL,zz2 rfl]
    ·rw[Tr.zj];by_cases kN:k<l.length;·rw[zz1 zzz,hc k v (by rw[abd kN] at hk;exact hk)]
     ·rw[abk zzz] at hk;have:=(aag.1 hk).1;rw[zz2 zzz,<-hk];congr 1;omega
    ·rw[Tr.zj];rw[afs] at hk;split;·rename_i hq;rw[aaC zzz];rfl
     ·exact hs k zzz
    ·exact agN _
    ·show (Tr.put 34 (H.h.del i) H.next _).get j=_;rw[Tr.put,Tr.gL,zz1 zzz,Tr.aa4,zz1 (by rw[pK he] at En;simpa using En)]
    ·simp only[ak,acw,cond_false,No] at hj;subst hj;exact .inr (aaO _)
theorem ao8 {z:List AV}{s:AV}{new:List AV}(h:Ow H el es s l)(hx:Rw H es x new)(ho:∀v∈new,aZ v=true)(ef:0<es)(hlen:l.length+new.length<=16777216):
  ∃s' H',cL el es z false s x H=some (s',H')/\Ow H' el es s' (l++new)/\Out (ak s) H H'/\(∀j∈ak s',j∈ak s\/H.next<=j):=by
 cases hx with
 |nil=>
  obtain⟨s',H',h1,h2⟩:=N0 (n:=0) (new:=[]) h zzy ho ef hlen;exact⟨s',H',h1,h2⟩
 |@emp i off=>
  obtain⟨s',H',h1,h2⟩:=N0 (n:=0) (new:=[]) h zzy ho ef hlen;refine⟨s',H',?_,h2⟩;have:BZ es z false (.slice i off 0 0 true es) H=some (0,[]):=by show (Am.av H i off (0*es)).map (λl=>(0,l))=_;rw[ag0];rfl
  unfold cL;rw[this];exact h1
 |@mk i off n cap ex l' hr hn hc he=>
  obtain⟨s',H',h1,h2⟩:=N0 h hn ho ef hlen;refine⟨s',H',?_,h2⟩;have:BZ es z false (.slice i off n cap ex es) H=some (n,new):=by show (Am.av H i off (n*es)).map (λl=>(n,l))=_;rw[<-hn,hr.av];rfl
  unfold cL;rw[this];exact h1
def bs (l:List Nat):List AV:=l.map λ(b:Nat)=>AV.int .u8 b
theorem ak4 (l:List Nat):∀v∈bs l,aZ v=true:=by intro v hv;obtain⟨b,_,rfl⟩:=abT.1 hv;rfl
theorem jY (l:List Nat):(bs l).length=l.length:=by simp[bs]
theorem Tz (a b:List Nat):bs (a++b)=bs a++bs b:=by simp[bs]
theorem ab2:∀(l:List Nat),(∀b∈l,b<256)->ze (bs l)=some l
 |[],_=>rfl|b::l,h=>by
  have h1:=ab2 l (λx hx=>h x (.tail _ hx));have h2:=h b (.head _);have h3:(decide (0<=(b:Int))&&decide ((b:Int)<256))=true:=by simp;omega
  show ze (AV.int .u8 (b:Int)::bs l)=_;unfold ze;rw[h3,h1];simp
theorem MI {l:List Nat}(h:Rw H 1 x (bs l))(hl:∀b∈l,b<256):Cc x H=some (.str l):=by
 generalize kM:bs l=cs at h;cases h with
 |nil=>
  have:l=[]:=by simpa[bs] using kM
  subst this;rfl
 |@emp i off=>
  have:l=[]:=by simpa[bs] using kM
  subst this;rfl
 |@mk i off n cap ex l' hr hn hc he=>
  rw[adM] at hn;unfold Cc;simp only;by_cases h0:n=0
  ·subst h0;have:l=[]:=by subst kM;simpa[bs] using hn
   subst this;rfl
  ·rw[rm h0,cond_false,<-hn,hr.av,<-kM];simp only[acf,ab2 l hl];rfl
theorem QV {k:IntKind}{n lo hi:Nat}(h1:lo<=n)(h2:n<=hi):bound lo hi (.int k n)=some n:=by
 unfold bound;have:(decide ((lo:Int)<=(n:Int))&&decide ((n:Int)<=(hi:Int)))=true:=by simp;omega
 simp only[this,if_true,abI]
def Bd (o:Option AV)(n as4:Nat):Prop:=(o=none/\n=as4)\/∃k,o=some (.int k n)
theorem Bd.no (n:Nat):Bd none n n:=.inl ⟨rfl,rfl⟩
theorem Bd.yes (k:IntKind)(n d:Nat):Bd (some (.int k n)) n d:=.inr ⟨k,rfl⟩
theorem Bd.aF1 (k:IntKind)(d:Nat):Bd (some (.int k 0)) 0 d:=.inr ⟨k,rfl⟩
theorem D9 {len b:Nat}{lo hi:Option AV}(AG:a<=b)(hb:b<=len)(hc:len<=cap)(iK:Bd lo a 0)(lK:Bd hi b len):uJ len cap lo hi none=some (a,b,cap):=by
 unfold uJ;rcases lK with⟨rfl,rfl⟩|⟨k,rfl⟩<;>rcases iK with⟨rfl,rfl⟩|⟨j,rfl⟩;·rfl
 ·simp only[abY,acf,QV (aa7 _) AG];rfl
 ·simp only[abY,acf,QV (aa7 _) (afz hb hc)];rfl
 ·simp only[abY,acf,QV (aa7 _) (afz hb hc),QV (aa7 _) AG];rfl
theorem yD {n b:Nat}(h:Rw H es x l)(hl:l.length=n*es)(ef:0<es){lo hi:Option AV}(AG:a<=b)(hb:b<=n)(iK:Bd lo a 0)(lK:Bd hi b n):
  ∃x',nK es x lo hi none=some x'/\Rw H es x' ((l.drop (a*es)).take ((b-a)*es))/\∀j∈ak x',j∈ak x:=by
 cases h with
 |nil=>
  have hn:n=0:=by simp only[ach] at hl;rcases Nat.mul_eq_zero.1 hl.symm with q|q<;>omega
  subst hn;have jr:b=0:=zzz;have ha0:a=0:=zzz;subst jr;subst ha0;refine⟨.ah,?_,by simpa using Rw.nil,λj hj=>hj⟩;unfold nK;simp only[D9 (aaO 0) (aaO 0) (aaO 0) iK lK];rfl
 |@emp i off=>
  have hn:n=0:=by simp only[ach] at hl;rcases Nat.mul_eq_zero.1 hl.symm with q|q<;>omega
  subst hn;have jr:b=0:=zzz;have ha0:a=0:=zzz;subst jr;subst ha0;refine⟨.slice i (off+0*es) 0 0 true es,?_,by simpa using Rw.emp,λj hj=>by cases hj⟩;unfold nK;simp only[D9 (aaO 0) (aaO 0) (aaO 0) iK lK];simp
 |@mk i off m cap ex l hr hn hc he=>
  have hm:m=n:=Nat.eq_of_mul_eq_mul_right ef (hn.symm.trans hl);subst hm;refine⟨.slice i (off+a*es) (b-a) (cap-a) ex es,?_,?_,?_⟩;·unfold nK;simp only[D9 AG hb hc iK lK,acf];simp
  ·cases hq:(ex&&Nat.beq (cap-a) 0) with
   |true=>
    rw[aaM] at hq;obtain⟨rfl,h0⟩:=hq;have h0:=aa9 h0;have hba:b-a=0:=zzz;rw[h0,hba,ag0,akA];exact .emp
   |false=>
    have h1:a*es<=l.length:=by rw[hl];exact ad4 _ zzz
    refine .mk ((hr.drop (a*es) h1).take _) ?_ zzz hq;rw[ad8,aeF,hl,<-Nat.sub_mul];exact amV (ad4 _ zzz)
  ·intro j hj;rw[pK he];simp only[ak] at hj;cases hq:(ex&&Nat.beq (cap-a) 0)<;>rw[hq] at hj;·exact hj
   ·cases hj
theorem acW {k:List Nat}:∀(es:List ME) (i:Nat),(∀e∈es,∃q,e.key=.str q/\q≠k)->fk .str (.str k) es i=some none
 |[],i,_=>rfl|e::es,i,h=>by
  obtain⟨q,h1,h2⟩:=h e (.head _);have:Cq .str (.str k) e.key=some false:=by rw[h1];show some (k==q)=some false;rw[zz7 (λx=>h2 x.symm)]
  unfold fk;rw[this];exact acW es (i+1) (λe he=>h e (.tail _ he))
theorem api {k:List Nat}:∀es:List ME,(∀e∈es,∃q,e.key=.str q/\q≠k)->nk .str (.str k) es=true
 |[],h=>rfl|e::es,h=>by
  obtain⟨q,h1,h2⟩:=h e (.head _);have:Cq .str (.str k) e.key=some false:=by rw[h1];show some (k==q)=some false;rw[zz7 (λx=>h2 x.symm)]
  unfold nk;rw[this];exact api es (λe he=>h e (.tail _ he))
theorem ack {k:List Nat}{e:ME}{b:List ME}(hk:e.key=.str k)(hb:∀e∈b,∃q,e.key=.str q/\q≠k):∀(a:List ME) (i:Nat),(∀e∈a,∃q,e.key=.str q/\q≠k)->fk .str (.str k) (a++e::b) i=some (some (i+a.length,e))
 |[],i,_=>by
  have:Cq .str (.str k) e.key=some true:=by rw[hk];show some (k==k)=some true;rw[beq_self_eq_true]
  show fk .str (.str k) (e::b) i=_;unfold fk;rw[this,api b hb];rfl
 |x::a,i,h=>by
  obtain⟨q,h1,h2⟩:=h x (.head _);have:Cq .str (.str k) x.key=some false:=by rw[h1];show some (k==q)=some false;rw[zz7 (λx=>h2 x.symm)]
  show fk .str (.str k) (x::(a++e::b)) i=_;unfold fk;rw[this];simp only;rw[ack hk hb a (i+1) (λe he=>h e (.tail _ he)),aaP];congr 3;omega
theorem KH {es:List ME}(h:Mp H i es c):mapOf H (.map i)=some (es,c):=by unfold mapOf;simp only[h.2]
theorem ado {es:List ME}(h:Mp H i es c)(hk:∀e∈es,∃q,e.key=.str q/\q≠k)(z:AV)(ok:Bool):tv .str z ok (.map i) (.str k) H=some (bif ok then .tuple [z,.bool false] else z):=by unfold tv;rw[KH h];simp only[acW es 0 hk]
theorem ajH {a b:List ME}(h:Mp H i (a++e::b) c)(he:e.key=.str k)(hk:∀e∈a,∃q,e.key=.str q/\q≠k)(hb:∀e∈b,∃q,e.key=.str q/\q≠k)(z:AV)(ok:Bool):
  tv .str z ok (.map i) (.str k) H=some (bif ok then .tuple [e.val,.bool true] else e.val):=by
 unfold tv;rw[KH h];simp only[ack he hb a 0 hk]
theorem Mp.set {es:List ME}(h:Mp H i es c)(es':List ME)(c':Nat):Mp (setObj H i (.map es' c')) i es' c'/\Out [i] H (setObj H i (.map es' c')):=
 ⟨⟨h.1,by rw[S8,zz2 rfl]⟩,aaO _,λj _ hn=>by rw[S8,zz1 (by simpa using hn)]⟩
theorem amm {es:List ME}(h:Mp H i es c)(hk:∀e∈es,∃q,e.key=.str q/\q≠k)(v:AV):
  ∃H',zg .str (.map i) (.str k) v H=some H'/\Mp H' i (es++[⟨.str k,v,c⟩]) (c+1)/\Out [i] H H':=by
 refine⟨_,?_,h.set _ _⟩;unfold zg;simp only[h.2,acW es 0 hk]
theorem awE {a b:List ME}(h:Mp H i (a++e::b) c)(he:e.key=.str k)(hk:∀e∈a,∃q,e.key=.str q/\q≠k)(hb:∀e∈b,∃q,e.key=.str q/\q≠k)(v:AV):
  ∃H',zg .str (.map i) (.str k) v H=some H'/\Mp H' i (a++{e with key:=.str k,val:=v}::b) c/\Out [i] H H':=by
 refine⟨_,?_,h.set _ _⟩;unfold zg;have hs:HJ e.key (.str k)=true:=by rw[he];simp[HJ,M0]
 simp only[h.2,ack he hb a 0 hk,hs,cond_true];simp
theorem DL {n:Nat}{ex:Bool}{k:IntKind}{j:Nat}(h:j<n):ia es (.slice i off n cap ex es) (.int k j)=some (.ptr i (off+j*es)):=by unfold ia;simp only;rw[zz2 ⟨trivial,zzz,zzz⟩,abI]
theorem oM (x:R):yr true x=x:=abg rfl (id rfl)
theorem pz (z:List AV):fl z []=some z:=abg rfl (id rfl)
theorem KV {P:Program}(hT:P.underlying T=some (.slice el))(H:Hp):gi P .eql T .ah .ah H=some (.bool true):=by unfold gi eO;simp only[hT];rfl
theorem Mo {P:Program}(hT:P.underlying T=some (.slice el))(i o n c:Nat)(ex:Bool)(es:Nat)(H:Hp):gi P .eql T (.slice i o n c ex es) .ah H=some (.bool false):=by unfold gi eO;simp only[hT];rfl
theorem OV (P:Program)(T:Nat)(c:Bool):gA P .eql T c .ah .ah=true:=abg rfl (id rfl)
theorem N5 (P:Program)(T:Nat)(c:Bool)(i o n k:Nat)(ex:Bool)(es:Nat):gA P .eql T c (.slice i o n k ex es) .ah=true:=abg rfl (id rfl)
theorem axj (P:Program)(t:Array TypeId)(k j:IntKind)(a b:Int)(H:Hp):jh P .max t [.int k a,.int j b] H=some (.int k (if a<b then b else a),H):=abg rfl (id rfl)
theorem Me (P:Program)(t:Array TypeId)(k j:IntKind)(a b:Int)(H:Hp):jh P .min t [.int k a,.int j b] H=some (.int k (if b<a then b else a),H):=abg rfl (id rfl)
theorem Rw.fW (h:Rw H 1 x l){v:AV}(hv:l[i]?=some v)(k:IntKind):∃q,ia 1 x (.int k i)=some q/\ld q H=some v:=by
 cases h with
 |nil=>cases hv
 |emp=>cases hv
 |@mk j off n cap ex l hr hn hc he=>
  have hi:=(aag.1 hv).1;refine⟨.ptr j (off+i),?_,hr.ld hv⟩;have mV:i<n:=zzz;rw[DL mV,adM]
end
end K
end Go.Proofs.YtodfajmihkagnaaGreatDoor.Am
