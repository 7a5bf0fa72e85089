/- Laws that the proof uses. -/
import Derived.Test.YtodfajmihkagnaaGreatDoorAm12
set_option linter.unusedVariables false
set_option linter.unusedSimpArgs false
namespace Go.Proofs.YtodfajmihkagnaaGreatDoor.Am
namespace K
section
variable {α:Type}
theorem agt (v:α)(k:α->R):B1 (some v) k=k v:=abk rfl (id rfl)
theorem af3 (v:AV)(H:Hp)(k:AV->Hp->R):B2 (some (v,H)) k=k v H:=abk rfl (id rfl)
theorem ahN (v:Nat)(H:Hp)(k:Nat->Hp->R):BN (some (v,H)) k=k v H:=abk rfl (id rfl)
end
theorem adR (f:(Hp->R)->R)(k:Hp->R):JN 0 f k=f k:=abk rfl (id rfl)
theorem ain (f:(AV->Hp->R)->R)(k:AV->Hp->R):JN 1 f k=f k:=abk rfl (id rfl)
theorem adB (f:(AV->AV->Hp->R)->R)(k:AV->AV->Hp->R):JN 2 f k=f k:=abk rfl (id rfl)
theorem adr (f:(AV->AV->AV->Hp->R)->R)(k:AV->AV->AV->Hp->R):JN 3 f k=f k:=abk rfl (id rfl)
theorem amo (f:(AV->AV->AV->AV->Hp->R)->R)(k:AV->AV->AV->AV->Hp->R):JN 4 f k=f k:=abk rfl (id rfl)
theorem afT (f:(AV->AV->AV->AV->AV->Hp->R)->R)(k:AV->AV->AV->AV->AV->Hp->R):JN 5 f k=f k:=abk rfl (id rfl)
theorem acX (f:(AV->AV->AV->AV->AV->AV->Hp->R)->R)(k:AV->AV->AV->AV->AV->AV->Hp->R):JN 6 f k=f k:=abk rfl (id rfl)
theorem acP (f:(AV->AV->AV->AV->AV->AV->AV->Hp->R)->R)(k:AV->AV->AV->AV->AV->AV->AV->Hp->R):JN 7 f k=f k:=abk rfl (id rfl)
theorem agk (f:(AV->AV->AV->AV->AV->AV->AV->AV->Hp->R)->R)(k:AV->AV->AV->AV->AV->AV->AV->AV->Hp->R):JN 8 f k=f k:=abk rfl (id rfl)
theorem ad4 (f:(AV->AV->AV->AV->AV->AV->AV->AV->AV->Hp->R)->R)(k:AV->AV->AV->AV->AV->AV->AV->AV->AV->Hp->R):JN 9 f k=f k:=abk rfl (id rfl)
theorem ag1 (f:(AV->AV->AV->AV->AV->AV->AV->AV->AV->AV->Hp->R)->R)(k:AV->AV->AV->AV->AV->AV->AV->AV->AV->AV->Hp->R):JN 10 f k=f k:=abk rfl (id rfl)
theorem am3 (f:(AV->AV->AV->AV->AV->AV->AV->AV->AV->AV->AV->Hp->R)->R)(k:AV->AV->AV->AV->AV->AV->AV->AV->AV->AV->AV->Hp->R):JN 11 f k=f k:=abk rfl (id rfl)
theorem ae1 (f:(AV->AV->AV->AV->AV->AV->AV->AV->AV->AV->AV->AV->Hp->R)->R)(k:AV->AV->AV->AV->AV->AV->AV->AV->AV->AV->AV->AV->Hp->R):JN 12 f k=f k:=abk rfl (id rfl)
theorem aof (f:(AV->AV->AV->AV->AV->AV->AV->AV->AV->AV->AV->AV->AV->Hp->R)->R)(k:AV->AV->AV->AV->AV->AV->AV->AV->AV->AV->AV->AV->AV->Hp->R):JN 13 f k=f k:=abk rfl (id rfl)
theorem alL (f:(AV->AV->AV->AV->AV->AV->AV->AV->AV->AV->AV->AV->AV->AV->Hp->R)->R)(k:AV->AV->AV->AV->AV->AV->AV->AV->AV->AV->AV->AV->AV->AV->Hp->R):JN 14 f k=f k:=abk rfl (id rfl)
theorem ahn (f:(AV->AV->AV->AV->AV->AV->AV->AV->AV->AV->AV->AV->AV->AV->AV->Hp->R)->R)(k:AV->AV->AV->AV->AV->AV->AV->AV->AV->AV->AV->AV->AV->AV->AV->Hp->R):JN 15 f k=f k:=abk rfl (id rfl)
theorem ajB (f:(AV->AV->AV->AV->AV->AV->AV->AV->AV->AV->AV->AV->AV->AV->AV->AV->Hp->R)->R)(k:AV->AV->AV->AV->AV->AV->AV->AV->AV->AV->AV->AV->AV->AV->AV->AV->Hp->R):JN 16 f k=f k:=abk rfl (id rfl)
theorem adG (f:(AV->AV->AV->AV->AV->AV->AV->AV->AV->AV->AV->AV->AV->AV->AV->AV->AV->Hp->R)->R)(k:AV->AV->AV->AV->AV->AV->AV->AV->AV->AV->AV->AV->AV->AV->AV->AV->AV->Hp->R):JN 17 f k=f k:=abk rfl (id rfl)
theorem amn (f:(AV->AV->AV->AV->AV->AV->AV->AV->AV->AV->AV->AV->AV->AV->AV->AV->AV->AV->Hp->R)->R)(k:AV->AV->AV->AV->AV->AV->AV->AV->AV->AV->AV->AV->AV->AV->AV->AV->AV->AV->Hp->R):JN 18 f k=f k:=abk rfl (id rfl)
theorem aht (f:(AV->AV->AV->AV->AV->AV->AV->AV->AV->AV->AV->AV->AV->AV->AV->AV->AV->AV->AV->Hp->R)->R)(k:AV->AV->AV->AV->AV->AV->AV->AV->AV->AV->AV->AV->AV->AV->AV->AV->AV->AV->AV->Hp->R):JN 19 f k=f k:=abk rfl (id rfl)
theorem aer (f:(AV->AV->AV->AV->AV->AV->AV->AV->AV->AV->AV->AV->AV->AV->AV->AV->AV->AV->AV->AV->Hp->R)->R)(k:AV->AV->AV->AV->AV->AV->AV->AV->AV->AV->AV->AV->AV->AV->AV->AV->AV->AV->AV->AV->Hp->R):JN 20 f k=f k:=abk rfl (id rfl)
theorem ajh (f:(AV->AV->AV->AV->AV->AV->AV->AV->AV->AV->AV->AV->AV->AV->AV->AV->AV->AV->AV->AV->AV->Hp->R)->R)(k:AV->AV->AV->AV->AV->AV->AV->AV->AV->AV->AV->AV->AV->AV->AV->AV->AV->AV->AV->AV->AV->Hp->R):JN 21 f k=f k:=abk rfl (id rfl)
theorem ahv (f:(AV->AV->AV->AV->AV->AV->AV->AV->AV->AV->AV->AV->AV->AV->AV->AV->AV->AV->AV->AV->AV->AV->Hp->R)->R)(k:AV->AV->AV->AV->AV->AV->AV->AV->AV->AV->AV->AV->AV->AV->AV->AV->AV->AV->AV->AV->AV->AV->Hp->R):JN 22 f k=f k:=abk rfl (id rfl)
theorem amX (f:(AV->AV->AV->AV->AV->AV->AV->AV->AV->AV->AV->AV->AV->AV->AV->AV->AV->AV->AV->AV->AV->AV->AV->Hp->R)->R)(k:AV->AV->AV->AV->AV->AV->AV->AV->AV->AV->AV->AV->AV->AV->AV->AV->AV->AV->AV->AV->AV->AV->AV->Hp->R):JN 23 f k=f k:=abk rfl (id rfl)
theorem anX (f:(AV->AV->AV->AV->AV->AV->AV->AV->AV->AV->AV->AV->AV->AV->AV->AV->AV->AV->AV->AV->AV->AV->AV->AV->Hp->R)->R)(k:AV->AV->AV->AV->AV->AV->AV->AV->AV->AV->AV->AV->AV->AV->AV->AV->AV->AV->AV->AV->AV->AV->AV->AV->Hp->R):JN 24 f k=f k:=abk rfl (id rfl)
theorem ahf (x y:R):CD (.bool true) x y=x:=abk rfl (id rfl)
theorem acT (x y:R):CD (.bool false) x y=y:=abk rfl (id rfl)
theorem Lo (b:Bool)(x y:R):CD (.bool b) x y=if b then x else y:=by cases b<;>rfl
theorem ahI (f:(AV->Hp->R)->R)(k:AV->Hp->R)(H:Hp):GO (.bool true) true f k H=f k:=abk rfl (id rfl)
theorem ah1 (f:(AV->Hp->R)->R)(k:AV->Hp->R)(H:Hp):GO (.bool false) true f k H=k bP H:=abk rfl (id rfl)
theorem aoL (f:(AV->Hp->R)->R)(k:AV->Hp->R)(H:Hp):GO (.bool true) false f k H=k bP H:=abk rfl (id rfl)
theorem afv (f:(AV->Hp->R)->R)(k:AV->Hp->R)(H:Hp):GO (.bool false) false f k H=f k:=abk rfl (id rfl)
theorem agC (f:(AV->Hp->R)->R)(k:AV->Hp->R)(H:Hp):GO bP true f k H=k bP H:=abk rfl (id rfl)
theorem ajx (f:(AV->Hp->R)->R)(k:AV->Hp->R)(H:Hp):GO bP false f k H=k bP H:=abk rfl (id rfl)
theorem am0 (x y:R):jD (.bool true) true x y=x:=abk rfl (id rfl)
theorem agA (x y:R):jD (.bool false) true x y=y:=abk rfl (id rfl)
theorem agr (x y:R):jD (.bool true) false x y=y:=abk rfl (id rfl)
theorem aeC (x y:R):jD (.bool false) false x y=x:=abk rfl (id rfl)
theorem alk (a b:AV):pk (.bool true) a b=some a:=abk rfl (id rfl)
theorem ajk (a b:AV):pk (.bool false) a b=some b:=abk rfl (id rfl)
theorem ahO (i o:Nat):aI (.ptr i o)=some (.ptr i o):=abk rfl (id rfl)
theorem aot (t:TypeId)(v:AV):aI (.iface t v)=some (.iface t v):=abk rfl (id rfl)
theorem aoR (off i o:Nat):fa off (.ptr i o)=some (.ptr i (o+off)):=abk rfl (id rfl)
theorem aiS (off:Nat)(l:List AV):fd off (.agg l)=l[off]?:=abk rfl (id rfl)
theorem amR (i:Nat)(l:List AV):ex i (.tuple l)=l[i]?:=abk rfl (id rfl)
theorem an4 (k:IntKind)(a b:Int):aZ (.int k a) (.int k b)=some (.int k (k.wrap (a+b))):=by simp[aZ,ii]
theorem aiX (k:IntKind)(a b:Int):pC (.int k a) (.int k b)=some (.int k (k.wrap (a-b))):=by simp[pC,ii]
theorem adQ (k:IntKind)(a b:Int):vK (.int k a) (.int k b)=some (.int k (k.wrap (a*b))):=by simp[vK,ii]
theorem aol (k:IntKind)(a b:Int):bJ (.int k a) (.int k b)=some (.bool (a==b)):=by simp[bJ,ii]
theorem alU (k:IntKind)(a b:Int):gk (.int k a) (.int k b)=some (.bool (a != b)):=by simp[gk,ii]
theorem aeh (k:IntKind)(a b:Int):ba (.int k a) (.int k b)=some (.bool (a<b)):=by simp[ba,ii]
theorem afE (k:IntKind)(a b:Int):qE (.int k a) (.int k b)=some (.bool (a<=b)):=by simp[qE,ii]
theorem ajV (k:IntKind)(a b:Int):iC (.int k a) (.int k b)=some (.bool (b<a)):=by simp[iC,ii]
theorem Si (k:IntKind)(a b:Int):me (.int k a) (.int k b)=some (.bool (b<=a)):=by simp[me,ii]
theorem aAU (k:IntKind)(a b:Int)(h:b≠0):Gr (.int k a) (.int k b)=some (.int k (k.wrap (a.tdiv b))):=by simp[Gr,ii,h]
theorem aoa (k:IntKind)(a b:Int)(h:b≠0):wA (.int k a) (.int k b)=some (.int k (a.tmod b)):=by simp[wA,ii,h]
theorem aoK (a b:List Nat):seq (.str a) (.str b)=some (.bool (a==b)):=abk rfl (id rfl)
theorem agq (a b:List Nat):sL (.str a) (.str b)=some (.bool (!(a==b))):=abk rfl (id rfl)
theorem aoc (a b:List Nat):slt (.str a) (.str b)=some (.bool (tw a b)):=abk rfl (id rfl)
theorem AJ {a b:List Nat}(h:a.length+b.length<=4294967296):uY (.str a) (.str b)=some (.str (a++b)):=by have:Nat.ble (a.length+b.length) 4294967296=true:=aeF.mpr h;simp[uY,ss,this]
theorem amd (s:List Nat):lens (.str s)=some (.int .i64 s.length):=abk rfl (id rfl)
theorem aiT:aG .ah=some (.int .i64 0):=abk rfl (id rfl)
theorem aoI (i o n c:Nat)(x:Bool)(es:Nat):aG (.slice i o n c x es)=some (.int .i64 n):=abk rfl (id rfl)
theorem ais (a b:Bool):bb .eql (.bool a) (.bool b)=some (.bool (a==b)):=abk rfl (id rfl)
theorem acQ (a b:Bool):bb .neq (.bool a) (.bool b)=some (.bool (!(a==b))):=abk rfl (id rfl)
theorem aiI (b:Bool):ep .not (.bool b)=some (.bool !b):=abk rfl (id rfl)
theorem amB (k j:IntKind)(n:Int):cv k (.int j n)=some (.int k (k.wrap n)):=abk rfl (id rfl)
theorem ahq (H:Hp):pe .dE .dE H=some true:=abk rfl (id rfl)
theorem ah5 (i o:Nat)(H:Hp):pe .dE (.ptr i o) H=some false:=abk rfl (id rfl)
theorem ah0 (i o:Nat)(H:Hp):pe (.ptr i o) .dE H=some false:=abk rfl (id rfl)
theorem amk (b:Bool):CQ .eql (some b)=some (.bool b):=abk rfl (id rfl)
theorem af4 (b:Bool):CQ .neq (some b)=some (.bool !b):=abk rfl (id rfl)
theorem eP {a b:AV}{x:R}(h:same a b=true):SM a b x=x:=by simp[SM,h]
theorem wrap_i64 {a:Int}(h:-9223372036854775808<=a)(k:a<=9223372036854775807):IntKind.wrap .i64 a=a:=by simp only[IntKind.wrap,IntKind.bits,IntKind.signed];simp;omega
section
variable {H H' H'':Hp}{S S' k:List Nat}{T a c cap el es i o off:Nat}{e:ME}{l:List AV}{x:AV}
theorem DA {P:Program}{ext:Nat->Option Ext}{bH:Nat->Option Prim}{an:Nat->An}{aV:Nat}{p:Prim}{args:List AV}{r:AV×Hp}(hp:bH aV=some p)(h:p args H=some r):
  CK P (vX P) ext bH an (.func (.func aV) [] []) args H=some r:=by
 refine Yg Qf ?_;unfold Au;simp only[hp,afV,ac4];exact h
def Cs (H:Hp)(i:Nat)(l:List AV)(el fl:Nat):Prop:=i<H.next/\∃c,H.h.get i=some (.cells c 0 l.length el fl)/\∀k v,l[k]?=some v->c.get k=some v
def Mp (H:Hp)(i:Nat)(es:List ME)(c:Nat):Prop:=i<H.next/\H.h.get i=some (.map es c)
def Out (S:List Nat)(H H':Hp):Prop:=H.next<=H'.next/\∀j,j<H.next->j∉S->H'.h.get j=H.h.get j
theorem Out.refl (S:List Nat)(H:Hp):Out S H H:=⟨aaq _,λ_ _ _=>rfl⟩
theorem Out.trans (h:Out S H H')(k:Out S H' H''):Out S H H'':=
 ⟨afi h.1 k.1,λj hj hs=>(k.2 j (ac2 hj h.1) hs).trans (h.2 j hj hs)⟩
theorem Out.mono (h:Out S H H')(k:∀j∈S,j∈S'):Out S' H H':=⟨h.1,λj hj hs=>h.2 j hj λq=>hs (k j q)⟩
theorem Out.then (h:Out S H H')(k:Out S' H' H'')(hs:∀j∈S',j∈S\/H.next<=j):Out S H H'':=
 ⟨afi h.1 k.1,λj hj hn=>(k.2 j (ac2 hj h.1) λq=>(hs j q).elim hn zzz).trans (h.2 j hj hn)⟩
theorem Cs.out {fl:Nat}(h:Cs H i l el fl)(k:Out S H H')(hi:i∉S):Cs H' i l el fl:=
 ⟨ac2 h.1 k.1,by rw[k.2 i h.1 hi];exact h.2⟩
theorem Mp.out {es:List ME}(h:Mp H i es c)(k:Out S H H')(hi:i∉S):Mp H' i es c:=
 ⟨ac2 h.1 k.1,by rw[k.2 i h.1 hi];exact h.2⟩
theorem Cs.cellAt {H:Hp}{i:Nat}{l:List AV}{el fl:Nat}(h:Cs H i l el fl){o:Nat}{v:AV}(hv:l[o]?=some v):cellAt H i o=some v:=by
 obtain⟨_,c,hc,hg⟩:=h;have ho:o<l.length:=(aac.1 hv).1;unfold Am.cellAt;rw[hc];have hb:(Nat.ble 0 o&&Nat.blt o l.length)=true:=by rw[aam,aeF,aeg];omega
 simp only[hb,cond_true];exact hg o v hv
theorem Cs.ld {H:Hp}{i:Nat}{l:List AV}{el fl:Nat}(h:Cs H i l el fl){o:Nat}{v:AV}(hv:l[o]?=some v):ld (.ptr i o) H=some v:=h.cellAt hv
theorem Cs.av {H:Hp}{i:Nat}{l:List AV}{el fl:Nat}(h:Cs H i l el fl):∀(n o:Nat),o+n<=l.length->av H i o n=some ((l.drop o).take n)
 |0,o,_=>by simp[Am.av]
 |n+1,o,hn=>by have ho:o<l.length:=zzz;have h1:=h.cellAt (o:=o) (v:=l[o]) (aai ho);have h2:=h.av n (o+1) zzz;unfold Am.av;rw[h1,h2,aiy ho];rfl
theorem Sy (H:Hp)(i j:Nat)(o:AO):(setObj H i o).h.get j=if j=i then some o else H.h.get j:=Tr.gE _ _ _ _
theorem We {fl:Nat}(h:Cs H i l el fl)(hf:fl<=1)(ho:o<l.length){v:AV}(hv:aW v=true):
  ∃H',setCell H i o v=some H'/\Cs H' i (l.set o v) el fl/\Out [i] H H'/\H'.next=H.next:=by
 obtain⟨hi,c,hc,hg⟩:=h;have hs:(c.get o).isSome=true:=by rw[hg o l[o] (aai ho)];rfl
 have hb:(Nat.ble 0 o&&Nat.blt o l.length&&Nat.ble fl 1&&(c.get o).isSome&&aW v)=true:=by simp only[aam,aeF,aeg];exact⟨⟨⟨⟨zzz,ho⟩,hf⟩,hs⟩,hv⟩
 refine⟨{H with h:=H.h.bW i (.cells (c.bW o v) 0 l.length el fl)},?_,⟨hi,c.bW o v,?_,?_⟩,⟨aaq _,?_⟩,rfl⟩;·unfold setCell;rw[hc];simp only[hb,cond_true]
 ·show (Tr.bW H.h i _).get i=_;rw[Tr.bW,Tr.gE,zz2 rfl,adi]
 ·intro k u hk;rw[Tr.bW,Tr.gE];by_cases hko:k=o;·subst hko;rw[ae0 zzz] at hk;rw[zz2 rfl];exact hk
  ·rw[aji (λq=>hko q.symm)] at hk;rw[zz1 hko];exact hg k u hk
 ·intro j hj hn;show (Tr.bW H.h i _).get j=_;rw[Tr.bW,Tr.gE,zz1 (by simpa using hn)]
theorem eV {fl:Nat}(h:Cs H i l el fl)(hf:fl<=1)(ho:o<l.length){v:AV}(hv:aW v=true):
  ∃H',st 1 (.ptr i o) v H=some H'/\Cs H' i (l.set o v) el fl/\Out [i] H H'/\H'.next=H.next:=by
 obtain⟨H',h1,h2,h3,h4⟩:=We h hf ho hv;refine⟨H',?_,h2,h3,h4⟩;have hc:uE v=some [v]:=by cases v<;>first|rfl|cases hv
 unfold st;simp only[hc];show setCells H i o [v]=_;simp only[setCells,h1,abY,acf]
theorem afz (H:Hp)(l:List AV)(el fl:Nat)(hl:l.length<=16777216):∃H',aA H l el fl=some (H.next,H')/\Cs H' H.next l el fl/\Out [] H H'/\H'.next=H.next+1:=by
 refine⟨⟨H.h.put 34 H.next (.cells (Tr.cz .nil 0 l) 0 l.length el fl),H.next+1⟩,?_,⟨ahL _,Tr.cz .nil 0 l,?_,?_⟩,⟨agD _,?_⟩,rfl⟩;·unfold aA alloc;have:Nat.ble l.length 16777216=true:=aeF.mpr hl;rw[this];rfl
 ·show (Tr.put 34 H.h H.next _).get H.next=_;rw[Tr.put,Tr.gE,zz2 rfl]
 ·intro k v hk;rw[Dc];have:=(aac.1 hk).1;rw[zz2 zzz];exact hk
 ·intro j hj _;show (Tr.put 34 H.h H.next _).get j=_;rw[Tr.put,Tr.gE,zz1 zzz]
theorem TG (H:Hp):∃H',BS H=some (H.next,H')/\Mp H' H.next [] 0/\Out [] H H'/\H'.next=H.next+1:=by
 refine⟨⟨H.h.put 34 H.next (.map [] 0),H.next+1⟩,rfl,⟨ahL _,?_⟩,⟨agD _,?_⟩,rfl⟩;·show (Tr.put 34 H.h H.next _).get H.next=_;rw[Tr.put,Tr.gE,zz2 rfl]
 ·intro j hj _;show (Tr.put 34 H.h H.next _).get j=_;rw[Tr.put,Tr.gE,zz1 zzz]
def Ro (H:Hp)(i off:Nat)(l:List AV):Prop:=i<H.next/\∃c lo hi el fl,H.h.get i=some (.cells c lo hi el fl)/\lo<=off/\off+l.length<=hi/\∀k v,l[k]?=some v->c.get (off+k)=some v
theorem Cs.ro {fl:Nat}(h:Cs H i l el fl):Ro H i 0 l:=by obtain⟨hi,c,hc,hg⟩:=h;exact⟨hi,c,0,l.length,el,fl,hc,aaq _,zzz,λk v hk=>by rw[adn];exact hg k v hk⟩
theorem Ro.out (h:Ro H i off l)(k:Out S H H')(hi:i∉S):Ro H' i off l:=
 ⟨ac2 h.1 k.1,by rw[k.2 i h.1 hi];exact h.2⟩
theorem Ro.cellAt {H:Hp}{i off:Nat}{l:List AV}(h:Ro H i off l){k:Nat}{v:AV}(hv:l[k]?=some v):cellAt H i (off+k)=some v:=by
 obtain⟨_,c,lo,hi,el,fl,hc,h1,h2,hg⟩:=h;have hk:k<l.length:=(aac.1 hv).1;unfold Am.cellAt;rw[hc];have hb:(Nat.ble lo (off+k)&&Nat.blt (off+k) hi)=true:=by rw[aam,aeF,aeg];omega
 simp only[hb,cond_true];exact hg k v hv
theorem Ro.ld {H:Hp}{i off:Nat}{l:List AV}(h:Ro H i off l){k:Nat}{v:AV}(hv:l[k]?=some v):ld (.ptr i (off+k)) H=some v:=h.cellAt hv
theorem Ro.drop (h:Ro H i off l)(n:Nat)(hn:n<=l.length):Ro H i (off+n) (l.drop n):=by obtain⟨hi,c,lo,jN,el,fl,hc,h1,h2,hg⟩:=h;refine⟨hi,c,lo,jN,el,fl,hc,zzz,by rw[aeG];omega,λk v hk=>?_⟩;rw[afX] at hk;rw[ak3];exact hg _ v hk
theorem Ro.take (h:Ro H i off l)(n:Nat):Ro H i off (l.take n):=by
 obtain⟨hi,c,lo,jN,el,fl,hc,h1,h2,hg⟩:=h;refine⟨hi,c,lo,jN,el,fl,hc,h1,by rw[ad9];omega,λk v hk=>?_⟩;rw[ajg] at hk;split at hk;·exact hg _ v hk
 ·cases hk
theorem Ro.av:∀{l:List AV} {off:Nat},Ro H i off l->Am.av H i off l.length=some l
 |[],off,_=>rfl|v::l,off,h=>by have h1:=h.cellAt (k:=0) (v:=v) rfl;have h2:=(h.drop 1 zzy).av;simp only[List.drop_succ_cons,aaM] at h2;rw[aeA] at h1;rw[aau];unfold Am.av;rw[h1,h2];rfl
def ak:AV->List Nat
 |.slice i _ _ cap ex _=>bif ex&&Nat.beq cap 0 then [] else [i]
 |.ptr i _=>[i]|.map i=>[i]|_=>[]
theorem pH {n:Nat}{ex:Bool}(h:(ex&&Nat.beq cap 0)=false):ak (.slice i o n cap ex es)=[i]:=by simp only[ak,h,cond_false]
inductive Rw (H:Hp) (es:Nat):AV->List AV->Prop
 |nil:Rw H es .ah []
 |emp {i off:Nat}:Rw H es (.slice i off 0 0 true es) []
 |mk {i off n cap:Nat} {ex:Bool} {l:List AV} (h:Ro H i off l) (hn:l.length=n*es) (hc:n<=cap) (he:(ex&&Nat.beq cap 0)=false):Rw H es (.slice i off n cap ex es) l
theorem Rw.out (h:Rw H es x l)(k:Out S H H')(hi:∀j∈ak x,j∉S):Rw H' es x l:=by
 cases h with
 |nil=>exact .nil|emp=>exact .emp|mk h hn hc he=>exact .mk (h.out k (hi _ (by rw[pH he];exact .head _))) hn hc he
theorem Rw.lt (h:Rw H es x l):∀j∈ak x,j<H.next:=by
 cases h with
 |nil=>intro j hj;cases hj
 |emp=>intro j hj;cases hj
 |mk h hn hc he=>intro j hj;rw[pH he,No] at hj;subst hj;exact h.1
theorem Rw.len (h:Rw H es x l):∃n:Nat,aG x=some (.int .i64 n)/\l.length=n*es:=by
 cases h with
 |nil=>exact⟨0,rfl,zzy⟩|emp=>exact⟨0,rfl,zzy⟩|mk h hn hc he=>exact⟨_,rfl,hn⟩
theorem Rw.gX (h:Rw H 1 x l):aG x=some (.int .i64 l.length):=by obtain⟨n,h1,h2⟩:=h.len;rw[h1,h2,adV]
inductive Ow (H:Hp) (el es:Nat):AV->List AV->Prop
 |nil:Ow H el es .ah []
 |emp {i off:Nat}:Ow H el es (.slice i off 0 0 true es) []
 |mk {i off n cap:Nat} {ex:Bool} {l:List AV} {c:Tr AV} {lo hi fl:Nat} (jN:i<H.next) (hg:H.h.get i=some (.cells c lo hi el fl)) (hf:fl<=1) (iL:lo<=off) (lD:off+cap*es<=hi) (jG:n<=cap) (hn:l.length=n*es)
   (hc:∀k v,l[k]?=some v->c.get (off+k)=some v) (hs:∀k,k<cap*es->(c.get (off+k)).isSome=true) (h1:∀v∈l,aW v=true) (he:(ex&&Nat.beq cap 0)=false):Ow H el es (.slice i off n cap ex es) l
theorem Ow.rw {H:Hp}{el es:Nat}{x:AV}{l:List AV}(h:Ow H el es x l):Rw H es x l:=by
 cases h with
 |nil=>exact .nil|emp=>exact .emp|@mk i off n cap ex l c lo hi fl jN hg hf iL lD jG hn hc hs h1 he=>
  exact .mk ⟨jN,c,lo,hi,el,fl,hg,iL,by rw[hn];exact afi (Nat.add_le_add_left (adS _ jG) _) lD,hc⟩ hn jG he
theorem Ow.out (h:Ow H el es x l)(k:Out S H H')(hi:∀j∈ak x,j∉S):Ow H' el es x l:=by
 cases h with
 |nil=>exact .nil|emp=>exact .emp|mk jN hg hf iL lD jG hn hc hs h1 he=>exact .mk (ac2 jN k.1) (by rw[k.2 _ jN (hi _ (by rw[pH he];exact .head _))];exact hg) hf iL lD jG hn hc hs h1 he
theorem Ow.one (h:Ow H el es x l):∀v∈l,aW v=true:=by
 cases h with
 |nil=>intro v hv;cases hv
 |emp=>intro v hv;cases hv
 |mk _ _ _ _ _ _ _ _ _ h1 _=>exact h1
theorem Cs.ow {n:Nat}{fl:Nat}(h:Cs H i l el fl)(hf:fl<=1)(hn:l.length=n*es)(h1:∀v∈l,aW v=true)(ex:Bool):Ow H el es (.slice i 0 n n ex es) l:=by
 cases hex:(ex&&Nat.beq n 0) with
 |true=>
  rw[aam] at hex;obtain⟨rfl,nQ⟩:=hex;obtain rfl:=aaY nQ;have:l=[]:=by simpa using hn
  subst this;exact .emp
 |false=>
 obtain⟨hi,c,hc,hg⟩:=h;refine .mk hi hc hf (aaq _) zzz (aaq _) hn (λk v hk=>by rw[adn];exact hg k v hk) (λk hk=>?_) h1 hex;rw[adn,hg k l[k] (aai zzz)];rfl
theorem RF:∀(l:List AV) (H:Hp) (i off:Nat) (c:Tr AV) (lo hi el fl:Nat),H.h.get i=some (.cells c lo hi el fl)->fl<=1->lo<=off->off+l.length<=hi->(∀k,k<l.length->(c.get (off+k)).isSome=true)->(∀v∈l,aW v=true)->
  ∃H' c',setCells H i off l=some H'/\H'.next=H.next/\H'.h.get i=some (.cells c' lo hi el fl)/\(∀j,j≠i->H'.h.get j=H.h.get j)/\∀k,c'.get k=if off<=k/\k<off+l.length then l[k-off]? else c.get k
 |[],H,i,off,c,lo,hi,el,fl,hg,hf,h1,h2,hs,ho=>⟨H,c,rfl,rfl,hg,λ_ _=>rfl,λk=>by rw[zz1 (by simp only[acj];omega)]⟩|v::l,H,i,off,c,lo,hi,el,fl,hg,hf,h1,h2,hs,ho=>by
  simp only[aau] at h2;have yA:=hs 0 zzy;rw[aeA] at yA;have hb:(Nat.ble lo off&&Nat.blt off hi&&Nat.ble fl 1&&(c.get off).isSome&&aW v)=true:=by simp only[aam,aeF,aeg];exact⟨⟨⟨⟨h1,zzz⟩,hf⟩,yA⟩,ho v (.head _)⟩
  have fY:setCell H i off v=some {H with h:=H.h.bW i (.cells (c.bW off v) lo hi el fl)}:=by unfold setCell;rw[hg];simp only[hb,cond_true]
  obtain⟨H',c',q1,q2,q3,q4,q5⟩:=RF l {H with h:=H.h.bW i (.cells (c.bW off v) lo hi el fl)} i (off+1) (c.bW off v) lo hi el fl (by
    show (Tr.bW H.h i _).get i=_;rw[Tr.bW,Tr.gE,zz2 rfl]) hf zzz zzz (λk hk=>by
    rw[Tr.bW,Tr.gE];split;·rfl
    ·have:=hs (k+1) (by simp;omega);rw[show off+1+k=off+(k+1) by omega];exact this) (λu hu=>ho u (.tail _ hu))
  refine⟨H',c',?_,q2,q3,λj hj=>?_,λk=>?_⟩;·simp only[setCells,fY,abY,acf];exact q1
  ·rw[q4 j hj];show (Tr.bW H.h i _).get j=_;rw[Tr.bW,Tr.gE,zz1 hj]
  ·rw[q5 k,Tr.bW,Tr.gE];by_cases hk:k=off;·subst hk;rw[zz1 zzz,zz2 rfl,zz2 zzy,ajA];rfl
   ·rw[zz1 hk];by_cases iw:off+1<=k/\k<off+1+l.length;·rw[zz2 iw,zz2 (by simp;omega),show k-off=(k-(off+1))+1 by omega,adb]
    ·rw[zz1 iw,zz1 (by simp;omega)]
theorem NP {n:Nat}{s:AV}{new:List AV}(h:Ow H el es s l)(uP:new.length=n*es)(ho:∀v∈new,aW v=true)(dY:0<es)(hlen:l.length+new.length<=16777216):
  ∃s' H',HW el es n new s H=some (s',H')/\Ow H' el es s' (l++new)/\Out (ak s) H H'/\(∀j∈ak s',j∈ak s\/H.next<=j):=by
 have mM:∀v∈l++new,aW v=true:=λv hv=>(aaQ.1 hv).elim (h.one v) (ho v);have aoy:∀s0:List Nat,n≠0->l=[]->∃H',aA H new el 0=some (H.next,H')/\Ow H' el es (.slice H.next 0 n n false es) (l++new)/\Out s0 H H'/\(∀j∈ak (.slice H.next 0 n n false es),j∈s0\/H.next<=j):=by intro s0 hn hl;subst hl;obtain⟨H',h1,h2,h3,h4⟩:=afz H new el 0 (by simp only[acj] at hlen;omega);refine⟨H',h1,h2.ow zzz uP ho false,h3.mono (λj hj=>by cases hj),λj hj=>?_⟩;simp only[ak,acn,cond_false,No] at hj;exact .inr zzz
 cases h with
 |nil=>
  unfold HW;simp only;by_cases hn:n=0
  ·subst hn;have:new=[]:=by simpa using uP
   subst this;exact⟨.ah,H,rfl,.nil,Out.refl _ _,λj hj=>by cases hj⟩
  ·rw[rq hn,cond_false];have hle:n<=16777216:=by have:=Nat.le_mul_of_pos_right n dY;simp only[acj] at hlen;omega
   have hb:Nat.ble n 16777216=true:=aeF.mpr hle;rw[hb,cond_true];obtain⟨H',h1,h2⟩:=aoy [] hn rfl;exact⟨_,H',by rw[h1];rfl,h2⟩
 |@emp i off=>
  unfold HW;have hle:n<=16777216:=by have:=Nat.le_mul_of_pos_right n dY;simp only[acj] at hlen;omega
  have hb:(Nat.ble (0+n) 16777216&&Nat.beq es es&&new.all aW)=true:=by simp only[aam,aeF,zW,adP];exact⟨⟨zzz,trivial⟩,ho⟩
  simp only[hb,cond_true];by_cases hn:n=0
  ·subst hn;have:new=[]:=by simpa using uP
   subst this;exact⟨.slice i off 0 0 true es,H,rfl,.emp,Out.refl _ _,λj hj=>by cases hj⟩
  ·have jd:Nat.ble (0+n) 0=false:=by rw[<-ahP,aeF];omega
   rw[jd,cond_false];obtain⟨H',h1,h2⟩:=aoy (ak (.slice i off 0 0 true es)) hn rfl;refine⟨.slice H.next 0 n n false es,H',?_,h2⟩;simp only[ahD,Am.av,acf,afV,h1,ael,adn]
 |@mk i off m cap ex l c lo hi fl jN hg hf iL lD jG hn hc hs h1 he=>
  unfold HW;have lZ:n<=new.length:=by rw[uP];exact Nat.le_mul_of_pos_right n dY
  have Io:m<=l.length:=by rw[hn];exact Nat.le_mul_of_pos_right m dY
  have hb:(Nat.ble (m+n) 16777216&&Nat.beq es es&&new.all aW)=true:=by simp only[aam,aeF,zW,adP];exact⟨⟨zzz,trivial⟩,ho⟩
  simp only[hb,cond_true];have mr:(l++new).length=(m+n)*es:=by rw[aah,hn,uP,afB]
  by_cases abH:m+n<=cap
  ·have jd:Nat.ble (m+n) cap=true:=aeF.mpr abH;rw[jd,cond_true];have hr:(m+n)*es<=cap*es:=adS _ abH;rw[afB] at hr;obtain⟨H',c',q1,q2,q3,q4,q5⟩:=RF new H i (off+m*es) c lo hi el fl hg hf zzz (by rw[uP];omega) (λk hk=>by rw[ak3];exact hs _ (by rw[uP] at hk;omega)) ho;refine⟨_,H',by rw[q1];rfl,.mk (by rw[q2];exact jN) q3 hf iL lD abH mr (λk v hk=>?_) (λk hk=>?_) mM he,⟨by rw[q2];exact aaq _,λj hj Er=>q4 j (by rw[pH he] at Er;simpa using Er)⟩,λj hj=>.inl (by rw[pH he] at hj⊢;exact hj)⟩
   ·rw[q5];by_cases kL:k<l.length;·rw[zz1 zzz,hc k v (by rw[abi kL] at hk;exact hk)]
    ·rw[abm zzz] at hk;have:=(aac.1 hk).1;rw[zz2 zzz,<-hk];congr 1;omega
   ·rw[q5];split;·rename_i hq;rw[aai zzz];rfl
    ·exact hs k hk
  ·have jd:Nat.ble (m+n) cap=false:=by rw[<-ahP,aeF];omega
   rw[jd,cond_false];cases ex with
   |true=>
    simp only[cond_true];have Ma:Ro H i off l:=⟨jN,c,lo,hi,el,fl,hg,iL,by rw[hn];exact afi (Nat.add_le_add_left (adS _ jG) _) lD,hc⟩;have B6:=Ma.av;rw[hn] at B6;rw[B6];obtain⟨H',r1,r2,r3,r4⟩:=afz H (l++new) el 0 (by rw[aah];omega);refine⟨_,H',by simp only[acf];rw[r1];rfl,r2.ow zzz mr mM false,r3.mono (λj hj=>by cases hj),λj hj=>?_⟩;simp only[ak,acn,cond_false,No] at hj;exact .inr zzz
   |false=>
    simp only[cond_false,hg];have hr:m*es<=cap*es:=adS _ jG;have vc:(Nat.ble fl 1&&Nat.ble lo off&&Nat.ble (off+m*es) hi&&Nat.beq el el)=true:=by simp only[aam,aeF,zW];exact⟨⟨⟨hf,iL⟩,zzz⟩,trivial⟩
    rw[vc,cond_true];refine⟨_,_,rfl,.mk (c:=c.cz (off+m*es) new) (lo:=off) (hi:=off+(m+n)*es) (fl:=1) ?_ ?_ zzz (aaq _) (aaq _) (aaq _) mr (λk v hk=>?_) (λk hk=>?_) mM rfl,⟨?_,λj hj Er=>?_⟩,λj hj=>?_⟩;·exact ahL _
    ·show (Tr.put 34 (H.h.del i) H.next _).get H.next=_;rw[Tr.put,Tr.gE,zz2 rfl]
    ·rw[Tr.zj];by_cases kL:k<l.length;·rw[zz1 zzz,hc k v (by rw[abi kL] at hk;exact hk)]
     ·rw[abm zzz] at hk;have:=(aac.1 hk).1;rw[zz2 zzz,<-hk];congr 1;omega
    ·rw[Tr.zj];rw[afB] at hk;split;·rename_i hq;rw[aai zzz];rfl
     ·exact hs k zzz
    ·exact agD _
    ·show (Tr.put 34 (H.h.del i) H.next _).get j=_;rw[Tr.put,Tr.gE,zz1 zzz,Tr.NI,zz1 (by rw[pH he] at Er;simpa using Er)]
    ·simp only[ak,acn,cond_false,No] at hj;subst hj;exact .inr (aaq _)
theorem aon {z:List AV}{s:AV}{new:List AV}(h:Ow H el es s l)(hx:Rw H es x new)(ho:∀v∈new,aW v=true)(dY:0<es)(hlen:l.length+new.length<=16777216):
  ∃s' H',c8 el es z false s x H=some (s',H')/\Ow H' el es s' (l++new)/\Out (ak s) H H'/\(∀j∈ak s',j∈ak s\/H.next<=j):=by
 cases hx with
 |nil=>
  obtain⟨s',H',h1,h2⟩:=NP (n:=0) (new:=[]) h zzy ho dY hlen;exact⟨s',H',h1,h2⟩
 |@emp i off=>
  obtain⟨s',H',h1,h2⟩:=NP (n:=0) (new:=[]) h zzy ho dY hlen;refine⟨s',H',?_,h2⟩;have:BV es z false (.slice i off 0 0 true es) H=some (0,[]):=by show (Am.av H i off (0*es)).map (λl=>(0,l))=_;rw[ahD];rfl
  unfold c8;rw[this];exact h1
 |@mk i off n cap ex l' hr hn hc he=>
  obtain⟨s',H',h1,h2⟩:=NP h hn ho dY hlen;refine⟨s',H',?_,h2⟩;have:BV es z false (.slice i off n cap ex es) H=some (n,new):=by show (Am.av H i off (n*es)).map (λl=>(n,l))=_;rw[<-hn,hr.av];rfl
  unfold c8;rw[this];exact h1
def bs (l:List Nat):List AV:=l.map λ(b:Nat)=>AV.int .u8 b
theorem akf (l:List Nat):∀v∈bs l,aW v=true:=by intro v hv;obtain⟨b,_,rfl⟩:=abN.1 hv;rfl
theorem nC (l:List Nat):(bs l).length=l.length:=by simp[bs]
theorem aaz (a b:List Nat):bs (a++b)=bs a++bs b:=by simp[bs]
theorem aa9:∀(l:List Nat),(∀b∈l,b<256)->zg (bs l)=some l
 |[],_=>rfl|b::l,h=>by
  have h1:=aa9 l (λx hx=>h x (.tail _ hx));have h2:=h b (.head _);have h3:(decide (0<=(b:Int))&&decide ((b:Int)<256))=true:=by simp;omega
  show zg (AV.int .u8 (b:Int)::bs l)=_;unfold zg;rw[h3,h1];simp
theorem zw {l:List Nat}(h:Rw H 1 x (bs l))(hl:∀b∈l,b<256):tQ x H=some (.str l):=by
 generalize jj:bs l=cs at h;cases h with
 |nil=>
  have:l=[]:=by simpa[bs] using jj
  subst this;rfl
 |@emp i off=>
  have:l=[]:=by simpa[bs] using jj
  subst this;rfl
 |@mk i off n cap ex l' hr hn hc he=>
  rw[adV] at hn;unfold tQ;simp only;by_cases h0:n=0
  ·subst h0;have:l=[]:=by subst jj;simpa[bs] using hn
   subst this;rfl
  ·rw[rq h0,cond_false,<-hn,hr.av,<-jj];simp only[acf,aa9 l hl];rfl
theorem QC {k:IntKind}{n lo hi:Nat}(h1:lo<=n)(h2:n<=hi):bound lo hi (.int k n)=some n:=by
 unfold bound;have:(decide ((lo:Int)<=(n:Int))&&decide ((n:Int)<=(hi:Int)))=true:=by simp;omega
 simp only[this,if_true,abO]
def Bd (o:Option AV)(n asf:Nat):Prop:=(o=none/\n=asf)\/∃k,o=some (.int k n)
theorem Bd.no (n:Nat):Bd none n n:=.inl ⟨rfl,rfl⟩
theorem Bd.yes (k:IntKind)(n d:Nat):Bd (some (.int k n)) n d:=.inr ⟨k,rfl⟩
theorem Bd.aFl (k:IntKind)(d:Nat):Bd (some (.int k 0)) 0 d:=.inr ⟨k,rfl⟩
theorem Ea {len b:Nat}{lo hi:Option AV}(Az:a<=b)(hb:b<=len)(hc:len<=cap)(iL:Bd lo a 0)(lD:Bd hi b len):uW len cap lo hi none=some (a,b,cap):=by
 unfold uW;rcases lD with⟨rfl,rfl⟩|⟨k,rfl⟩<;>rcases iL with⟨rfl,rfl⟩|⟨j,rfl⟩;·rfl
 ·simp only[abY,acf,QC (abg _) Az];rfl
 ·simp only[abY,acf,QC (abg _) (afi hb hc)];rfl
 ·simp only[abY,acf,QC (abg _) (afi hb hc),QC (abg _) Az];rfl
theorem Ar {n b:Nat}(h:Rw H es x l)(hl:l.length=n*es)(dY:0<es){lo hi:Option AV}(Az:a<=b)(hb:b<=n)(iL:Bd lo a 0)(lD:Bd hi b n):
  ∃x',oh es x lo hi none=some x'/\Rw H es x' ((l.drop (a*es)).take ((b-a)*es))/\∀j∈ak x',j∈ak x:=by
 cases h with
 |nil=>
  have hn:n=0:=by simp only[acj] at hl;rcases Nat.mul_eq_zero.1 hl.symm with q|q<;>omega
  subst hn;have ja:b=0:=zzz;have ha0:a=0:=zzz;subst ja;subst ha0;refine⟨.ah,?_,by simpa using Rw.nil,λj hj=>hj⟩;unfold oh;simp only[Ea (aaq 0) (aaq 0) (aaq 0) iL lD];rfl
 |@emp i off=>
  have hn:n=0:=by simp only[acj] at hl;rcases Nat.mul_eq_zero.1 hl.symm with q|q<;>omega
  subst hn;have ja:b=0:=zzz;have ha0:a=0:=zzz;subst ja;subst ha0;refine⟨.slice i (off+0*es) 0 0 true es,?_,by simpa using Rw.emp,λj hj=>by cases hj⟩;unfold oh;simp only[Ea (aaq 0) (aaq 0) (aaq 0) iL lD];simp
 |@mk i off m cap ex l hr hn hc he=>
  have hm:m=n:=Nat.eq_of_mul_eq_mul_right dY (hn.symm.trans hl);subst hm;refine⟨.slice i (off+a*es) (b-a) (cap-a) ex es,?_,?_,?_⟩;·unfold oh;simp only[Ea Az hb hc iL lD,acf];simp
  ·cases hq:(ex&&Nat.beq (cap-a) 0) with
   |true=>
    rw[aam] at hq;obtain⟨rfl,h0⟩:=hq;have h0:=aaY h0;have hba:b-a=0:=zzz;rw[h0,hba,ahD,akd];exact .emp
   |false=>
    have h1:a*es<=l.length:=by rw[hl];exact adS _ zzz
    refine .mk ((hr.drop (a*es) h1).take _) ?_ zzz hq;rw[ad9,aeG,hl,<-Nat.sub_mul];exact amM (adS _ zzz)
  ·intro j hj;rw[pH he];simp only[ak] at hj;cases hq:(ex&&Nat.beq (cap-a) 0)<;>rw[hq] at hj;·exact hj
   ·cases hj
theorem TV {k:List Nat}:∀(es:List ME) (i:Nat),(∀e∈es,∃q,e.key=.str q/\q≠k)->fk .str (.str k) es i=some none
 |[],i,_=>rfl|e::es,i,h=>by
  obtain⟨q,h1,h2⟩:=h e (.head _);have:Cl .str (.str k) e.key=some false:=by rw[h1];show some (k==q)=some false;rw[zz7 (λx=>h2 x.symm)]
  unfold fk;rw[this];exact TV es (i+1) (λe he=>h e (.tail _ he))
theorem aox {k:List Nat}:∀es:List ME,(∀e∈es,∃q,e.key=.str q/\q≠k)->nk .str (.str k) es=true
 |[],h=>rfl|e::es,h=>by
  obtain⟨q,h1,h2⟩:=h e (.head _);have:Cl .str (.str k) e.key=some false:=by rw[h1];show some (k==q)=some false;rw[zz7 (λx=>h2 x.symm)]
  unfold nk;rw[this];exact aox es (λe he=>h e (.tail _ he))
theorem abr {k:List Nat}{e:ME}{b:List ME}(hk:e.key=.str k)(hb:∀e∈b,∃q,e.key=.str q/\q≠k):∀(a:List ME) (i:Nat),(∀e∈a,∃q,e.key=.str q/\q≠k)->fk .str (.str k) (a++e::b) i=some (some (i+a.length,e))
 |[],i,_=>by
  have:Cl .str (.str k) e.key=some true:=by rw[hk];show some (k==k)=some true;rw[beq_self_eq_true]
  show fk .str (.str k) (e::b) i=_;unfold fk;rw[this,aox b hb];rfl
 |x::a,i,h=>by
  obtain⟨q,h1,h2⟩:=h x (.head _);have:Cl .str (.str k) x.key=some false:=by rw[h1];show some (k==q)=some false;rw[zz7 (λx=>h2 x.symm)]
  show fk .str (.str k) (x::(a++e::b)) i=_;unfold fk;rw[this];simp only;rw[abr hk hb a (i+1) (λe he=>h e (.tail _ he)),aau];congr 3;omega
theorem KC {es:List ME}(h:Mp H i es c):mapOf H (.map i)=some (es,c):=by unfold mapOf;simp only[h.2]
theorem acs {es:List ME}(h:Mp H i es c)(hk:∀e∈es,∃q,e.key=.str q/\q≠k)(z:AV)(ok:Bool):tC .str z ok (.map i) (.str k) H=some (bif ok then .tuple [z,.bool false] else z):=by unfold tC;rw[KC h];simp only[TV es 0 hk]
theorem aiW {a b:List ME}(h:Mp H i (a++e::b) c)(he:e.key=.str k)(hk:∀e∈a,∃q,e.key=.str q/\q≠k)(hb:∀e∈b,∃q,e.key=.str q/\q≠k)(z:AV)(ok:Bool):
  tC .str z ok (.map i) (.str k) H=some (bif ok then .tuple [e.val,.bool true] else e.val):=by
 unfold tC;rw[KC h];simp only[abr he hb a 0 hk]
theorem Mp.set {es:List ME}(h:Mp H i es c)(es':List ME)(c':Nat):Mp (setObj H i (.map es' c')) i es' c'/\Out [i] H (setObj H i (.map es' c')):=
 ⟨⟨h.1,by rw[Sy,zz2 rfl]⟩,aaq _,λj _ hn=>by rw[Sy,zz1 (by simpa using hn)]⟩
theorem alA {es:List ME}(h:Mp H i es c)(hk:∀e∈es,∃q,e.key=.str q/\q≠k)(v:AV):
  ∃H',xT .str (.map i) (.str k) v H=some H'/\Mp H' i (es++[⟨.str k,v,c⟩]) (c+1)/\Out [i] H H':=by
 refine⟨_,?_,h.set _ _⟩;unfold xT;simp only[h.2,TV es 0 hk]
theorem avS {a b:List ME}(h:Mp H i (a++e::b) c)(he:e.key=.str k)(hk:∀e∈a,∃q,e.key=.str q/\q≠k)(hb:∀e∈b,∃q,e.key=.str q/\q≠k)(v:AV):
  ∃H',xT .str (.map i) (.str k) v H=some H'/\Mp H' i (a++{e with key:=.str k,val:=v}::b) c/\Out [i] H H':=by
 refine⟨_,?_,h.set _ _⟩;unfold xT;have hs:Hu e.key (.str k)=true:=by rw[he];simp[Hu,MS]
 simp only[h.2,abr he hb a 0 hk,hs,cond_true];simp
theorem DL {n:Nat}{ex:Bool}{k:IntKind}{j:Nat}(h:j<n):ia es (.slice i off n cap ex es) (.int k j)=some (.ptr i (off+j*es)):=by unfold ia;simp only;rw[zz2 ⟨trivial,zzz,zzz⟩,abO]
theorem nw (x:R):xi true x=x:=abk rfl (id rfl)
theorem pW (z:List AV):fl z []=some z:=abk rfl (id rfl)
theorem HP {P:Program}(hT:P.underlying T=some (.slice el))(H:Hp):fV P .eql T .ah .ah H=some (.bool true):=by unfold fV eL;simp only[hT];rfl
theorem I2 {P:Program}(hT:P.underlying T=some (.slice el))(i o n c:Nat)(ex:Bool)(es:Nat)(H:Hp):fV P .eql T (.slice i o n c ex es) .ah H=some (.bool false):=by unfold fV eL;simp only[hT];rfl
theorem Kv (P:Program)(T:Nat)(c:Bool):gA P .eql T c .ah .ah=true:=abk rfl (id rfl)
theorem JZ (P:Program)(T:Nat)(c:Bool)(i o n k:Nat)(ex:Bool)(es:Nat):gA P .eql T c (.slice i o n k ex es) .ah=true:=abk rfl (id rfl)
theorem aww (P:Program)(t:Array TypeId)(k j:IntKind)(a b:Int)(H:Hp):jn P .max t [.int k a,.int j b] H=some (.int k (if a<b then b else a),H):=abk rfl (id rfl)
theorem L4 (P:Program)(t:Array TypeId)(k j:IntKind)(a b:Int)(H:Hp):jn P .min t [.int k a,.int j b] H=some (.int k (if b<a then b else a),H):=abk rfl (id rfl)
theorem Rw.gh (h:Rw H 1 x l){v:AV}(hv:l[i]?=some v)(k:IntKind):∃q,ia 1 x (.int k i)=some q/\ld q H=some v:=by
 cases h with
 |nil=>cases hv
 |emp=>cases hv
 |@mk j off n cap ex l hr hn hc he=>
  have hi:=(aac.1 hv).1;refine⟨.ptr j (off+i),?_,hr.ld hv⟩;have jv:i<n:=zzz;rw[DL jv,adV]
end
end K
end Go.Proofs.YtodfajmihkagnaaGreatDoor.Am
