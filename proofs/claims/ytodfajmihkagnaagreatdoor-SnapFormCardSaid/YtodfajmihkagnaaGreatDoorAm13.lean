/- Laws that the proof uses. -/
import Derived.Test.YtodfajmihkagnaaGreatDoorAm12
set_option linter.unusedVariables false
set_option linter.unusedSimpArgs false
namespace Go.Proofs.YtodfajmihkagnaaGreatDoor.Am
namespace K
section
variable {α:Type}
theorem agl (v:α)(k:α->R):B1 (some v) k=k v:=abG rfl (id rfl)
theorem aek (v:AV)(H:Hp)(k:AV->Hp->R):B2 (some (v,H)) k=k v H:=abG rfl (id rfl)
theorem afZ (v:Nat)(H:Hp)(k:Nat->Hp->R):BN (some (v,H)) k=k v H:=abG rfl (id rfl)
end
theorem ab6 (f:(Hp->R)->R)(k:Hp->R):JN 0 f k=f k:=abG rfl (id rfl)
theorem agy (f:(AV->Hp->R)->R)(k:AV->Hp->R):JN 1 f k=f k:=abG rfl (id rfl)
theorem abQ (f:(AV->AV->Hp->R)->R)(k:AV->AV->Hp->R):JN 2 f k=f k:=abG rfl (id rfl)
theorem abI (f:(AV->AV->AV->Hp->R)->R)(k:AV->AV->AV->Hp->R):JN 3 f k=f k:=abG rfl (id rfl)
theorem akn (f:(AV->AV->AV->AV->Hp->R)->R)(k:AV->AV->AV->AV->Hp->R):JN 4 f k=f k:=abG rfl (id rfl)
theorem aea (f:(AV->AV->AV->AV->AV->Hp->R)->R)(k:AV->AV->AV->AV->AV->Hp->R):JN 5 f k=f k:=abG rfl (id rfl)
theorem abg (f:(AV->AV->AV->AV->AV->AV->Hp->R)->R)(k:AV->AV->AV->AV->AV->AV->Hp->R):JN 6 f k=f k:=abG rfl (id rfl)
theorem aa7 (f:(AV->AV->AV->AV->AV->AV->AV->Hp->R)->R)(k:AV->AV->AV->AV->AV->AV->AV->Hp->R):JN 7 f k=f k:=abG rfl (id rfl)
theorem aex (f:(AV->AV->AV->AV->AV->AV->AV->AV->Hp->R)->R)(k:AV->AV->AV->AV->AV->AV->AV->AV->Hp->R):JN 8 f k=f k:=abG rfl (id rfl)
theorem acj (f:(AV->AV->AV->AV->AV->AV->AV->AV->AV->Hp->R)->R)(k:AV->AV->AV->AV->AV->AV->AV->AV->AV->Hp->R):JN 9 f k=f k:=abG rfl (id rfl)
theorem afb (f:(AV->AV->AV->AV->AV->AV->AV->AV->AV->AV->Hp->R)->R)(k:AV->AV->AV->AV->AV->AV->AV->AV->AV->AV->Hp->R):JN 10 f k=f k:=abG rfl (id rfl)
theorem ak2 (f:(AV->AV->AV->AV->AV->AV->AV->AV->AV->AV->AV->Hp->R)->R)(k:AV->AV->AV->AV->AV->AV->AV->AV->AV->AV->AV->Hp->R):JN 11 f k=f k:=abG rfl (id rfl)
theorem adg (f:(AV->AV->AV->AV->AV->AV->AV->AV->AV->AV->AV->AV->Hp->R)->R)(k:AV->AV->AV->AV->AV->AV->AV->AV->AV->AV->AV->AV->Hp->R):JN 12 f k=f k:=abG rfl (id rfl)
theorem ama (f:(AV->AV->AV->AV->AV->AV->AV->AV->AV->AV->AV->AV->AV->Hp->R)->R)(k:AV->AV->AV->AV->AV->AV->AV->AV->AV->AV->AV->AV->AV->Hp->R):JN 13 f k=f k:=abG rfl (id rfl)
theorem ajL (f:(AV->AV->AV->AV->AV->AV->AV->AV->AV->AV->AV->AV->AV->AV->Hp->R)->R)(k:AV->AV->AV->AV->AV->AV->AV->AV->AV->AV->AV->AV->AV->AV->Hp->R):JN 14 f k=f k:=abG rfl (id rfl)
theorem afy (f:(AV->AV->AV->AV->AV->AV->AV->AV->AV->AV->AV->AV->AV->AV->AV->Hp->R)->R)(k:AV->AV->AV->AV->AV->AV->AV->AV->AV->AV->AV->AV->AV->AV->AV->Hp->R):JN 15 f k=f k:=abG rfl (id rfl)
theorem ahH (f:(AV->AV->AV->AV->AV->AV->AV->AV->AV->AV->AV->AV->AV->AV->AV->AV->Hp->R)->R)(k:AV->AV->AV->AV->AV->AV->AV->AV->AV->AV->AV->AV->AV->AV->AV->AV->Hp->R):JN 16 f k=f k:=abG rfl (id rfl)
theorem abV (f:(AV->AV->AV->AV->AV->AV->AV->AV->AV->AV->AV->AV->AV->AV->AV->AV->AV->Hp->R)->R)(k:AV->AV->AV->AV->AV->AV->AV->AV->AV->AV->AV->AV->AV->AV->AV->AV->AV->Hp->R):JN 17 f k=f k:=abG rfl (id rfl)
theorem akm (f:(AV->AV->AV->AV->AV->AV->AV->AV->AV->AV->AV->AV->AV->AV->AV->AV->AV->AV->Hp->R)->R)(k:AV->AV->AV->AV->AV->AV->AV->AV->AV->AV->AV->AV->AV->AV->AV->AV->AV->AV->Hp->R):JN 18 f k=f k:=abG rfl (id rfl)
theorem afF (f:(AV->AV->AV->AV->AV->AV->AV->AV->AV->AV->AV->AV->AV->AV->AV->AV->AV->AV->AV->Hp->R)->R)(k:AV->AV->AV->AV->AV->AV->AV->AV->AV->AV->AV->AV->AV->AV->AV->AV->AV->AV->AV->Hp->R):JN 19 f k=f k:=abG rfl (id rfl)
theorem acI (f:(AV->AV->AV->AV->AV->AV->AV->AV->AV->AV->AV->AV->AV->AV->AV->AV->AV->AV->AV->AV->Hp->R)->R)(k:AV->AV->AV->AV->AV->AV->AV->AV->AV->AV->AV->AV->AV->AV->AV->AV->AV->AV->AV->AV->Hp->R):JN 20 f k=f k:=abG rfl (id rfl)
theorem ahq (f:(AV->AV->AV->AV->AV->AV->AV->AV->AV->AV->AV->AV->AV->AV->AV->AV->AV->AV->AV->AV->AV->Hp->R)->R)(k:AV->AV->AV->AV->AV->AV->AV->AV->AV->AV->AV->AV->AV->AV->AV->AV->AV->AV->AV->AV->AV->Hp->R):JN 21 f k=f k:=abG rfl (id rfl)
theorem afH (f:(AV->AV->AV->AV->AV->AV->AV->AV->AV->AV->AV->AV->AV->AV->AV->AV->AV->AV->AV->AV->AV->AV->Hp->R)->R)(k:AV->AV->AV->AV->AV->AV->AV->AV->AV->AV->AV->AV->AV->AV->AV->AV->AV->AV->AV->AV->AV->AV->Hp->R):JN 22 f k=f k:=abG rfl (id rfl)
theorem akW (f:(AV->AV->AV->AV->AV->AV->AV->AV->AV->AV->AV->AV->AV->AV->AV->AV->AV->AV->AV->AV->AV->AV->AV->Hp->R)->R)(k:AV->AV->AV->AV->AV->AV->AV->AV->AV->AV->AV->AV->AV->AV->AV->AV->AV->AV->AV->AV->AV->AV->AV->Hp->R):JN 23 f k=f k:=abG rfl (id rfl)
theorem alT (f:(AV->AV->AV->AV->AV->AV->AV->AV->AV->AV->AV->AV->AV->AV->AV->AV->AV->AV->AV->AV->AV->AV->AV->AV->Hp->R)->R)(k:AV->AV->AV->AV->AV->AV->AV->AV->AV->AV->AV->AV->AV->AV->AV->AV->AV->AV->AV->AV->AV->AV->AV->AV->Hp->R):JN 24 f k=f k:=abG rfl (id rfl)
theorem afp (x y:R):CD (.bool true) x y=x:=abG rfl (id rfl)
theorem abc (x y:R):CD (.bool false) x y=y:=abG rfl (id rfl)
theorem Kl (b:Bool)(x y:R):CD (.bool b) x y=if b then x else y:=by cases b<;>rfl
theorem afU (f:(AV->Hp->R)->R)(k:AV->Hp->R)(H:Hp):GO (.bool true) true f k H=f k:=abG rfl (id rfl)
theorem age (f:(AV->Hp->R)->R)(k:AV->Hp->R)(H:Hp):GO (.bool false) true f k H=k bP H:=abG rfl (id rfl)
theorem amH (f:(AV->Hp->R)->R)(k:AV->Hp->R)(H:Hp):GO (.bool true) false f k H=k bP H:=abG rfl (id rfl)
theorem adL (f:(AV->Hp->R)->R)(k:AV->Hp->R)(H:Hp):GO (.bool false) false f k H=f k:=abG rfl (id rfl)
theorem aeP (f:(AV->Hp->R)->R)(k:AV->Hp->R)(H:Hp):GO bP true f k H=k bP H:=abG rfl (id rfl)
theorem ahD (f:(AV->Hp->R)->R)(k:AV->Hp->R)(H:Hp):GO bP false f k H=k bP H:=abG rfl (id rfl)
theorem akZ (x y:R):ja (.bool true) true x y=x:=abG rfl (id rfl)
theorem aeN (x y:R):ja (.bool false) true x y=y:=abG rfl (id rfl)
theorem aeE (x y:R):ja (.bool true) false x y=y:=abG rfl (id rfl)
theorem acS (x y:R):ja (.bool false) false x y=x:=abG rfl (id rfl)
theorem ajq (a b:AV):pk (.bool true) a b=some a:=abG rfl (id rfl)
theorem ahs (a b:AV):pk (.bool false) a b=some b:=abG rfl (id rfl)
theorem af0 (i o:Nat):aJ (.ptr i o)=some (.ptr i o):=abG rfl (id rfl)
theorem amo (t:TypeId)(v:AV):aJ (.iface t v)=some (.iface t v):=abG rfl (id rfl)
theorem amN (off i o:Nat):fa off (.ptr i o)=some (.ptr i (o+off)):=abG rfl (id rfl)
theorem ag1 (off:Nat)(l:List AV):fd off (.agg l)=l[off]?:=abG rfl (id rfl)
theorem akR (i:Nat)(l:List AV):ex i (.tuple l)=l[i]?:=abG rfl (id rfl)
theorem al0 (k:IntKind)(a b:Int):aZ (.int k a) (.int k b)=some (.int k (k.wrap (a+b))):=by simp[aZ,ii]
theorem ag5 (k:IntKind)(a b:Int):oL (.int k a) (.int k b)=some (.int k (k.wrap (a-b))):=by simp[oL,ii]
theorem ab5 (k:IntKind)(a b:Int):uT (.int k a) (.int k b)=some (.int k (k.wrap (a*b))):=by simp[uT,ii]
theorem amg (k:IntKind)(a b:Int):bD (.int k a) (.int k b)=some (.bool (a==b)):=by simp[bD,ii]
theorem ajT (k:IntKind)(a b:Int):fQ (.int k a) (.int k b)=some (.bool (a != b)):=by simp[fQ,ii]
theorem acy (k:IntKind)(a b:Int):ba (.int k a) (.int k b)=some (.bool (a<b)):=by simp[ba,ii]
theorem adU (k:IntKind)(a b:Int):pW (.int k a) (.int k b)=some (.bool (a<=b)):=by simp[pW,ii]
theorem ah1 (k:IntKind)(a b:Int):iP (.int k a) (.int k b)=some (.bool (b<a)):=by simp[iP,ii]
theorem QG (k:IntKind)(a b:Int):lI (.int k a) (.int k b)=some (.bool (b<=a)):=by simp[lI,ii]
theorem ayk (k:IntKind)(a b:Int)(h:b≠0):Fy (.int k a) (.int k b)=some (.int k (k.wrap (a.tdiv b))):=by simp[Fy,ii,h]
theorem al6 (k:IntKind)(a b:Int)(h:b≠0):vu (.int k a) (.int k b)=some (.int k (a.tmod b)):=by simp[vu,ii,h]
theorem amG (a b:List Nat):seq (.str a) (.str b)=some (.bool (a==b)):=abG rfl (id rfl)
theorem aeD (a b:List Nat):tf (.str a) (.str b)=some (.bool (!(a==b))):=abG rfl (id rfl)
theorem al7 (a b:List Nat):slt (.str a) (.str b)=some (.bool (si a b)):=abG rfl (id rfl)
theorem Ad {a b:List Nat}(h:a.length+b.length<=4294967296):uh (.str a) (.str b)=some (.str (a++b)):=by have:Nat.ble (a.length+b.length) 4294967296=true:=af1.mpr h;simp[uh,ss,this]
theorem akd (s:List Nat):lens (.str s)=some (.int .i64 s.length):=abG rfl (id rfl)
theorem ag2:aG .ah=some (.int .i64 0):=abG rfl (id rfl)
theorem amE (i o n c:Nat)(x:Bool)(es:Nat):aG (.slice i o n c x es)=some (.int .i64 n):=abG rfl (id rfl)
theorem agD (a b:Bool):bb .eql (.bool a) (.bool b)=some (.bool (a==b)):=abG rfl (id rfl)
theorem aa8 (a b:Bool):bb .neq (.bool a) (.bool b)=some (.bool (!(a==b))):=abG rfl (id rfl)
theorem agS (b:Bool):dY .not (.bool b)=some (.bool !b):=abG rfl (id rfl)
theorem akB (k j:IntKind)(n:Int):cv k (.int j n)=some (.int k (k.wrap n)):=abG rfl (id rfl)
theorem afC (H:Hp):pe .db .db H=some true:=abG rfl (id rfl)
theorem agj (i o:Nat)(H:Hp):pe .db (.ptr i o) H=some false:=abG rfl (id rfl)
theorem agd (i o:Nat)(H:Hp):pe (.ptr i o) .db H=some false:=abG rfl (id rfl)
theorem akk (b:Bool):zd .eql (some b)=some (.bool b):=abG rfl (id rfl)
theorem ael (b:Bool):zd .neq (some b)=some (.bool !b):=abG rfl (id rfl)
theorem eJ {a b:AV}{x:R}(h:same a b=true):SM a b x=x:=by simp[SM,h]
theorem wrap_i64 {a:Int}(h:-9223372036854775808<=a)(k:a<=9223372036854775807):IntKind.wrap .i64 a=a:=by simp only[IntKind.wrap,IntKind.bits,IntKind.signed];simp;omega
section
variable {H H' H'':Hp}{S S' k:List Nat}{T a c cap el es i o off:Nat}{e:ME}{l:List AV}{x:AV}
theorem CR {P:Program}{ext:Nat->Option Ext}{bE:Nat->Option Prim}{an:Nat->An}{aU:Nat}{p:Prim}{args:List AV}{r:AV×Hp}(hp:bE aU=some p)(h:p args H=some r):
  CK P (vh P) ext bE an (.func (.func aU) [] []) args H=some r:=by
 refine WB ON ?_;unfold zQ;simp only[hp,ahG,adz];exact h
def Cs (H:Hp)(i:Nat)(l:List AV)(el fl:Nat):Prop:=i<H.next/\∃c,H.h.get i=some (.cells c 0 l.length el fl)/\∀k v,l[k]?=some v->c.get k=some v
def Mp (H:Hp)(i:Nat)(es:List ME)(c:Nat):Prop:=i<H.next/\H.h.get i=some (.map es c)
def Out (S:List Nat)(H H':Hp):Prop:=H.next<=H'.next/\∀j,j<H.next->j∉S->H'.h.get j=H.h.get j
theorem Out.refl (S:List Nat)(H:Hp):Out S H H:=⟨aaC _,λ_ _ _=>rfl⟩
theorem Out.trans (h:Out S H H')(k:Out S H' H''):Out S H H'':=
 ⟨ahc h.1 k.1,λj hj hs=>(k.2 j (aec hj h.1) hs).trans (h.2 j hj hs)⟩
theorem Out.mono (h:Out S H H')(k:∀j∈S,j∈S'):Out S' H H':=⟨h.1,λj hj hs=>h.2 j hj λq=>hs (k j q)⟩
theorem Out.then (h:Out S H H')(k:Out S' H' H'')(hs:∀j∈S',j∈S\/H.next<=j):Out S H H'':=
 ⟨ahc h.1 k.1,λj hj hn=>(k.2 j (aec hj h.1) λq=>(hs j q).elim hn zzz).trans (h.2 j hj hn)⟩
theorem Cs.out {fl:Nat}(h:Cs H i l el fl)(k:Out S H H')(hi:i∉S):Cs H' i l el fl:=
 ⟨aec h.1 k.1,by rw[k.2 i h.1 hi];exact h.2⟩
theorem Mp.out {es:List ME}(h:Mp H i es c)(k:Out S H H')(hi:i∉S):Mp H' i es c:=
 ⟨aec h.1 k.1,by rw[k.2 i h.1 hi];exact h.2⟩
theorem Cs.cellAt {H:Hp}{i:Nat}{l:List AV}{el fl:Nat}(h:Cs H i l el fl){o:Nat}{v:AV}(hv:l[o]?=some v):cellAt H i o=some v:=by
 obtain⟨_,c,hc,hg⟩:=h;have ho:o<l.length:=(aak.1 hv).1;unfold Am.cellAt;rw[hc];have hb:(Nat.ble 0 o&&Nat.blt o l.length)=true:=by rw[aaA,af1,aeI];omega
 simp only[hb,cond_true];exact hg o v hv
theorem Cs.ld {H:Hp}{i:Nat}{l:List AV}{el fl:Nat}(h:Cs H i l el fl){o:Nat}{v:AV}(hv:l[o]?=some v):ld (.ptr i o) H=some v:=h.cellAt hv
theorem Cs.au {H:Hp}{i:Nat}{l:List AV}{el fl:Nat}(h:Cs H i l el fl):∀(n o:Nat),o+n<=l.length->au H i o n=some ((l.drop o).take n)
 |0,o,_=>by simp[Am.au]
 |n+1,o,hn=>by have ho:o<l.length:=zzz;have h1:=h.cellAt (o:=o) (v:=l[o]) (aap ho);have h2:=h.au n (o+1) zzz;unfold Am.au;rw[h1,h2,ajy ho];rfl
theorem QR (H:Hp)(i j:Nat)(o:AO):(setObj H i o).h.get j=if j=i then some o else H.h.get j:=Tr.gw _ _ _ _
theorem UK {fl:Nat}(h:Cs H i l el fl)(hf:fl<=1)(ho:o<l.length){v:AV}(hv:aX v=true):
  ∃H',setCell H i o v=some H'/\Cs H' i (l.set o v) el fl/\Out [i] H H'/\H'.next=H.next:=by
 obtain⟨hi,c,hc,hg⟩:=h;have hs:(c.get o).isSome=true:=by rw[hg o l[o] (aap ho)];rfl
 have hb:(Nat.ble 0 o&&Nat.blt o l.length&&Nat.ble fl 1&&(c.get o).isSome&&aX v)=true:=by simp only[aaA,af1,aeI];exact⟨⟨⟨⟨zzz,ho⟩,hf⟩,hs⟩,hv⟩
 refine⟨{H with h:=H.h.cL i (.cells (c.cL o v) 0 l.length el fl)},?_,⟨hi,c.cL o v,?_,?_⟩,⟨aaC _,?_⟩,rfl⟩;·unfold setCell;rw[hc];simp only[hb,cond_true]
 ·show (Tr.cL H.h i _).get i=_;rw[Tr.cL,Tr.gw,zz2 rfl,adZ]
 ·intro k u hk;rw[Tr.cL,Tr.gw];by_cases hko:k=o;·subst hko;rw[agH zzz] at hk;rw[zz2 rfl];exact hk
  ·rw[aj6 (λq=>hko q.symm)] at hk;rw[zz1 hko];exact hg k u hk
 ·intro j hj hn;show (Tr.cL H.h i _).get j=_;rw[Tr.cL,Tr.gw,zz1 (by simpa using hn)]
theorem ff {fl:Nat}(h:Cs H i l el fl)(hf:fl<=1)(ho:o<l.length){v:AV}(hv:aX v=true):
  ∃H',st 1 (.ptr i o) v H=some H'/\Cs H' i (l.set o v) el fl/\Out [i] H H'/\H'.next=H.next:=by
 obtain⟨H',h1,h2,h3,h4⟩:=UK h hf ho hv;refine⟨H',?_,h2,h3,h4⟩;have hc:tM v=some [v]:=by cases v<;>first|rfl|cases hv
 unfold st;simp only[hc];show setCells H i o [v]=_;simp only[setCells,h1,acH,acQ]
theorem adP (H:Hp)(l:List AV)(el fl:Nat)(hl:l.length<=16777216):∃H',aA H l el fl=some (H.next,H')/\Cs H' H.next l el fl/\Out [] H H'/\H'.next=H.next+1:=by
 refine⟨⟨H.h.put 34 H.next (.cells (Tr.bZ .nil 0 l) 0 l.length el fl),H.next+1⟩,?_,⟨ai9 _,Tr.bZ .nil 0 l,?_,?_⟩,⟨ahX _,?_⟩,rfl⟩;·unfold aA alloc;have:Nat.ble l.length 16777216=true:=af1.mpr hl;rw[this];rfl
 ·show (Tr.put 34 H.h H.next _).get H.next=_;rw[Tr.put,Tr.gw,zz2 rfl]
 ·intro k v hk;rw[Co];have:=(aak.1 hk).1;rw[zz2 zzz];exact hk
 ·intro j hj _;show (Tr.put 34 H.h H.next _).get j=_;rw[Tr.put,Tr.gw,zz1 zzz]
theorem RZ (H:Hp):∃H',Bj H=some (H.next,H')/\Mp H' H.next [] 0/\Out [] H H'/\H'.next=H.next+1:=by
 refine⟨⟨H.h.put 34 H.next (.map [] 0),H.next+1⟩,rfl,⟨ai9 _,?_⟩,⟨ahX _,?_⟩,rfl⟩;·show (Tr.put 34 H.h H.next _).get H.next=_;rw[Tr.put,Tr.gw,zz2 rfl]
 ·intro j hj _;show (Tr.put 34 H.h H.next _).get j=_;rw[Tr.put,Tr.gw,zz1 zzz]
def Ro (H:Hp)(i off:Nat)(l:List AV):Prop:=i<H.next/\∃c lo hi el fl,H.h.get i=some (.cells c lo hi el fl)/\lo<=off/\off+l.length<=hi/\∀k v,l[k]?=some v->c.get (off+k)=some v
theorem Cs.ro {fl:Nat}(h:Cs H i l el fl):Ro H i 0 l:=by obtain⟨hi,c,hc,hg⟩:=h;exact⟨hi,c,0,l.length,el,fl,hc,aaC _,zzz,λk v hk=>by rw[ad0];exact hg k v hk⟩
theorem Ro.out (h:Ro H i off l)(k:Out S H H')(hi:i∉S):Ro H' i off l:=
 ⟨aec h.1 k.1,by rw[k.2 i h.1 hi];exact h.2⟩
theorem Ro.cellAt {H:Hp}{i off:Nat}{l:List AV}(h:Ro H i off l){k:Nat}{v:AV}(hv:l[k]?=some v):cellAt H i (off+k)=some v:=by
 obtain⟨_,c,lo,hi,el,fl,hc,h1,h2,hg⟩:=h;have hk:k<l.length:=(aak.1 hv).1;unfold Am.cellAt;rw[hc];have hb:(Nat.ble lo (off+k)&&Nat.blt (off+k) hi)=true:=by rw[aaA,af1,aeI];omega
 simp only[hb,cond_true];exact hg k v hv
theorem Ro.ld {H:Hp}{i off:Nat}{l:List AV}(h:Ro H i off l){k:Nat}{v:AV}(hv:l[k]?=some v):ld (.ptr i (off+k)) H=some v:=h.cellAt hv
theorem Ro.drop (h:Ro H i off l)(n:Nat)(hn:n<=l.length):Ro H i (off+n) (l.drop n):=by obtain⟨hi,c,lo,jP,el,fl,hc,h1,h2,hg⟩:=h;refine⟨hi,c,lo,jP,el,fl,hc,zzz,by rw[af5];omega,λk v hk=>?_⟩;rw[ahf] at hk;rw[ame];exact hg _ v hk
theorem Ro.take (h:Ro H i off l)(n:Nat):Ro H i off (l.take n):=by
 obtain⟨hi,c,lo,jP,el,fl,hc,h1,h2,hg⟩:=h;refine⟨hi,c,lo,jP,el,fl,hc,h1,by rw[aeX];omega,λk v hk=>?_⟩;rw[ajA] at hk;split at hk;·exact hg _ v hk
 ·cases hk
theorem Ro.au:∀{l:List AV} {off:Nat},Ro H i off l->Am.au H i off l.length=some l
 |[],off,_=>rfl|v::l,off,h=>by have h1:=h.cellAt (k:=0) (v:=v) rfl;have h2:=(h.drop 1 zzy).au;simp only[List.drop_succ_cons,abl] at h2;rw[ae9] at h1;rw[aaG];unfold Am.au;rw[h1,h2];rfl
def ak:AV->List Nat
 |.slice i _ _ cap ex _=>bif ex&&Nat.beq cap 0 then [] else [i]
 |.ptr i _=>[i]|.map i=>[i]|_=>[]
theorem oR {n:Nat}{ex:Bool}(h:(ex&&Nat.beq cap 0)=false):ak (.slice i o n cap ex es)=[i]:=by simp only[ak,h,cond_false]
inductive Rw (H:Hp) (es:Nat):AV->List AV->Prop
 |nil:Rw H es .ah []
 |emp {i off:Nat}:Rw H es (.slice i off 0 0 true es) []
 |mk {i off n cap:Nat} {ex:Bool} {l:List AV} (h:Ro H i off l) (hn:l.length=n*es) (hc:n<=cap) (he:(ex&&Nat.beq cap 0)=false):Rw H es (.slice i off n cap ex es) l
theorem Rw.out (h:Rw H es x l)(k:Out S H H')(hi:∀j∈ak x,j∉S):Rw H' es x l:=by
 cases h with
 |nil=>exact .nil|emp=>exact .emp|mk h hn hc he=>exact .mk (h.out k (hi _ (by rw[oR he];exact .head _))) hn hc he
theorem Rw.lt (h:Rw H es x l):∀j∈ak x,j<H.next:=by
 cases h with
 |nil=>intro j hj;cases hj
 |emp=>intro j hj;cases hj
 |mk h hn hc he=>intro j hj;rw[oR he,No] at hj;subst hj;exact h.1
theorem Rw.len (h:Rw H es x l):∃n:Nat,aG x=some (.int .i64 n)/\l.length=n*es:=by
 cases h with
 |nil=>exact⟨0,rfl,zzy⟩|emp=>exact⟨0,rfl,zzy⟩|mk h hn hc he=>exact⟨_,rfl,hn⟩
theorem Rw.gz (h:Rw H 1 x l):aG x=some (.int .i64 l.length):=by obtain⟨n,h1,h2⟩:=h.len;rw[h1,h2,aee]
inductive Ow (H:Hp) (el es:Nat):AV->List AV->Prop
 |nil:Ow H el es .ah []
 |emp {i off:Nat}:Ow H el es (.slice i off 0 0 true es) []
 |mk {i off n cap:Nat} {ex:Bool} {l:List AV} {c:Tr AV} {lo hi fl:Nat} (jP:i<H.next) (hg:H.h.get i=some (.cells c lo hi el fl)) (hf:fl<=1) (iy:lo<=off) (kW:off+cap*es<=hi) (jr:n<=cap) (hn:l.length=n*es)
   (hc:∀k v,l[k]?=some v->c.get (off+k)=some v) (hs:∀k,k<cap*es->(c.get (off+k)).isSome=true) (h1:∀v∈l,aX v=true) (he:(ex&&Nat.beq cap 0)=false):Ow H el es (.slice i off n cap ex es) l
theorem Ow.rw {H:Hp}{el es:Nat}{x:AV}{l:List AV}(h:Ow H el es x l):Rw H es x l:=by
 cases h with
 |nil=>exact .nil|emp=>exact .emp|@mk i off n cap ex l c lo hi fl jP hg hf iy kW jr hn hc hs h1 he=>
  exact .mk ⟨jP,c,lo,hi,el,fl,hg,iy,by rw[hn];exact ahc (Nat.add_le_add_left (aeQ _ jr) _) kW,hc⟩ hn jr he
theorem Ow.out (h:Ow H el es x l)(k:Out S H H')(hi:∀j∈ak x,j∉S):Ow H' el es x l:=by
 cases h with
 |nil=>exact .nil|emp=>exact .emp|mk jP hg hf iy kW jr hn hc hs h1 he=>exact .mk (aec jP k.1) (by rw[k.2 _ jP (hi _ (by rw[oR he];exact .head _))];exact hg) hf iy kW jr hn hc hs h1 he
theorem Ow.one (h:Ow H el es x l):∀v∈l,aX v=true:=by
 cases h with
 |nil=>intro v hv;cases hv
 |emp=>intro v hv;cases hv
 |mk _ _ _ _ _ _ _ _ _ h1 _=>exact h1
theorem Cs.ow {n:Nat}{fl:Nat}(h:Cs H i l el fl)(hf:fl<=1)(hn:l.length=n*es)(h1:∀v∈l,aX v=true)(ex:Bool):Ow H el es (.slice i 0 n n ex es) l:=by
 cases hex:(ex&&Nat.beq n 0) with
 |true=>
  rw[aaA] at hex;obtain⟨rfl,nj⟩:=hex;obtain rfl:=abx nj;have:l=[]:=by simpa using hn
  subst this;exact .emp
 |false=>
 obtain⟨hi,c,hc,hg⟩:=h;refine .mk hi hc hf (aaC _) zzz (aaC _) hn (λk v hk=>by rw[ad0];exact hg k v hk) (λk hk=>?_) h1 hex;rw[ad0,hg k l[k] (aap zzz)];rfl
theorem Qf:∀(l:List AV) (H:Hp) (i off:Nat) (c:Tr AV) (lo hi el fl:Nat),H.h.get i=some (.cells c lo hi el fl)->fl<=1->lo<=off->off+l.length<=hi->(∀k,k<l.length->(c.get (off+k)).isSome=true)->(∀v∈l,aX v=true)->
  ∃H' c',setCells H i off l=some H'/\H'.next=H.next/\H'.h.get i=some (.cells c' lo hi el fl)/\(∀j,j≠i->H'.h.get j=H.h.get j)/\∀k,c'.get k=if off<=k/\k<off+l.length then l[k-off]? else c.get k
 |[],H,i,off,c,lo,hi,el,fl,hg,hf,h1,h2,hs,ho=>⟨H,c,rfl,rfl,hg,λ_ _=>rfl,λk=>by rw[zz1 (by simp only[acU];omega)]⟩|v::l,H,i,off,c,lo,hi,el,fl,hg,hf,h1,h2,hs,ho=>by
  simp only[aaG] at h2;have xY:=hs 0 zzy;rw[ae9] at xY;have hb:(Nat.ble lo off&&Nat.blt off hi&&Nat.ble fl 1&&(c.get off).isSome&&aX v)=true:=by simp only[aaA,af1,aeI];exact⟨⟨⟨⟨h1,zzz⟩,hf⟩,xY⟩,ho v (.head _)⟩
  have fO:setCell H i off v=some {H with h:=H.h.cL i (.cells (c.cL off v) lo hi el fl)}:=by unfold setCell;rw[hg];simp only[hb,cond_true]
  obtain⟨H',c',q1,q2,q3,q4,q5⟩:=Qf l {H with h:=H.h.cL i (.cells (c.cL off v) lo hi el fl)} i (off+1) (c.cL off v) lo hi el fl (by
    show (Tr.cL H.h i _).get i=_;rw[Tr.cL,Tr.gw,zz2 rfl]) hf zzz zzz (λk hk=>by
    rw[Tr.cL,Tr.gw];split;·rfl
    ·have:=hs (k+1) (by simp;omega);rw[show off+1+k=off+(k+1) by omega];exact this) (λu hu=>ho u (.tail _ hu))
  refine⟨H',c',?_,q2,q3,λj hj=>?_,λk=>?_⟩;·simp only[setCells,fO,acH,acQ];exact q1
  ·rw[q4 j hj];show (Tr.cL H.h i _).get j=_;rw[Tr.cL,Tr.gw,zz1 hj]
  ·rw[q5 k,Tr.cL,Tr.gw];by_cases hk:k=off;·subst hk;rw[zz1 zzz,zz2 rfl,zz2 zzy,aka];rfl
   ·rw[zz1 hk];by_cases gZ:off+1<=k/\k<off+1+l.length;·rw[zz2 gZ,zz2 (by simp;omega),show k-off=(k-(off+1))+1 by omega,adr]
    ·rw[zz1 gZ,zz1 (by simp;omega)]
theorem MC {n:Nat}{s:AV}{new:List AV}(h:Ow H el es s l)(tW:new.length=n*es)(ho:∀v∈new,aX v=true)(dO:0<es)(hlen:l.length+new.length<=16777216):
  ∃s' H',GZ el es n new s H=some (s',H')/\Ow H' el es s' (l++new)/\Out (ak s) H H'/\(∀j∈ak s',j∈ak s\/H.next<=j):=by
 have mn:∀v∈l++new,aX v=true:=λv hv=>(abm.1 hv).elim (h.one v) (ho v);have amu:∀s0:List Nat,n≠0->l=[]->∃H',aA H new el 0=some (H.next,H')/\Ow H' el es (.slice H.next 0 n n false es) (l++new)/\Out s0 H H'/\(∀j∈ak (.slice H.next 0 n n false es),j∈s0\/H.next<=j):=by intro s0 hn hl;subst hl;obtain⟨H',h1,h2,h3,h4⟩:=adP H new el 0 (by simp only[acU] at hlen;omega);refine⟨H',h1,h2.ow zzz tW ho false,h3.mono (λj hj=>by cases hj),λj hj=>?_⟩;simp only[ak,acW,cond_false,No] at hj;exact .inr zzz
 cases h with
 |nil=>
  unfold GZ;simp only;by_cases hn:n=0
  ·subst hn;have:new=[]:=by simpa using tW
   subst this;exact⟨.ah,H,rfl,.nil,Out.refl _ _,λj hj=>by cases hj⟩
  ·rw[qz hn,cond_false];have hle:n<=16777216:=by have:=Nat.le_mul_of_pos_right n dO;simp only[acU] at hlen;omega
   have hb:Nat.ble n 16777216=true:=af1.mpr hle;rw[hb,cond_true];obtain⟨H',h1,h2⟩:=amu [] hn rfl;exact⟨_,H',by rw[h1];rfl,h2⟩
 |@emp i off=>
  unfold GZ;have hle:n<=16777216:=by have:=Nat.le_mul_of_pos_right n dO;simp only[acU] at hlen;omega
  have hb:(Nat.ble (0+n) 16777216&&Nat.beq es es&&new.all aX)=true:=by simp only[aaA,af1,zq,aeh];exact⟨⟨zzz,trivial⟩,ho⟩
  simp only[hb,cond_true];by_cases hn:n=0
  ·subst hn;have:new=[]:=by simpa using tW
   subst this;exact⟨.slice i off 0 0 true es,H,rfl,.emp,Out.refl _ _,λj hj=>by cases hj⟩
  ·have jG:Nat.ble (0+n) 0=false:=by rw[<-aja,af1];omega
   rw[jG,cond_false];obtain⟨H',h1,h2⟩:=amu (ak (.slice i off 0 0 true es)) hn rfl;refine⟨.slice H.next 0 n n false es,H',?_,h2⟩;simp only[ai8,Am.au,acQ,ahG,h1,aeL,ad0]
 |@mk i off m cap ex l c lo hi fl jP hg hf iy kW jr hn hc hs h1 he=>
  unfold GZ;have lE:n<=new.length:=by rw[tW];exact Nat.le_mul_of_pos_right n dO
  have Hh:m<=l.length:=by rw[hn];exact Nat.le_mul_of_pos_right m dO
  have hb:(Nat.ble (m+n) 16777216&&Nat.beq es es&&new.all aX)=true:=by simp only[aaA,af1,zq,aeh];exact⟨⟨zzz,trivial⟩,ho⟩
  simp only[hb,cond_true];have lP:(l++new).length=(m+n)*es:=by rw[aam,hn,tW,agX]
  by_cases Z8:m+n<=cap
  ·have jG:Nat.ble (m+n) cap=true:=af1.mpr Z8;rw[jG,cond_true];have hr:(m+n)*es<=cap*es:=aeQ _ Z8;rw[agX] at hr;obtain⟨H',c',q1,q2,q3,q4,q5⟩:=Qf new H i (off+m*es) c lo hi el fl hg hf zzz (by rw[tW];omega) (λk hk=>by rw[ame];exact hs _ (by rw[tW] at hk;omega)) ho;refine⟨_,H',by rw[q1];rfl,.mk (by rw[q2];exact jP) q3 hf iy kW Z8 lP (λk v hk=>?_) (λk hk=>?_) mn he,⟨by rw[q2];exact aaC _,λj hj Dz=>q4 j (by rw[oR he] at Dz;simpa using Dz)⟩,λj hj=>.inl (by rw[oR he] at hj⊢;exact hj)⟩
   ·rw[q5];by_cases jZ:k<l.length;·rw[zz1 zzz,hc k v (by rw[abE jZ] at hk;exact hk)]
    ·rw[ab4 zzz] at hk;have:=(aak.1 hk).1;rw[zz2 zzz,<-hk];congr 1;omega
   ·rw[q5];split;·rename_i hq;rw[aap zzz];rfl
    ·exact hs k hk
  ·have jG:Nat.ble (m+n) cap=false:=by rw[<-aja,af1];omega
   rw[jG,cond_false];cases ex with
   |true=>
    simp only[cond_true];have KW:Ro H i off l:=⟨jP,c,lo,hi,el,fl,hg,iy,by rw[hn];exact ahc (Nat.add_le_add_left (aeQ _ jr) _) kW,hc⟩;have Bv:=KW.au;rw[hn] at Bv;rw[Bv];obtain⟨H',r1,r2,r3,r4⟩:=adP H (l++new) el 0 (by rw[aam];omega);refine⟨_,H',by simp only[acQ];rw[r1];rfl,r2.ow zzz lP mn false,r3.mono (λj hj=>by cases hj),λj hj=>?_⟩;simp only[ak,acW,cond_false,No] at hj;exact .inr zzz
   |false=>
    simp only[cond_false,hg];have hr:m*es<=cap*es:=aeQ _ jr;have xp:(Nat.ble fl 1&&Nat.ble lo off&&Nat.ble (off+m*es) hi&&Nat.beq el el)=true:=by simp only[aaA,af1,zq];exact⟨⟨⟨hf,iy⟩,zzz⟩,trivial⟩
    rw[xp,cond_true];refine⟨_,_,rfl,.mk (c:=c.bZ (off+m*es) new) (lo:=off) (hi:=off+(m+n)*es) (fl:=1) ?_ ?_ zzz (aaC _) (aaC _) (aaC _) lP (λk v hk=>?_) (λk hk=>?_) mn rfl,⟨?_,λj hj Dz=>?_⟩,λj hj=>?_⟩;·exact ai9 _
    ·show (Tr.put 34 (H.h.del i) H.next _).get H.next=_;rw[Tr.put,Tr.gw,zz2 rfl]
    ·rw[Tr.yE];by_cases jZ:k<l.length;·rw[zz1 zzz,hc k v (by rw[abE jZ] at hk;exact hk)]
     ·rw[ab4 zzz] at hk;have:=(aak.1 hk).1;rw[zz2 zzz,<-hk];congr 1;omega
    ·rw[Tr.yE];rw[agX] at hk;split;·rename_i hq;rw[aap zzz];rfl
     ·exact hs k zzz
    ·exact ahX _
    ·show (Tr.put 34 (H.h.del i) H.next _).get j=_;rw[Tr.put,Tr.gw,zz1 zzz,Tr.YG,zz1 (by rw[oR he] at Dz;simpa using Dz)]
    ·simp only[ak,acW,cond_false,No] at hj;subst hj;exact .inr (aaC _)
theorem ami {z:List AV}{s:AV}{new:List AV}(h:Ow H el es s l)(hx:Rw H es x new)(ho:∀v∈new,aX v=true)(dO:0<es)(hlen:l.length+new.length<=16777216):
  ∃s' H',cY el es z false s x H=some (s',H')/\Ow H' el es s' (l++new)/\Out (ak s) H H'/\(∀j∈ak s',j∈ak s\/H.next<=j):=by
 cases hx with
 |nil=>
  obtain⟨s',H',h1,h2⟩:=MC (n:=0) (new:=[]) h zzy ho dO hlen;exact⟨s',H',h1,h2⟩
 |@emp i off=>
  obtain⟨s',H',h1,h2⟩:=MC (n:=0) (new:=[]) h zzy ho dO hlen;refine⟨s',H',?_,h2⟩;have:Bm es z false (.slice i off 0 0 true es) H=some (0,[]):=by show (Am.au H i off (0*es)).map (λl=>(0,l))=_;rw[ai8];rfl
  unfold cY;rw[this];exact h1
 |@mk i off n cap ex l' hr hn hc he=>
  obtain⟨s',H',h1,h2⟩:=MC h hn ho dO hlen;refine⟨s',H',?_,h2⟩;have:Bm es z false (.slice i off n cap ex es) H=some (n,new):=by show (Am.au H i off (n*es)).map (λl=>(n,l))=_;rw[<-hn,hr.au];rfl
  unfold cY;rw[this];exact h1
def bs (l:List Nat):List AV:=l.map λ(b:Nat)=>AV.int .u8 b
theorem ail (l:List Nat):∀v∈bs l,aX v=true:=by intro v hv;obtain⟨b,_,rfl⟩:=acx.1 hv;rfl
theorem mz (l:List Nat):(bs l).length=l.length:=by simp[bs]
theorem Y0 (a b:List Nat):bs (a++b)=bs a++bs b:=by simp[bs]
theorem ZA:∀(l:List Nat),(∀b∈l,b<256)->yC (bs l)=some l
 |[],_=>rfl|b::l,h=>by
  have h1:=ZA l (λx hx=>h x (.tail _ hx));have h2:=h b (.head _);have h3:(decide (0<=(b:Int))&&decide ((b:Int)<256))=true:=by simp;omega
  show yC (AV.int .u8 (b:Int)::bs l)=_;unfold yC;rw[h3,h1];simp
theorem Ds {l:List Nat}(h:Rw H 1 x (bs l))(hl:∀b∈l,b<256):xf x H=some (.str l):=by
 generalize jY:bs l=cs at h;cases h with
 |nil=>
  have:l=[]:=by simpa[bs] using jY
  subst this;rfl
 |@emp i off=>
  have:l=[]:=by simpa[bs] using jY
  subst this;rfl
 |@mk i off n cap ex l' hr hn hc he=>
  rw[aee] at hn;unfold xf;simp only;by_cases h0:n=0
  ·subst h0;have:l=[]:=by subst jY;simpa[bs] using hn
   subst this;rfl
  ·rw[qz h0,cond_false,<-hn,hr.au,<-jY];simp only[acQ,ZA l hl];rfl
theorem Pn {k:IntKind}{n lo hi:Nat}(h1:lo<=n)(h2:n<=hi):bound lo hi (.int k n)=some n:=by
 unfold bound;have:(decide ((lo:Int)<=(n:Int))&&decide ((n:Int)<=(hi:Int)))=true:=by simp;omega
 simp only[this,if_true,acv]
def Bd (o:Option AV)(n ap1:Nat):Prop:=(o=none/\n=ap1)\/∃k,o=some (.int k n)
theorem Bd.no (n:Nat):Bd none n n:=.inl ⟨rfl,rfl⟩
theorem Bd.yes (k:IntKind)(n d:Nat):Bd (some (.int k n)) n d:=.inr ⟨k,rfl⟩
theorem Bd.aCB (k:IntKind)(d:Nat):Bd (some (.int k 0)) 0 d:=.inr ⟨k,rfl⟩
theorem Dk {len b:Nat}{lo hi:Option AV}(zW:a<=b)(hb:b<=len)(hc:len<=cap)(iy:Bd lo a 0)(kW:Bd hi b len):ud len cap lo hi none=some (a,b,cap):=by
 unfold ud;rcases kW with⟨rfl,rfl⟩|⟨k,rfl⟩<;>rcases iy with⟨rfl,rfl⟩|⟨j,rfl⟩;·rfl
 ·simp only[acH,acQ,Pn (abz _) zW];rfl
 ·simp only[acH,acQ,Pn (abz _) (ahc hb hc)];rfl
 ·simp only[acH,acQ,Pn (abz _) (ahc hb hc),Pn (abz _) zW];rfl
theorem zN {n b:Nat}(h:Rw H es x l)(hl:l.length=n*es)(dO:0<es){lo hi:Option AV}(zW:a<=b)(hb:b<=n)(iy:Bd lo a 0)(kW:Bd hi b n):
  ∃x',nG es x lo hi none=some x'/\Rw H es x' ((l.drop (a*es)).take ((b-a)*es))/\∀j∈ak x',j∈ak x:=by
 cases h with
 |nil=>
  have hn:n=0:=by simp only[acU] at hl;rcases Nat.mul_eq_zero.1 hl.symm with q|q<;>omega
  subst hn;have jf:b=0:=zzz;have ha0:a=0:=zzz;subst jf;subst ha0;refine⟨.ah,?_,by simpa using Rw.nil,λj hj=>hj⟩;unfold nG;simp only[Dk (aaC 0) (aaC 0) (aaC 0) iy kW];rfl
 |@emp i off=>
  have hn:n=0:=by simp only[acU] at hl;rcases Nat.mul_eq_zero.1 hl.symm with q|q<;>omega
  subst hn;have jf:b=0:=zzz;have ha0:a=0:=zzz;subst jf;subst ha0;refine⟨.slice i (off+0*es) 0 0 true es,?_,by simpa using Rw.emp,λj hj=>by cases hj⟩;unfold nG;simp only[Dk (aaC 0) (aaC 0) (aaC 0) iy kW];simp
 |@mk i off m cap ex l hr hn hc he=>
  have hm:m=n:=Nat.eq_of_mul_eq_mul_right dO (hn.symm.trans hl);subst hm;refine⟨.slice i (off+a*es) (b-a) (cap-a) ex es,?_,?_,?_⟩;·unfold nG;simp only[Dk zW hb hc iy kW,acQ];simp
  ·cases hq:(ex&&Nat.beq (cap-a) 0) with
   |true=>
    rw[aaA] at hq;obtain⟨rfl,h0⟩:=hq;have h0:=abx h0;have hba:b-a=0:=zzz;rw[h0,hba,ai8,alj];exact .emp
   |false=>
    have h1:a*es<=l.length:=by rw[hl];exact aeQ _ zzz
    refine .mk ((hr.drop (a*es) h1).take _) ?_ zzz hq;rw[aeX,af5,hl,<-Nat.sub_mul];exact anX (aeQ _ zzz)
  ·intro j hj;rw[oR he];simp only[ak] at hj;cases hq:(ex&&Nat.beq (cap-a) 0)<;>rw[hq] at hj;·exact hj
   ·cases hj
theorem aan {k:List Nat}:∀(es:List ME) (i:Nat),(∀e∈es,∃q,e.key=.str q/\q≠k)->fk .str (.str k) es i=some none
 |[],i,_=>rfl|e::es,i,h=>by
  obtain⟨q,h1,h2⟩:=h e (.head _);have:BJ .str (.str k) e.key=some false:=by rw[h1];show some (k==q)=some false;rw[zz7 (λx=>h2 x.symm)]
  unfold fk;rw[this];exact aan es (i+1) (λe he=>h e (.tail _ he))
theorem amt {k:List Nat}:∀es:List ME,(∀e∈es,∃q,e.key=.str q/\q≠k)->nk .str (.str k) es=true
 |[],h=>rfl|e::es,h=>by
  obtain⟨q,h1,h2⟩:=h e (.head _);have:BJ .str (.str k) e.key=some false:=by rw[h1];show some (k==q)=some false;rw[zz7 (λx=>h2 x.symm)]
  unfold nk;rw[this];exact amt es (λe he=>h e (.tail _ he))
theorem ZR {k:List Nat}{e:ME}{b:List ME}(hk:e.key=.str k)(hb:∀e∈b,∃q,e.key=.str q/\q≠k):∀(a:List ME) (i:Nat),(∀e∈a,∃q,e.key=.str q/\q≠k)->fk .str (.str k) (a++e::b) i=some (some (i+a.length,e))
 |[],i,_=>by
  have:BJ .str (.str k) e.key=some true:=by rw[hk];show some (k==k)=some true;rw[beq_self_eq_true]
  show fk .str (.str k) (e::b) i=_;unfold fk;rw[this,amt b hb];rfl
 |x::a,i,h=>by
  obtain⟨q,h1,h2⟩:=h x (.head _);have:BJ .str (.str k) x.key=some false:=by rw[h1];show some (k==q)=some false;rw[zz7 (λx=>h2 x.symm)]
  show fk .str (.str k) (x::(a++e::b)) i=_;unfold fk;rw[this];simp only;rw[ZR hk hb a (i+1) (λe he=>h e (.tail _ he)),aaG];congr 3;omega
theorem Jy {es:List ME}(h:Mp H i es c):mapOf H (.map i)=some (es,c):=by unfold mapOf;simp only[h.2]
theorem aaM {es:List ME}(h:Mp H i es c)(hk:∀e∈es,∃q,e.key=.str q/\q≠k)(z:AV)(ok:Bool):sw .str z ok (.map i) (.str k) H=some (bif ok then .tuple [z,.bool false] else z):=by unfold sw;rw[Jy h];simp only[aan es 0 hk]
theorem ag4 {a b:List ME}(h:Mp H i (a++e::b) c)(he:e.key=.str k)(hk:∀e∈a,∃q,e.key=.str q/\q≠k)(hb:∀e∈b,∃q,e.key=.str q/\q≠k)(z:AV)(ok:Bool):
  sw .str z ok (.map i) (.str k) H=some (bif ok then .tuple [e.val,.bool true] else e.val):=by
 unfold sw;rw[Jy h];simp only[ZR he hb a 0 hk]
theorem Mp.set {es:List ME}(h:Mp H i es c)(es':List ME)(c':Nat):Mp (setObj H i (.map es' c')) i es' c'/\Out [i] H (setObj H i (.map es' c')):=
 ⟨⟨h.1,by rw[QR,zz2 rfl]⟩,aaC _,λj _ hn=>by rw[QR,zz1 (by simpa using hn)]⟩
theorem ajD {es:List ME}(h:Mp H i es c)(hk:∀e∈es,∃q,e.key=.str q/\q≠k)(v:AV):
  ∃H',yD .str (.map i) (.str k) v H=some H'/\Mp H' i (es++[⟨.str k,v,c⟩]) (c+1)/\Out [i] H H':=by
 refine⟨_,?_,h.set _ _⟩;unfold yD;simp only[h.2,aan es 0 hk]
theorem atq {a b:List ME}(h:Mp H i (a++e::b) c)(he:e.key=.str k)(hk:∀e∈a,∃q,e.key=.str q/\q≠k)(hb:∀e∈b,∃q,e.key=.str q/\q≠k)(v:AV):
  ∃H',yD .str (.map i) (.str k) v H=some H'/\Mp H' i (a++{e with key:=.str k,val:=v}::b) c/\Out [i] H H':=by
 refine⟨_,?_,h.set _ _⟩;unfold yD;have hs:GA e.key (.str k)=true:=by rw[he];simp[GA,Lz]
 simp only[h.2,ZR he hb a 0 hk,hs,cond_true];simp
theorem CZ {n:Nat}{ex:Bool}{k:IntKind}{j:Nat}(h:j<n):ia es (.slice i off n cap ex es) (.int k j)=some (.ptr i (off+j*es)):=by unfold ia;simp only;rw[zz2 ⟨trivial,zzz,zzz⟩,acv]
theorem nU (x:R):xT true x=x:=abG rfl (id rfl)
theorem pY (z:List AV):fl z []=some z:=abG rfl (id rfl)
theorem JJ {P:Program}(hT:P.underlying T=some (.slice el))(H:Hp):fT P .eql T .ah .ah H=some (.bool true):=by unfold fT eE;simp only[hT];rfl
theorem K1 {P:Program}(hT:P.underlying T=some (.slice el))(i o n c:Nat)(ex:Bool)(es:Nat)(H:Hp):fT P .eql T (.slice i o n c ex es) .ah H=some (.bool false):=by unfold fT eE;simp only[hT];rfl
theorem Nk (P:Program)(T:Nat)(c:Bool):gA P .eql T c .ah .ah=true:=abG rfl (id rfl)
theorem MF (P:Program)(T:Nat)(c:Bool)(i o n k:Nat)(ex:Bool)(es:Nat):gA P .eql T c (.slice i o n k ex es) .ah=true:=abG rfl (id rfl)
theorem at7 (P:Program)(t:Array TypeId)(k j:IntKind)(a b:Int)(H:Hp):iW P .max t [.int k a,.int j b] H=some (.int k (if a<b then b else a),H):=abG rfl (id rfl)
theorem KU (P:Program)(t:Array TypeId)(k j:IntKind)(a b:Int)(H:Hp):iW P .min t [.int k a,.int j b] H=some (.int k (if b<a then b else a),H):=abG rfl (id rfl)
theorem Rw.fU (h:Rw H 1 x l){v:AV}(hv:l[i]?=some v)(k:IntKind):∃q,ia 1 x (.int k i)=some q/\ld q H=some v:=by
 cases h with
 |nil=>cases hv
 |emp=>cases hv
 |@mk j off n cap ex l hr hn hc he=>
  have hi:=(aak.1 hv).1;refine⟨.ptr j (off+i),?_,hr.ld hv⟩;have mw:i<n:=zzz;rw[CZ mw,aee]
end
end K
end Go.Proofs.YtodfajmihkagnaaGreatDoor.Am
