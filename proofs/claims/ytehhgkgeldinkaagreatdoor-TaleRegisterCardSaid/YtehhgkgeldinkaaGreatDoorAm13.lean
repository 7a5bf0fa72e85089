/- Laws that the proof uses. -/
import Derived.Test.YtehhgkgeldinkaaGreatDoorAm12
set_option linter.unusedVariables false
set_option linter.unusedSimpArgs false
namespace Go.Proofs.YtehhgkgeldinkaaGreatDoor.Am
namespace K
def nR (x:R)(Q:AV->Hp->Prop):Prop:=∃ v H,x=some (v,H)/\Q v H
theorem nR.mk {v:AV}{H:Hp}{Q:AV->Hp->Prop}(h:Q v H):nR (some (v,H)) Q:=⟨v,H,rfl,h⟩
theorem nR.mono {x:R}{Q Q':AV->Hp->Prop}(h:nR x Q)(k:∀ v H,Q v H->Q' v H):nR x Q':=by
 obtain⟨v,H,h1,h2⟩:=h;exact⟨v,H,h1,k v H h2⟩
theorem nR.b1 {α:Type}{o:Option α}{f:α->R}{Q:AV->Hp->Prop}{v:α}(h:o=some v)(k:nR (f v) Q):nR (B1 o f) Q:=by subst h;exact k
theorem nR.b2 {o:Option (AV × Hp)}{f:AV->Hp->R}{Q:AV->Hp->Prop}{v:AV}{H:Hp}(h:o=some (v,H))(k:nR (f v H) Q):nR (B2 o f) Q:=by subst h;exact k
theorem nR.call {o:R}{f:AV->Hp->R}{Q Q':AV->Hp->Prop}(h:nR o Q')(k:∀ v H,Q' v H->nR (f v H) Q):nR (B2 o f) Q:=by
 obtain⟨v,H,h1,h2⟩:=h;subst h1;exact k v H h2
theorem nR.of {x y:R}{Q:AV->Hp->Prop}(h:x=y)(k:nR y Q):nR x Q:=h▸k
section
variable {α:Type}
theorem bG (v:α)(k:α->R):B1 (some v) k=k v:=No rfl (id rfl)
theorem aW (v:AV)(H:Hp)(k:AV->Hp->R):B2 (some (v,H)) k=k v H:=No rfl (id rfl)
theorem bB (v:Nat)(H:Hp)(k:Nat->Hp->R):BN (some (v,H)) k=k v H:=No rfl (id rfl)
end
theorem aN (f:(Hp->R)->R)(k:Hp->R):JN 0 f k=f k:=No rfl (id rfl)
theorem bH (f:(AV->Hp->R)->R)(k:AV->Hp->R):JN 1 f k=f k:=No rfl (id rfl)
theorem aL (f:(AV->AV->Hp->R)->R)(k:AV->AV->Hp->R):JN 2 f k=f k:=No rfl (id rfl)
theorem aK (f:(AV->AV->AV->Hp->R)->R)(k:AV->AV->AV->Hp->R):JN 3 f k=f k:=No rfl (id rfl)
theorem cj (f:(AV->AV->AV->AV->Hp->R)->R)(k:AV->AV->AV->AV->Hp->R):JN 4 f k=f k:=No rfl (id rfl)
theorem aV (f:(AV->AV->AV->AV->AV->Hp->R)->R)(k:AV->AV->AV->AV->AV->Hp->R):JN 5 f k=f k:=No rfl (id rfl)
theorem aJ (f:(AV->AV->AV->AV->AV->AV->Hp->R)->R)(k:AV->AV->AV->AV->AV->AV->Hp->R):JN 6 f k=f k:=No rfl (id rfl)
theorem aG (f:(AV->AV->AV->AV->AV->AV->AV->Hp->R)->R)(k:AV->AV->AV->AV->AV->AV->AV->Hp->R):JN 7 f k=f k:=No rfl (id rfl)
theorem aZ (f:(AV->AV->AV->AV->AV->AV->AV->AV->Hp->R)->R)(k:AV->AV->AV->AV->AV->AV->AV->AV->Hp->R):JN 8 f k=f k:=No rfl (id rfl)
theorem aO (f:(AV->AV->AV->AV->AV->AV->AV->AV->AV->Hp->R)->R)(k:AV->AV->AV->AV->AV->AV->AV->AV->AV->Hp->R):JN 9 f k=f k:=No rfl (id rfl)
theorem bh (f:(AV->AV->AV->AV->AV->AV->AV->AV->AV->AV->Hp->R)->R)(k:AV->AV->AV->AV->AV->AV->AV->AV->AV->AV->Hp->R):JN 10 f k=f k:=No rfl (id rfl)
theorem cq (f:(AV->AV->AV->AV->AV->AV->AV->AV->AV->AV->AV->Hp->R)->R)(k:AV->AV->AV->AV->AV->AV->AV->AV->AV->AV->AV->Hp->R):JN 11 f k=f k:=No rfl (id rfl)
theorem aS (f:(AV->AV->AV->AV->AV->AV->AV->AV->AV->AV->AV->AV->Hp->R)->R)(k:AV->AV->AV->AV->AV->AV->AV->AV->AV->AV->AV->AV->Hp->R):JN 12 f k=f k:=No rfl (id rfl)
theorem cx (f:(AV->AV->AV->AV->AV->AV->AV->AV->AV->AV->AV->AV->AV->Hp->R)->R)(k:AV->AV->AV->AV->AV->AV->AV->AV->AV->AV->AV->AV->AV->Hp->R):JN 13 f k=f k:=No rfl (id rfl)
theorem bV (f:(AV->AV->AV->AV->AV->AV->AV->AV->AV->AV->AV->AV->AV->AV->Hp->R)->R)(k:AV->AV->AV->AV->AV->AV->AV->AV->AV->AV->AV->AV->AV->AV->Hp->R):JN 14 f k=f k:=No rfl (id rfl)
theorem bo (f:(AV->AV->AV->AV->AV->AV->AV->AV->AV->AV->AV->AV->AV->AV->AV->Hp->R)->R)(k:AV->AV->AV->AV->AV->AV->AV->AV->AV->AV->AV->AV->AV->AV->AV->Hp->R):JN 15 f k=f k:=No rfl (id rfl)
theorem bR (f:(AV->AV->AV->AV->AV->AV->AV->AV->AV->AV->AV->AV->AV->AV->AV->AV->Hp->R)->R)(k:AV->AV->AV->AV->AV->AV->AV->AV->AV->AV->AV->AV->AV->AV->AV->AV->Hp->R):JN 16 f k=f k:=No rfl (id rfl)
theorem aM (f:(AV->AV->AV->AV->AV->AV->AV->AV->AV->AV->AV->AV->AV->AV->AV->AV->AV->Hp->R)->R)(k:AV->AV->AV->AV->AV->AV->AV->AV->AV->AV->AV->AV->AV->AV->AV->AV->AV->Hp->R):JN 17 f k=f k:=No rfl (id rfl)
theorem cg (f:(AV->AV->AV->AV->AV->AV->AV->AV->AV->AV->AV->AV->AV->AV->AV->AV->AV->AV->Hp->R)->R)(k:AV->AV->AV->AV->AV->AV->AV->AV->AV->AV->AV->AV->AV->AV->AV->AV->AV->AV->Hp->R):JN 18 f k=f k:=No rfl (id rfl)
theorem br (f:(AV->AV->AV->AV->AV->AV->AV->AV->AV->AV->AV->AV->AV->AV->AV->AV->AV->AV->AV->Hp->R)->R)(k:AV->AV->AV->AV->AV->AV->AV->AV->AV->AV->AV->AV->AV->AV->AV->AV->AV->AV->AV->Hp->R):JN 19 f k=f k:=No rfl (id rfl)
theorem aQ (f:(AV->AV->AV->AV->AV->AV->AV->AV->AV->AV->AV->AV->AV->AV->AV->AV->AV->AV->AV->AV->Hp->R)->R)(k:AV->AV->AV->AV->AV->AV->AV->AV->AV->AV->AV->AV->AV->AV->AV->AV->AV->AV->AV->AV->Hp->R):JN 20 f k=f k:=No rfl (id rfl)
theorem bO (f:(AV->AV->AV->AV->AV->AV->AV->AV->AV->AV->AV->AV->AV->AV->AV->AV->AV->AV->AV->AV->AV->Hp->R)->R)(k:AV->AV->AV->AV->AV->AV->AV->AV->AV->AV->AV->AV->AV->AV->AV->AV->AV->AV->AV->AV->AV->Hp->R):JN 21 f k=f k:=No rfl (id rfl)
theorem bu (f:(AV->AV->AV->AV->AV->AV->AV->AV->AV->AV->AV->AV->AV->AV->AV->AV->AV->AV->AV->AV->AV->AV->Hp->R)->R)(k:AV->AV->AV->AV->AV->AV->AV->AV->AV->AV->AV->AV->AV->AV->AV->AV->AV->AV->AV->AV->AV->AV->Hp->R):JN 22 f k=f k:=No rfl (id rfl)
theorem cn (f:(AV->AV->AV->AV->AV->AV->AV->AV->AV->AV->AV->AV->AV->AV->AV->AV->AV->AV->AV->AV->AV->AV->AV->Hp->R)->R)(k:AV->AV->AV->AV->AV->AV->AV->AV->AV->AV->AV->AV->AV->AV->AV->AV->AV->AV->AV->AV->AV->AV->AV->Hp->R):JN 23 f k=f k:=No rfl (id rfl)
theorem cu (f:(AV->AV->AV->AV->AV->AV->AV->AV->AV->AV->AV->AV->AV->AV->AV->AV->AV->AV->AV->AV->AV->AV->AV->AV->Hp->R)->R)(k:AV->AV->AV->AV->AV->AV->AV->AV->AV->AV->AV->AV->AV->AV->AV->AV->AV->AV->AV->AV->AV->AV->AV->AV->Hp->R):JN 24 f k=f k:=No rfl (id rfl)
theorem bk (x y:R):CD (.bool true) x y=x:=No rfl (id rfl)
theorem aI (x y:R):CD (.bool false) x y=y:=No rfl (id rfl)
theorem af8 (b:Bool)(x y:R):CD (.bool b) x y=if b then x else y:=by cases b<;>rfl
theorem bA (f:(AV->Hp->R)->R)(k:AV->Hp->R)(H:Hp):GO (.bool true) true f k H=f k:=No rfl (id rfl)
theorem bE (f:(AV->Hp->R)->R)(k:AV->Hp->R)(H:Hp):GO (.bool false) true f k H=k cP H:=No rfl (id rfl)
theorem cB (f:(AV->Hp->R)->R)(k:AV->Hp->R)(H:Hp):GO (.bool true) false f k H=k cP H:=No rfl (id rfl)
theorem aT (f:(AV->Hp->R)->R)(k:AV->Hp->R)(H:Hp):GO (.bool false) false f k H=f k:=No rfl (id rfl)
theorem bf (f:(AV->Hp->R)->R)(k:AV->Hp->R)(H:Hp):GO cP true f k H=k cP H:=No rfl (id rfl)
theorem bQ (f:(AV->Hp->R)->R)(k:AV->Hp->R)(H:Hp):GO cP false f k H=k cP H:=No rfl (id rfl)
theorem cp (x y:R):uE (.bool true) true x y=x:=No rfl (id rfl)
theorem bd (x y:R):uE (.bool false) true x y=y:=No rfl (id rfl)
theorem bc (x y:R):uE (.bool true) false x y=y:=No rfl (id rfl)
theorem aR (x y:R):uE (.bool false) false x y=x:=No rfl (id rfl)
theorem bU (a b:AV):pk (.bool true) a b=some a:=No rfl (id rfl)
theorem bP (a b:AV):pk (.bool false) a b=some b:=No rfl (id rfl)
theorem bC (i o:Nat):ag (.ptr i o)=some (.ptr i o):=No rfl (id rfl)
theorem cz (t:TypeId)(v:AV):ag (.iface t v)=some (.iface t v):=No rfl (id rfl)
theorem cC (off i o:Nat):fa off (.ptr i o)=some (.ptr i (o+off)):=No rfl (id rfl)
theorem bK (off:Nat)(l:List AV):fd off (.agg l)=l[off]? := No rfl (id rfl)
theorem cl (i:Nat)(l:List AV):ex i (.tuple l)=l[i]? := No rfl (id rfl)
theorem aA (k:IntKind)(a b:Int):dj (.int k a) (.int k b)=some (.int k (k.wrap (a+b))):=by simp[dj,ii]
theorem bN (k:IntKind)(a b:Int):jI (.int k a) (.int k b)=some (.int k (k.wrap (a-b))):=by simp[jI,ii]
theorem aD (k:IntKind)(a b:Int):qV (.int k a) (.int k b)=some (.int k (k.wrap (a*b))):=by simp[qV,ii]
theorem cy (k:IntKind)(a b:Int):cN (.int k a) (.int k b)=some (.bool (a==b)):=by simp[cN,ii]
theorem bW (k:IntKind)(a b:Int):eX (.int k a) (.int k b)=some (.bool (a != b)):=by simp[eX,ii]
theorem aP (k:IntKind)(a b:Int):dV (.int k a) (.int k b)=some (.bool (a<b)):=by simp[dV,ii]
theorem aU (k:IntKind)(a b:Int):sL (.int k a) (.int k b)=some (.bool (a<=b)):=by simp[sL,ii]
theorem bS (k:IntKind)(a b:Int):iy (.int k a) (.int k b)=some (.bool (b<a)):=by simp[iy,ii]
theorem bT (k:IntKind)(a b:Int):qi (.int k a) (.int k b)=some (.bool (b<=a)):=by simp[qi,ii]
theorem al3 (k:IntKind)(a b:Int)(h:b≠0):BG (.int k a) (.int k b)=some (.int k (k.wrap (a.tdiv b))):=by simp[BG,ii,h]
theorem aq4 (k:IntKind)(a b:Int)(h:b≠0):rE (.int k a) (.int k b)=some (.int k (a.tmod b)):=by simp[rE,ii,h]
theorem cA (a b:List Nat):seq (.str a) (.str b)=some (.bool (a==b)):=No rfl (id rfl)
theorem ba (a b:List Nat):yG (.str a) (.str b)=some (.bool (!(a==b))):=No rfl (id rfl)
theorem cw (a b:List Nat):slt (.str a) (.str b)=some (.bool (qg a b)):=No rfl (id rfl)
theorem uQ {a b:List Nat}(h:a.length+b.length<=4294967296):jQ (.str a) (.str b)=some (.str (a++b)):=by
 have:Nat.ble (a.length+b.length) 4294967296=true:=ado.mpr h
 simp[jQ,ss,this]
theorem bY (s:List Nat):lens (.str s)=some (.int .i64 s.length):=No rfl (id rfl)
theorem bM:cJ .ae=some (.int .i64 0):=No rfl (id rfl)
theorem aF (i o n c:Nat)(x:Bool)(es:Nat):cJ (.slice i o n c x es)=some (.int .i64 n):=No rfl (id rfl)
theorem bI (a b:Bool):bb .eql (.bool a) (.bool b)=some (.bool (a==b)):=No rfl (id rfl)
theorem aH (a b:Bool):bb .neq (.bool a) (.bool b)=some (.bool (!(a==b))):=No rfl (id rfl)
theorem bJ (b:Bool):ie .not (.bool b)=some (.bool !b):=No rfl (id rfl)
theorem ck (k j:IntKind)(n:Int):cv k (.int j n)=some (.int k (k.wrap n)):=No rfl (id rfl)
theorem bq (H:Hp):pe .aC .aC H=some true:=No rfl (id rfl)
theorem bF (i o:Nat)(H:Hp):pe .aC (.ptr i o) H=some false:=No rfl (id rfl)
theorem bD (i o:Nat)(H:Hp):pe (.ptr i o) .aC H=some false:=No rfl (id rfl)
theorem bZ (b:Bool):po .eql (some b)=some (.bool b):=No rfl (id rfl)
theorem aY (b:Bool):po .neq (some b)=some (.bool !b):=No rfl (id rfl)
theorem jo {a b:AV}{x:R}(h:same a b=true):SM a b x=x:=by simp[SM,h]
theorem wrap_i64 {a:Int}(h : -9223372036854775808<=a)(k:a<=9223372036854775807):IntKind.wrap .i64 a=a:=by
 simp only[IntKind.wrap,IntKind.bits,IntKind.signed]
 simp
 omega
theorem oN {P:Program}{ext:Nat->Option Ext}{aw:Nat->Option Prim}{an:Nat->An}{aB:Nat}{p:Prim}{args:List AV}{H:Hp}{r:AV × Hp}(hp:aw aB=some p)(h:p args H=some r) :
  CK P (pF P) ext aw an (.func (.func aB) [] []) args H=some r:=by
 refine Qz Jf ?_
 unfold vU
 simp only[hp,afE,afD]
 exact h
def Cs (H:Hp)(i:Nat)(l:List AV)(el fl:Nat):Prop:=i<H.next/\∃ c,H.h.get i=some (.cells c 0 l.length el fl)/\∀ k v,l[k]? = some v->c.get k=some v
def Mp (H:Hp)(i:Nat)(es:List ME)(c:Nat):Prop:=i<H.next/\H.h.get i=some (.map es c)
def Out (S:List Nat)(H H':Hp):Prop:=H.next<=H'.next/\∀ j,j<H.next->j∉S->H'.h.get j=H.h.get j
theorem Out.refl (S:List Nat)(H:Hp):Out S H H:=⟨aar _,fun _ _ _=>rfl⟩
theorem Out.trans {S:List Nat}{H H' rv:Hp}(h:Out S H H')(k:Out S H' rv):Out S H rv:=
 ⟨abS h.1 k.1,fun j hj hs=>(k.2 j (adi hj h.1) hs).trans (h.2 j hj hs)⟩
theorem Out.mono {S S':List Nat}{H H':Hp}(h:Out S H H')(k:∀ j∈S,j∈S'):Out S' H H':=⟨h.1,fun j hj hs=>h.2 j hj fun q=>hs (k j q)⟩
theorem Out.then {S S':List Nat}{H H' rv:Hp}(h:Out S H H')(k:Out S' H' rv)(hs:∀ j∈S',j∈S\/H.next<=j):Out S H rv:=
 ⟨abS h.1 k.1,fun j hj hn=>(k.2 j (adi hj h.1) fun q=>(hs j q).elim hn (by omega)).trans (h.2 j hj hn)⟩
theorem Cs.out {H H':Hp}{i:Nat}{l:List AV}{el fl:Nat}{S:List Nat}(h:Cs H i l el fl)(k:Out S H H')(hi:i∉S):Cs H' i l el fl:=
 ⟨adi h.1 k.1,by rw[k.2 i h.1 hi];exact h.2⟩
theorem Mp.out {H H':Hp}{i:Nat}{es:List ME}{c:Nat}{S:List Nat}(h:Mp H i es c)(k:Out S H H')(hi:i∉S):Mp H' i es c:=
 ⟨adi h.1 k.1,by rw[k.2 i h.1 hi];exact h.2⟩
theorem Cs.cellAt {H:Hp}{i:Nat}{l:List AV}{el fl:Nat}(h:Cs H i l el fl){o:Nat}{v:AV}(hv:l[o]? = some v):cellAt H i o=some v:=by
 obtain⟨_,c,hc,hg⟩:=h
 have ho:o<l.length:=(abf.1 hv).1
 unfold Am.cellAt
 rw[hc]
 have hb:(Nat.ble 0 o&&Nat.blt o l.length)=true:=by
  rw[zf,ado,adn];omega
 simp only[hb,cond_true]
 exact hg o v hv
theorem Cs.ld {H:Hp}{i:Nat}{l:List AV}{el fl:Nat}(h:Cs H i l el fl){o:Nat}{v:AV}(hv:l[o]? = some v):ld (.ptr i o) H=some v:=h.cellAt hv
theorem Cs.dQ {H:Hp}{i:Nat}{l:List AV}{el fl:Nat}(h:Cs H i l el fl):∀ (n o:Nat),o+n<=l.length->dQ H i o n=some ((l.drop o).take n)
 | 0,o,_=>by simp[Am.dQ]
 | n+1,o,hn=>by
  have ho:o<l.length:=by omega
  have h1:=h.cellAt (o:=o) (v:=l[o]) (aax ho)
  have h2:=h.dQ n (o+1) (by omega)
  unfold Am.dQ
  rw[h1,h2,agE ho]
  rfl
theorem Cs.af {H:Hp}{i:Nat}{l:List AV}{el fl:Nat}(h:Cs H i l el fl){n o:Nat}(hn:o+n<=l.length):af n (.ptr i o) H=some (.agg ((l.drop o).take n)):=by
 show (Am.dQ H i o n).map AV.agg=_
 rw[h.dQ n o hn];rfl
theorem Lo (H:Hp)(i j:Nat)(o:AO):(setObj H i o).h.get j=if j=i then some o else H.h.get j:=Tr.fE _ _ _ _
theorem agY {H:Hp}{i:Nat}{l:List AV}{el fl:Nat}(h:Cs H i l el fl)(hf:fl<=1){o:Nat}(ho:o<l.length){v:AV}(hv:db v=true) :
  ∃ H',setCell H i o v=some H'/\Cs H' i (l.set o v) el fl/\Out [i] H H'/\H'.next=H.next:=by
 obtain⟨hi,c,hc,hg⟩:=h
 have hs:(c.get o).isSome=true:=by rw[hg o l[o] (aax ho)];rfl
 have hb:(Nat.ble 0 o&&Nat.blt o l.length&&Nat.ble fl 1&&(c.get o).isSome&&db v)=true:=by
  simp only[zf,ado,adn];exact⟨⟨⟨⟨by omega,ho⟩,hf⟩,hs⟩,hv⟩
 refine⟨{ H with h:=H.h.fJ i (.cells (c.fJ o v) 0 l.length el fl) },?_,⟨hi,c.fJ o v,?_,?_⟩,⟨aar _,?_⟩,rfl⟩
 ·unfold setCell
  rw[hc]
  simp only[hb,cond_true]
 ·show (Tr.fJ H.h i _).get i=_
  rw[Tr.fJ,Tr.fE,if_pos rfl,ahm]
 ·intro k u hk
  rw[Tr.fJ,Tr.fE]
  by_cases T0:k=o
  ·subst T0
   rw[List.getElem?_set_self (by omega)] at hk
   rw[if_pos rfl]
   exact hk
  ·rw[List.getElem?_set_ne (fun q=>T0 q.symm)] at hk
   rw[if_neg T0]
   exact hg k u hk
 ·intro j hj hn
  show (Tr.fJ H.h i _).get j=_
  rw[Tr.fJ,Tr.fE,if_neg (by simpa using hn)]
theorem qZ {H:Hp}{i:Nat}{l:List AV}{el fl:Nat}(h:Cs H i l el fl)(hf:fl<=1){o:Nat}(ho:o<l.length){v:AV}(hv:db v=true) :
  ∃ H',st 1 (.ptr i o) v H=some H'/\Cs H' i (l.set o v) el fl/\Out [i] H H'/\H'.next=H.next:=by
 obtain⟨H',h1,h2,h3,h4⟩:=agY h hf ho hv
 refine⟨H',?_,h2,h3,h4⟩
 have hc:jX v=some [v]:=by cases v<;>first | rfl | cases hv
 unfold st
 simp only[hc]
 show setCells H i o [v]=_
 simp only[setCells,h1,acT,ac0]
theorem eJ (H:Hp)(l:List AV)(el fl:Nat)(hl:l.length<=16777216):∃ H',cI H l el fl=some (H.next,H')/\Cs H' H.next l el fl/\Out [] H H'/\H'.next=H.next+1:=by
 refine⟨⟨H.h.put 34 H.next (.cells (Tr.dh .nil 0 l) 0 l.length el fl),H.next+1⟩,?_,⟨aeX _,Tr.dh .nil 0 l,?_,?_⟩,⟨Nat.le_succ _,?_⟩,rfl⟩
 ·unfold cI alloc
  have:Nat.ble l.length 16777216=true:=ado.mpr hl
  rw[this];rfl
 ·show (Tr.put 34 H.h H.next _).get H.next=_
  rw[Tr.put,Tr.fE,if_pos rfl]
 ·intro k v hk
  rw[Cz]
  have:=(abf.1 hk).1
  rw[if_pos (by omega)];exact hk
 ·intro j hj _
  show (Tr.put 34 H.h H.next _).get j=_
  rw[Tr.put,Tr.fE,if_neg (by omega)]
theorem jP (H:Hp)(el:Nat)(x:AV)(l:List AV)(hx:jX x=some l)(hl:l.length<=16777216):∃ H',bx el x H=some (H.next,H')/\Cs H' H.next l el 0/\Out [] H H'/\H'.next=H.next+1:=by
 obtain⟨H',h1,h2⟩:=eJ H l el 0 hl
 exact⟨H',by unfold bx;rw[hx];exact h1,h2⟩
theorem Mj (H:Hp):∃ H',xm H=some (H.next,H')/\Mp H' H.next [] 0/\Out [] H H'/\H'.next=H.next+1:=by
 refine⟨⟨H.h.put 34 H.next (.map [] 0),H.next+1⟩,rfl,⟨aeX _,?_⟩,⟨Nat.le_succ _,?_⟩,rfl⟩
 ·show (Tr.put 34 H.h H.next _).get H.next=_
  rw[Tr.put,Tr.fE,if_pos rfl]
 ·intro j hj _
  show (Tr.put 34 H.h H.next _).get j=_
  rw[Tr.put,Tr.fE,if_neg (by omega)]
def Ro (H:Hp)(i off:Nat)(l:List AV):Prop:=i<H.next/\∃ c lo hi el fl,H.h.get i=some (.cells c lo hi el fl)/\lo<=off/\off+l.length<=hi/\∀ k v,l[k]? = some v->c.get (off+k)=some v
theorem Cs.ro {H:Hp}{i:Nat}{l:List AV}{el fl:Nat}(h:Cs H i l el fl):Ro H i 0 l:=by
 obtain⟨hi,c,hc,hg⟩:=h
 exact⟨hi,c,0,l.length,el,fl,hc,aar _,by omega,fun k v hk=>by rw[yS];exact hg k v hk⟩
theorem Ro.out {H H':Hp}{i off:Nat}{l:List AV}{S:List Nat}(h:Ro H i off l)(k:Out S H H')(hi:i∉S):Ro H' i off l:=
 ⟨adi h.1 k.1,by rw[k.2 i h.1 hi];exact h.2⟩
theorem Ro.cellAt {H:Hp}{i off:Nat}{l:List AV}(h:Ro H i off l){k:Nat}{v:AV}(hv:l[k]? = some v):cellAt H i (off+k)=some v:=by
 obtain⟨_,c,lo,hi,el,fl,hc,h1,h2,hg⟩:=h
 have hk:k<l.length:=(abf.1 hv).1
 unfold Am.cellAt
 rw[hc]
 have hb:(Nat.ble lo (off+k)&&Nat.blt (off+k) hi)=true:=by
  rw[zf,ado,adn];omega
 simp only[hb,cond_true]
 exact hg k v hv
theorem Ro.ld {H:Hp}{i off:Nat}{l:List AV}(h:Ro H i off l){k:Nat}{v:AV}(hv:l[k]? = some v):ld (.ptr i (off+k)) H=some v:=h.cellAt hv
theorem Ro.drop {H:Hp}{i off:Nat}{l:List AV}(h:Ro H i off l)(n:Nat)(hn:n<=l.length):Ro H i (off+n) (l.drop n):=by
 obtain⟨hi,c,lo,gS,el,fl,hc,h1,h2,hg⟩:=h
 refine⟨hi,c,lo,gS,el,fl,hc,by omega,by rw[aef];omega,fun k v hk => ?_⟩
 rw[adG] at hk
 rw[afj];exact hg _ v hk
theorem Ro.take {H:Hp}{i off:Nat}{l:List AV}(h:Ro H i off l)(n:Nat):Ro H i off (l.take n):=by
 obtain⟨hi,c,lo,gS,el,fl,hc,h1,h2,hg⟩:=h
 refine⟨hi,c,lo,gS,el,fl,hc,h1,by rw[afi];omega,fun k v hk => ?_⟩
 rw[adM] at hk
 split at hk
 ·exact hg _ v hk
 ·cases hk
theorem Ro.dQ {H:Hp}{i:Nat}:∀ {l:List AV} {off:Nat},Ro H i off l->Am.dQ H i off l.length=some l
 | [],off,_=>rfl
 | v::l,off,h=>by
  have h1:=h.cellAt (k:=0) (v:=v) rfl
  have h2:=(h.drop 1 (by simp)).dQ
  simp only[List.drop_succ_cons,afO] at h2
  rw[ae6] at h1
  rw[abn]
  unfold Am.dQ
  rw[h1,h2]
  rfl
def aa:AV->List Nat
 | .slice i _ _ cap ex _=>bif ex&&Nat.beq cap 0 then [] else [i]
 | .ptr i _=>[i]
 | .map i=>[i]
 | _=>[]
theorem mP {i o n cap es:Nat}{ex:Bool}(h:(ex&&Nat.beq cap 0)=false):aa (.slice i o n cap ex es)=[i]:=by simp only[aa,h,cond_false]
inductive Rw (H:Hp) (es:Nat):AV->List AV->Prop
 | nil:Rw H es .ae []
 | emp {i off:Nat}:Rw H es (.slice i off 0 0 true es) []
 | mk {i off n cap:Nat} {ex:Bool} {l:List AV} (h:Ro H i off l) (hn:l.length=n*es) (hc:n<=cap) (he:(ex&&Nat.beq cap 0)=false):Rw H es (.slice i off n cap ex es) l
theorem Rw.out {H H':Hp}{es:Nat}{x:AV}{l:List AV}{S:List Nat}(h:Rw H es x l)(k:Out S H H')(hi:∀ j∈aa x,j∉S):Rw H' es x l:=by
 cases h with
 | nil=>exact .nil
 | emp=>exact .emp
 | mk h hn hc he=>exact .mk (h.out k (hi _ (by rw[mP he];exact .head _))) hn hc he
theorem Rw.lt {H:Hp}{es:Nat}{x:AV}{l:List AV}(h:Rw H es x l):∀ j∈aa x,j<H.next:=by
 cases h with
 | nil=>intro j hj;cases hj
 | emp=>intro j hj;cases hj
 | mk h hn hc he=>intro j hj;rw[mP he,wc] at hj;subst hj;exact h.1
theorem Rw.len {H:Hp}{es:Nat}{x:AV}{l:List AV}(h:Rw H es x l):∃ n:Nat,cJ x=some (.int .i64 n)/\l.length=n*es:=by
 cases h with
 | nil=>exact⟨0,rfl,by simp⟩
 | emp=>exact⟨0,rfl,by simp⟩
 | mk h hn hc he=>exact⟨_,rfl,hn⟩
theorem Rw.gV {H:Hp}{x:AV}{l:List AV}(h:Rw H 1 x l):cJ x=some (.int .i64 l.length):=by
 obtain⟨n,h1,h2⟩:=h.len
 rw[h1,h2,adQ]
inductive Ow (H:Hp) (el es:Nat):AV->List AV->Prop
 | nil:Ow H el es .ae []
 | emp {i off:Nat}:Ow H el es (.slice i off 0 0 true es) []
 | mk {i off n cap:Nat} {ex:Bool} {l:List AV} {c:Tr AV} {lo hi fl:Nat} (gS:i<H.next) (hg:H.h.get i=some (.cells c lo hi el fl)) (hf:fl<=1) (fG:lo<=off) (gp:off+cap*es<=hi) (fe:n<=cap) (hn:l.length=n*es)
   (hc:∀ k v,l[k]? = some v->c.get (off+k)=some v) (hs:∀ k,k<cap*es->(c.get (off+k)).isSome=true) (h1:∀ v∈l,db v=true) (he:(ex&&Nat.beq cap 0)=false):Ow H el es (.slice i off n cap ex es) l
theorem Ow.rw {H:Hp}{el es:Nat}{x:AV}{l:List AV}(h:Ow H el es x l):Rw H es x l:=by
 cases h with
 | nil=>exact .nil
 | emp=>exact .emp
 | @mk i off n cap ex l c lo hi fl gS hg hf fG gp fe hn hc hs h1 he=>
  exact .mk ⟨gS,c,lo,hi,el,fl,hg,fG,by rw[hn];exact abS (Nat.add_le_add_left (ad4 _ fe) _) gp,hc⟩ hn fe he
theorem Ow.out {H H':Hp}{el es:Nat}{x:AV}{l:List AV}{S:List Nat}(h:Ow H el es x l)(k:Out S H H')(hi:∀ j∈aa x,j∉S):Ow H' el es x l:=by
 cases h with
 | nil=>exact .nil
 | emp=>exact .emp
 | mk gS hg hf fG gp fe hn hc hs h1 he=>exact .mk (adi gS k.1) (by rw[k.2 _ gS (hi _ (by rw[mP he];exact .head _))];exact hg) hf fG gp fe hn hc hs h1 he
theorem Ow.one {H:Hp}{el es:Nat}{x:AV}{l:List AV}(h:Ow H el es x l):∀ v∈l,db v=true:=by
 cases h with
 | nil=>intro v hv;cases hv
 | emp=>intro v hv;cases hv
 | mk _ _ _ _ _ _ _ _ _ h1 _=>exact h1
theorem Cs.ow {H:Hp}{i n:Nat}{l:List AV}{el es fl:Nat}(h:Cs H i l el fl)(hf:fl<=1)(hn:l.length=n*es)(h1:∀ v∈l,db v=true)(ex:Bool):Ow H el es (.slice i 0 n n ex es) l:=by
 cases hex:(ex&&Nat.beq n 0) with
 | true=>
  rw[zf] at hex
  obtain⟨rfl,lP⟩:=hex
  obtain rfl:=aba lP
  have:l=[]:=by simpa using hn
  subst this
  exact .emp
 | false=>
 obtain⟨hi,c,hc,hg⟩:=h
 refine .mk hi hc hf (aar _) (by omega) (aar _) hn (fun k v hk=>by rw[yS];exact hg k v hk) (fun k hk => ?_) h1 hex
 rw[yS,hg k l[k] (aax (by omega))];rfl
theorem BP:∀ (l:List AV) (H:Hp) (i off:Nat) (c:Tr AV) (lo hi el fl:Nat),H.h.get i=some (.cells c lo hi el fl)->fl<=1->lo<=off->off+l.length<=hi->(∀ k,k<l.length->(c.get (off+k)).isSome=true)->(∀ v∈l,db v=true)->
  ∃ H' c',setCells H i off l=some H'/\H'.next=H.next/\H'.h.get i=some (.cells c' lo hi el fl)/\(∀ j,j≠i->H'.h.get j=H.h.get j)/\∀ k,c'.get k=if off<=k/\k<off+l.length then l[k-off]? else c.get k
 | [],H,i,off,c,lo,hi,el,fl,hg,hf,h1,h2,hs,ho=>⟨H,c,rfl,rfl,hg,fun _ _=>rfl,fun k=>by rw[if_neg (by simp only[abY];omega)]⟩
 | v::l,H,i,off,c,lo,hi,el,fl,hg,hf,h1,h2,hs,ho=>by
  simp only[abn] at h2
  have vN:=hs 0 (by simp)
  rw[ae6] at vN
  have hb:(Nat.ble lo off&&Nat.blt off hi&&Nat.ble fl 1&&(c.get off).isSome&&db v)=true:=by
   simp only[zf,ado,adn];exact⟨⟨⟨⟨h1,by omega⟩,hf⟩,vN⟩,ho v (.head _)⟩
  have fM:setCell H i off v=some { H with h:=H.h.fJ i (.cells (c.fJ off v) lo hi el fl) }:=by
   unfold setCell;rw[hg];simp only[hb,cond_true]
  obtain⟨H',c',q1,q2,q3,q4,q5⟩:=BP l { H with h:=H.h.fJ i (.cells (c.fJ off v) lo hi el fl) } i (off+1) (c.fJ off v) lo hi el fl (by
    show (Tr.fJ H.h i _).get i=_
    rw[Tr.fJ,Tr.fE,if_pos rfl]) hf (by omega) (by omega) (fun k hk=>by
    rw[Tr.fJ,Tr.fE]
    split
    ·rfl
    ·have:=hs (k+1) (by simp;omega)
     rw[show off+1+k=off+(k+1) by omega];exact this) (fun u hu=>ho u (.tail _ hu))
  refine⟨H',c',?_,q2,q3,fun j hj => ?_,fun k => ?_⟩
  ·simp only[setCells,fM,acT,ac0];exact q1
  ·rw[q4 j hj]
   show (Tr.fJ H.h i _).get j=_
   rw[Tr.fJ,Tr.fE,if_neg hj]
  ·rw[q5 k,Tr.fJ,Tr.fE]
   by_cases hk:k=off
   ·subst hk
    rw[if_neg (by omega),if_pos rfl,if_pos (by simp),aja];rfl
   ·rw[if_neg hk]
    by_cases jm:off+1<=k/\k<off+1+l.length
    ·rw[if_pos jm,if_pos (by simp;omega),show k-off=(k-(off+1))+1 by omega,gk]
    ·rw[if_neg jm,if_neg (by simp;omega)]
theorem Es {H:Hp}{el es n:Nat}{s:AV}{l new:List AV}(h:Ow H el es s l)(ji:new.length=n*es)(ho:∀ v∈new,db v=true)(dC:0<es)(hlen:l.length+new.length<=16777216) :
  ∃ s' H',AS el es n new s H=some (s',H')/\Ow H' el es s' (l++new)/\Out (aa s) H H'/\(∀ j∈aa s',j∈aa s\/H.next<=j):=by
 have gC:∀ v∈l++new,db v=true:=fun v hv=>(aal.1 hv).elim (h.one v) (ho v)
 have aca:∀ s0:List Nat,n≠0->l=[]->∃ H',cI H new el 0=some (H.next,H')/\Ow H' el es (.slice H.next 0 n n false es) (l++new)/\Out s0 H H'/\(∀ j∈aa (.slice H.next 0 n n false es),j∈s0\/H.next<=j):=by
  intro s0 hn hl
  subst hl
  obtain⟨H',h1,h2,h3,h4⟩:=eJ H new el 0 (by simp only[abY] at hlen;omega)
  refine⟨H',h1,h2.ow (by omega) ji ho false,h3.mono (fun j hj=>by cases hj),fun j hj => ?_⟩
  simp only[aa,ai7,cond_false,wc] at hj
  exact .inr (by omega)
 cases h with
 | nil=>
  unfold AS
  simp only
  by_cases hn:n=0
  ·subst hn
   have:new=[]:=by simpa using ji
   subst this
   exact⟨.ae,H,rfl,.nil,Out.refl _ _,fun j hj=>by cases hj⟩
  ·rw[oa hn,cond_false]
   have hle:n<=16777216:=by
    have:=Nat.le_mul_of_pos_right n dC
    simp only[abY] at hlen
    omega
   have hb:Nat.ble n 16777216=true:=ado.mpr hle
   rw[hb,cond_true]
   obtain⟨H',h1,h2⟩:=aca [] hn rfl
   exact⟨_,H',by rw[h1];rfl,h2⟩
 | @emp i off=>
  unfold AS
  have hle:n<=16777216:=by
   have:=Nat.le_mul_of_pos_right n dC
   simp only[abY] at hlen
   omega
  have hb:(Nat.ble (0+n) 16777216&&Nat.beq es es&&new.all db)=true:=by
   simp only[zf,ado,sZ,ac6]
   exact⟨⟨by omega,trivial⟩,ho⟩
  simp only[hb,cond_true]
  by_cases hn:n=0
  ·subst hn
   have:new=[]:=by simpa using ji
   subst this
   exact⟨.slice i off 0 0 true es,H,rfl,.emp,Out.refl _ _,fun j hj=>by cases hj⟩
  ·have iT:Nat.ble (0+n) 0=false:=by rw[<-Bool.not_eq_true,ado];omega
   rw[iT,cond_false]
   obtain⟨H',h1,h2⟩:=aca (aa (.slice i off 0 0 true es)) hn rfl
   refine⟨.slice H.next 0 n n false es,H',?_,h2⟩
   simp only[afB,Am.dQ,ac0,afE,h1,ahk,yS]
 | @mk i off m cap ex l c lo hi fl gS hg hf fG gp fe hn hc hs h1 he=>
  unfold AS
  have ur:n<=new.length:=by rw[ji];exact Nat.le_mul_of_pos_right n dC
  have A6:m<=l.length:=by rw[hn];exact Nat.le_mul_of_pos_right m dC
  have hb:(Nat.ble (m+n) 16777216&&Nat.beq es es&&new.all db)=true:=by
   simp only[zf,ado,sZ,ac6]
   exact⟨⟨by omega,trivial⟩,ho⟩
  simp only[hb,cond_true]
  have oX:(l++new).length=(m+n)*es:=by rw[abz,hn,ji,aeS]
  by_cases Az:m+n<=cap
  ·have iT:Nat.ble (m+n) cap=true:=ado.mpr Az
   rw[iT,cond_true]
   have hr:(m+n)*es<=cap*es:=ad4 _ Az
   rw[aeS] at hr
   obtain⟨H',c',q1,q2,q3,q4,q5⟩:=BP new H i (off+m*es) c lo hi el fl hg hf (by omega) (by rw[ji];omega) (fun k hk=>by
    rw[afj];exact hs _ (by rw[ji] at hk;omega)) ho
   refine⟨_,H',by rw[q1];rfl,.mk (by rw[q2];exact gS) q3 hf fG gp Az oX (fun k v hk => ?_) (fun k hk => ?_) gC he,⟨by rw[q2];exact aar _,fun j hj Aa=>q4 j (by rw[mP he] at Aa;simpa using Aa)⟩,fun j hj => .inl (by rw[mP he] at hj ⊢;exact hj)⟩
   ·rw[q5]
    by_cases zN:k<l.length
    ·rw[if_neg (by omega),hc k v (by rw[abU zN] at hk;exact hk)]
    ·rw[acs (by omega)] at hk
     have:=(abf.1 hk).1
     rw[if_pos (by omega),<-hk];congr 1;omega
   ·rw[q5]
    split
    ·rename_i hq
     rw[aax (by omega)];rfl
    ·exact hs k hk
  ·have iT:Nat.ble (m+n) cap=false:=by rw[<-Bool.not_eq_true,ado];omega
   rw[iT,cond_false]
   cases ex with
   | true=>
    simp only[cond_true]
    have Gc:Ro H i off l:=⟨gS,c,lo,hi,el,fl,hg,fG,by rw[hn];exact abS (Nat.add_le_add_left (ad4 _ fe) _) gp,hc⟩
    have Be:=Gc.dQ
    rw[hn] at Be
    rw[Be]
    obtain⟨H',r1,r2,r3,r4⟩:=eJ H (l++new) el 0 (by rw[abz];omega)
    refine⟨_,H',by simp only[ac0];rw[r1];rfl,r2.ow (by omega) oX gC false,r3.mono (fun j hj=>by cases hj),fun j hj => ?_⟩
    simp only[aa,ai7,cond_false,wc] at hj
    exact .inr (by omega)
   | false=>
    simp only[cond_false,hg]
    have hr:m*es<=cap*es:=ad4 _ fe
    have tW:(Nat.ble fl 1&&Nat.ble lo off&&Nat.ble (off+m*es) hi&&Nat.beq el el)=true:=by
     simp only[zf,ado,sZ]
     exact⟨⟨⟨hf,fG⟩,by omega⟩,trivial⟩
    rw[tW,cond_true]
    refine⟨_,_,rfl,.mk (c:=c.dh (off+m*es) new) (lo:=off) (hi:=off+(m+n)*es) (fl:=1) ?_ ?_ (by omega) (aar _) (aar _) (aar _) oX (fun k v hk => ?_) (fun k hk => ?_) gC rfl,⟨?_,fun j hj Aa => ?_⟩,fun j hj => ?_⟩
    ·exact aeX _
    ·show (Tr.put 34 (H.h.del i) H.next _).get H.next=_
     rw[Tr.put,Tr.fE,if_pos rfl]
    ·rw[Tr.xJ]
     by_cases zN:k<l.length
     ·rw[if_neg (by omega),hc k v (by rw[abU zN] at hk;exact hk)]
     ·rw[acs (by omega)] at hk
      have:=(abf.1 hk).1
      rw[if_pos (by omega),<-hk];congr 1;omega
    ·rw[Tr.xJ]
     rw[aeS] at hk
     split
     ·rename_i hq
      rw[aax (by omega)];rfl
     ·exact hs k (by omega)
    ·exact Nat.le_succ _
    ·show (Tr.put 34 (H.h.del i) H.next _).get j=_
     rw[Tr.put,Tr.fE,if_neg (by omega),Tr.Sd,if_neg (by rw[mP he] at Aa;simpa using Aa)]
    ·simp only[aa,ai7,cond_false,wc] at hj
     subst hj
     exact .inr (aar _)
theorem wU {H:Hp}{el es:Nat}{z:List AV}{s x:AV}{l new:List AV}(h:Ow H el es s l)(hx:Rw H es x new)(ho:∀ v∈new,db v=true)(dC:0<es)(hlen:l.length+new.length<=16777216) :
  ∃ s' H',fZ el es z false s x H=some (s',H')/\Ow H' el es s' (l++new)/\Out (aa s) H H'/\(∀ j∈aa s',j∈aa s\/H.next<=j):=by
 cases hx with
 | nil=>
  obtain⟨s',H',h1,h2⟩:=Es (n:=0) (new:=[]) h (by simp) ho dC hlen
  exact⟨s',H',h1,h2⟩
 | @emp i off=>
  obtain⟨s',H',h1,h2⟩:=Es (n:=0) (new:=[]) h (by simp) ho dC hlen
  refine⟨s',H',?_,h2⟩
  have:tC es z false (.slice i off 0 0 true es) H=some (0,[]):=by
   show (Am.dQ H i off (0*es)).map (fun l=>(0,l))=_
   rw[afB];rfl
  unfold fZ
  rw[this]
  exact h1
 | @mk i off n cap ex l' hr hn hc he=>
  obtain⟨s',H',h1,h2⟩:=Es h hn ho dC hlen
  refine⟨s',H',?_,h2⟩
  have:tC es z false (.slice i off n cap ex es) H=some (n,new):=by
   show (Am.dQ H i off (n*es)).map (fun l=>(n,l))=_
   rw[<-hn,hr.dQ];rfl
  unfold fZ
  rw[this]
  exact h1
def bs (l:List Nat):List AV:=l.map fun (b:Nat)=>AV.int .u8 b
theorem zV (l:List Nat):∀ v∈bs l,db v=true:=by
 intro v hv
 obtain⟨b,_,rfl⟩:=adj.1 hv
 rfl
theorem gO (l:List Nat):(bs l).length=l.length:=by simp[bs]
theorem Et (a b:List Nat):bs (a++b)=bs a++bs b:=by simp[bs]
theorem abb:∀ (l:List Nat),(∀ b∈l,b<256)->uW (bs l)=some l
 | [],_=>rfl
 | b::l,h=>by
  have h1:=abb l (fun x hx=>h x (.tail _ hx))
  have h2:=h b (.head _)
  have h3:(decide (0<=(b:Int))&&decide ((b:Int)<256))=true:=by simp;omega
  show uW (AV.int .u8 (b:Int)::bs l)=_
  unfold uW
  rw[h3,h1]
  simp
theorem JF {k:IntKind}{n lo hi:Nat}(h1:lo<=n)(h2:n<=hi):bound lo hi (.int k n)=some n:=by
 unfold bound
 have:(decide ((lo:Int)<=(n:Int))&&decide ((n:Int)<=(hi:Int)))=true:=by simp;omega
 simp only[this,if_true,aeq]
def Bd (o:Option AV)(n aew:Nat):Prop:=(o=none/\n=aew)\/∃ k,o=some (.int k n)
theorem Bd.no (n:Nat):Bd none n n := .inl ⟨rfl,rfl⟩
theorem Bd.yes (k:IntKind)(n d:Nat):Bd (some (.int k n)) n d := .inr ⟨k,rfl⟩
theorem Bd.apF (k:IntKind)(d:Nat):Bd (some (.int k 0)) 0 d := .inr ⟨k,rfl⟩
theorem uY {len cap a b:Nat}{lo hi:Option AV}(zd:a<=b)(hb:b<=len)(hc:len<=cap)(fG:Bd lo a 0)(gp:Bd hi b len):ru len cap lo hi none=some (a,b,cap):=by
 unfold ru
 rcases gp with⟨rfl,rfl⟩ | ⟨k,rfl⟩<;>rcases fG with⟨rfl,rfl⟩ | ⟨j,rfl⟩
 ·rfl
 ·simp only[acT,ac0,JF (adf _) zd];rfl
 ·simp only[acT,ac0,JF (adf _) (abS hb hc)];rfl
 ·simp only[acT,ac0,JF (adf _) (abS hb hc),JF (adf _) zd];rfl
theorem Fg {H:Hp}{es n a b:Nat}{x:AV}{l:List AV}(h:Rw H es x l)(hl:l.length=n*es)(dC:0<es){lo hi:Option AV}(zd:a<=b)(hb:b<=n)(fG:Bd lo a 0)(gp:Bd hi b n) :
  ∃ x',fT es x lo hi none=some x'/\Rw H es x' ((l.drop (a*es)).take ((b-a)*es))/\∀ j∈aa x',j∈aa x:=by
 cases h with
 | nil=>
  have hn:n=0:=by
   simp only[abY] at hl
   rcases aji.1 hl.symm with q | q<;>omega
  subst hn
  have je:b=0:=by omega
  have wY:a=0:=by omega
  subst je;subst wY
  refine⟨.ae,?_,by simpa using Rw.nil,fun j hj=>hj⟩
  unfold fT
  simp only[uY (aar 0) (aar 0) (aar 0) fG gp];rfl
 | @emp i off=>
  have hn:n=0:=by
   simp only[abY] at hl
   rcases aji.1 hl.symm with q | q<;>omega
  subst hn
  have je:b=0:=by omega
  have wY:a=0:=by omega
  subst je;subst wY
  refine⟨.slice i (off+0*es) 0 0 true es,?_,by simpa using Rw.emp,fun j hj=>by cases hj⟩
  unfold fT
  simp only[uY (aar 0) (aar 0) (aar 0) fG gp]
  simp
 | @mk i off m cap ex l hr hn hc he=>
  have hm:m=n:=ahD dC (hn.symm.trans hl)
  subst hm
  refine⟨.slice i (off+a*es) (b-a) (cap-a) ex es,?_,?_,?_⟩
  ·unfold fT
   simp only[uY zd hb hc fG gp,ac0]
   simp
  ·cases hq:(ex&&Nat.beq (cap-a) 0) with
   | true=>
    rw[zf] at hq
    obtain⟨rfl,h0⟩:=hq
    have h0:=aba h0
    have TD:b-a=0:=by omega
    rw[h0,TD,afB,List.take_zero]
    exact .emp
   | false=>
    have h1:a*es<=l.length:=by rw[hl];exact ad4 _ (by omega)
    refine .mk ((hr.drop (a*es) h1).take _) ?_ (by omega) hq
    rw[afi,aef,hl,<-Nat.sub_mul]
    exact aiK (ad4 _ (by omega))
  ·intro j hj
   rw[mP he]
   simp only[aa] at hj
   cases hq:(ex&&Nat.beq (cap-a) 0)<;>rw[hq] at hj
   ·exact hj
   ·cases hj
theorem Mv {H:Hp}{el es n a b:Nat}{x:AV}{l:List AV}(h:Ow H el es x l)(hl:l.length=n*es)(dC:0<es){lo hi:Option AV}(zd:a<=b)(hb:b<=n)(fG:Bd lo a 0)(gp:Bd hi b n) :
  ∃ x',fT es x lo hi none=some x'/\Ow H el es x' ((l.drop (a*es)).take ((b-a)*es))/\∀ j∈aa x',j∈aa x:=by
 cases h with
 | nil=>
  have hn:n=0:=by
   simp only[abY] at hl
   rcases aji.1 hl.symm with q | q<;>omega
  subst hn
  have je:b=0:=by omega
  have wY:a=0:=by omega
  subst je;subst wY
  refine⟨.ae,?_,by simpa using Ow.nil,fun j hj=>hj⟩
  unfold fT
  simp only[uY (aar 0) (aar 0) (aar 0) fG gp];rfl
 | @emp i off=>
  have hn:n=0:=by
   simp only[abY] at hl
   rcases aji.1 hl.symm with q | q<;>omega
  subst hn
  have je:b=0:=by omega
  have wY:a=0:=by omega
  subst je;subst wY
  refine⟨.slice i (off+0*es) 0 0 true es,?_,by simpa using Ow.emp,fun j hj=>by cases hj⟩
  unfold fT
  simp only[uY (aar 0) (aar 0) (aar 0) fG gp]
  simp
 | @mk i off m cap ex l c lo' xV fl gS hg hf asP asD hc hn gi hs h1 he=>
  have hm:m=n:=ahD dC (hn.symm.trans hl)
  subst hm
  refine⟨.slice i (off+a*es) (b-a) (cap-a) ex es,?_,?_,?_⟩
  ·unfold fT
   simp only[uY zd hb hc fG gp,ac0]
   simp
  ·cases hq:(ex&&Nat.beq (cap-a) 0) with
   | true=>
    rw[zf] at hq
    obtain⟨rfl,h0⟩:=hq
    have h0:=aba h0
    have TD:b-a=0:=by omega
    rw[h0,TD,afB,List.take_zero]
    exact .emp
   | false=>
    have Bc:a*es<=l.length:=by rw[hl];exact ad4 _ (by omega)
    have hac:a*es+(cap-a)*es=cap*es:=by rw[<-aeS];congr 1;omega
    refine .mk gS hg hf (by omega) (by omega) (by omega) ?_ (fun k v hk => ?_) (fun k hk => ?_) (fun v hv=>h1 v (List.mem_of_mem_drop (List.mem_of_mem_take hv))) hq
    ·rw[afi,aef,hl,<-Nat.sub_mul]
     exact aiK (ad4 _ (by omega))
    ·rw[adM] at hk
     split at hk
     ·rw[adG] at hk
      rw[afj];exact gi _ v hk
     ·cases hk
    ·rw[afj];exact hs _ (by omega)
  ·intro j hj
   rw[mP he]
   simp only[aa] at hj
   cases hq:(ex&&Nat.beq (cap-a) 0)<;>rw[hq] at hj
   ·exact hj
   ·cases hj
def ks (e:ME)(k:List Nat):Prop:=e.key = .str k
theorem TW {k:List Nat}:∀ (es:List ME) (i:Nat),(∀ e∈es,∃ q,e.key = .str q/\q≠k)->fk .str (.str k) es i=some none
 | [],i,_=>rfl
 | e::es,i,h=>by
  obtain⟨q,h1,h2⟩:=h e (.head _)
  have:xO .str (.str k) e.key=some false:=by
   rw[h1]
   show some (k==q)=some false
   rw[beq_false_of_ne (fun x=>h2 x.symm)]
  unfold fk
  rw[this]
  exact TW es (i+1) (fun e he=>h e (.tail _ he))
theorem ab9 {k:List Nat}:∀ es:List ME,(∀ e∈es,∃ q,e.key = .str q/\q≠k)->nk .str (.str k) es=true
 | [],h=>rfl
 | e::es,h=>by
  obtain⟨q,h1,h2⟩:=h e (.head _)
  have:xO .str (.str k) e.key=some false:=by
   rw[h1]
   show some (k==q)=some false
   rw[beq_false_of_ne (fun x=>h2 x.symm)]
  unfold nk
  rw[this]
  exact ab9 es (fun e he=>h e (.tail _ he))
theorem Me {k:List Nat}{e:ME}{b:List ME}(hk:e.key = .str k)(hb:∀ e∈b,∃ q,e.key = .str q/\q≠k):∀ (a:List ME) (i:Nat),(∀ e∈a,∃ q,e.key = .str q/\q≠k)->fk .str (.str k) (a++e::b) i=some (some (i+a.length,e))
 | [],i,_=>by
  have:xO .str (.str k) e.key=some true:=by
   rw[hk]
   show some (k==k)=some true
   rw[beq_self_eq_true]
  show fk .str (.str k) (e::b) i=_
  unfold fk
  rw[this,ab9 b hb];rfl
 | x::a,i,h=>by
  obtain⟨q,h1,h2⟩:=h x (.head _)
  have:xO .str (.str k) x.key=some false:=by
   rw[h1]
   show some (k==q)=some false
   rw[beq_false_of_ne (fun x=>h2 x.symm)]
  show fk .str (.str k) (x::(a++e::b)) i=_
  unfold fk
  rw[this]
  simp only
  rw[Me hk hb a (i+1) (fun e he=>h e (.tail _ he)),abn]
  congr 3;omega
theorem MC {H:Hp}{i:Nat}{es:List ME}{c:Nat}(h:Mp H i es c):mapOf H (.map i)=some (es,c):=by
 unfold mapOf
 simp only[h.2]
theorem acV {H:Hp}{i:Nat}{es:List ME}{c:Nat}{k:List Nat}(h:Mp H i es c)(hk:∀ e∈es,∃ q,e.key = .str q/\q≠k)(z:AV)(ok:Bool):mU .str z ok (.map i) (.str k) H=some (bif ok then .tuple [z,.bool false] else z):=by
 unfold mU
 rw[MC h]
 simp only[TW es 0 hk]
theorem akU {H:Hp}{i:Nat}{a b:List ME}{e:ME}{c:Nat}{k:List Nat}(h:Mp H i (a++e::b) c)(he:e.key = .str k)(hk:∀ e∈a,∃ q,e.key = .str q/\q≠k)(hb:∀ e∈b,∃ q,e.key = .str q/\q≠k)(z:AV)(ok:Bool) :
  mU .str z ok (.map i) (.str k) H=some (bif ok then .tuple [e.val,.bool true] else e.val):=by
 unfold mU
 rw[MC h]
 simp only[Me he hb a 0 hk]
theorem Mp.set {H:Hp}{i:Nat}{es:List ME}{c:Nat}(h:Mp H i es c)(aq:List ME)(c':Nat):Mp (setObj H i (.map aq c')) i aq c'/\Out [i] H (setObj H i (.map aq c')):=
 ⟨⟨h.1,by rw[Lo,if_pos rfl]⟩,aar _,fun j _ hn=>by rw[Lo,if_neg (by simpa using hn)]⟩
theorem anN {H:Hp}{i:Nat}{es:List ME}{c:Nat}{k:List Nat}(h:Mp H i es c)(hk:∀ e∈es,∃ q,e.key = .str q/\q≠k)(v:AV) :
  ∃ H',kb .str (.map i) (.str k) v H=some H'/\Mp H' i (es++[⟨.str k,v,c⟩]) (c+1)/\Out [i] H H':=by
 refine⟨_,?_,h.set _ _⟩
 unfold kb
 simp only[h.2,TW es 0 hk]
theorem ahT {H:Hp}{i:Nat}{a b:List ME}{e:ME}{c:Nat}{k:List Nat}(h:Mp H i (a++e::b) c)(he:e.key = .str k)(hk:∀ e∈a,∃ q,e.key = .str q/\q≠k)(hb:∀ e∈b,∃ q,e.key = .str q/\q≠k)(v:AV) :
  ∃ H',kb .str (.map i) (.str k) v H=some H'/\Mp H' i (a++{ e with key := .str k,val:=v }::b) c/\Out [i] H H':=by
 refine⟨_,?_,h.set _ _⟩
 unfold kb
 have hs:Au e.key (.str k)=true:=by rw[he];simp[Au,GP]
 simp only[h.2,Me he hb a 0 hk,hs,cond_true]
 simp
theorem al7 {H:Hp}{i:Nat}{a b:List ME}{e:ME}{c:Nat}{k:List Nat}(h:Mp H i (a++e::b) c)(he:e.key = .str k)(hk:∀ e∈a,∃ q,e.key = .str q/\q≠k)(hb:∀ e∈b,∃ q,e.key = .str q/\q≠k) :
  ∃ H',Aq .str (.map i) (.str k) H=some H'/\Mp H' i (a++b) c/\Out [i] H H':=by
 refine⟨_,?_,h.set _ _⟩
 unfold Aq
 simp only[h.2,Me he hb a 0 hk]
 simp[List.eraseIdx_append_of_length_le]
theorem aqa {H:Hp}{i:Nat}{es:List ME}{c:Nat}(h:Mp H i es c):Gt (.map i) H=some (.int .i64 es.length):=by
 unfold Gt
 simp only[h.2]
theorem we {es i off n cap:Nat}{ex:Bool}{k:IntKind}{j:Nat}(h:j<n):ia es (.slice i off n cap ex es) (.int k j)=some (.ptr i (off+j*es)):=by
 unfold ia
 simp only
 rw[if_pos ⟨trivial,by omega,by omega⟩,aeq]
theorem vZ (x:AV):(aa x).Nodup:=by
 cases x with
 | slice i o n c ex es=>
  show (bif ex&&Nat.beq c 0 then [] else [i]).Nodup
  cases (ex&&Nat.beq c 0)<;>simp
 | ptr i o=>simp[aa]
 | map i=>simp[aa]
 | _=>exact List.nodup_nil
theorem YH (x:R):Iw true x=x:=No rfl (id rfl)
theorem JL (P:Program)(t:Array TypeId)(k j:IntKind)(a b:Int)(H:Hp):eP P .max t [.int k a,.int j b] H=some (.int k (if a<b then b else a),H):=No rfl (id rfl)
theorem Ga (P:Program)(t:Array TypeId)(k j:IntKind)(a b:Int)(H:Hp):eP P .min t [.int k a,.int j b] H=some (.int k (if b<a then b else a),H):=No rfl (id rfl)
theorem Rw.lA {H:Hp}{x:AV}{l:List AV}(h:Rw H 1 x l){i:Nat}{v:AV}(hv:l[i]? = some v)(k:IntKind):∃ q,ia 1 x (.int k i)=some q/\ld q H=some v:=by
 cases h with
 | nil=>cases hv
 | emp=>cases hv
 | @mk j off n cap ex l hr hn hc he=>
  have hi:=(abf.1 hv).1
  refine⟨.ptr j (off+i),?_,hr.ld hv⟩
  have gH:i<n:=by omega
  rw[we gH,adQ]
end K
end Go.Proofs.YtehhgkgeldinkaaGreatDoor.Am
