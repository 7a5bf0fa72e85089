/- Laws that the proof uses. -/
import Derived.Test.YtbdlbhlhnpblpaaGreatDoorAm12
set_option linter.unusedVariables false
set_option linter.unusedSimpArgs false
namespace Go.Proofs.YtbdlbhlhnpblpaaGreatDoor.Am
namespace K
section
variable {α:Type}
theorem ba (v:α)(k:α->R):B1 (some v) k=k v:=aaM rfl (id rfl)
theorem aI (v:AV)(H:Hp)(k:AV->Hp->R):B2 (some (v,H)) k=k v H:=aaM rfl (id rfl)
theorem aW (v:Nat)(H:Hp)(k:Nat->Hp->R):BN (some (v,H)) k=k v H:=aaM rfl (id rfl)
end
theorem az (f:(Hp->R)->R)(k:Hp->R):JN 0 f k=f k:=aaM rfl (id rfl)
theorem bd (f:(AV->Hp->R)->R)(k:AV->Hp->R):JN 1 f k=f k:=aaM rfl (id rfl)
theorem aw (f:(AV->AV->Hp->R)->R)(k:AV->AV->Hp->R):JN 2 f k=f k:=aaM rfl (id rfl)
theorem av (f:(AV->AV->AV->Hp->R)->R)(k:AV->AV->AV->Hp->R):JN 3 f k=f k:=aaM rfl (id rfl)
theorem bG (f:(AV->AV->AV->AV->Hp->R)->R)(k:AV->AV->AV->AV->Hp->R):JN 4 f k=f k:=aaM rfl (id rfl)
theorem aH (f:(AV->AV->AV->AV->AV->Hp->R)->R)(k:AV->AV->AV->AV->AV->Hp->R):JN 5 f k=f k:=aaM rfl (id rfl)
theorem au (f:(AV->AV->AV->AV->AV->AV->Hp->R)->R)(k:AV->AV->AV->AV->AV->AV->Hp->R):JN 6 f k=f k:=aaM rfl (id rfl)
theorem ak (f:(AV->AV->AV->AV->AV->AV->AV->Hp->R)->R)(k:AV->AV->AV->AV->AV->AV->AV->Hp->R):JN 7 f k=f k:=aaM rfl (id rfl)
theorem aK (f:(AV->AV->AV->AV->AV->AV->AV->AV->Hp->R)->R)(k:AV->AV->AV->AV->AV->AV->AV->AV->Hp->R):JN 8 f k=f k:=aaM rfl (id rfl)
theorem aA (f:(AV->AV->AV->AV->AV->AV->AV->AV->AV->Hp->R)->R)(k:AV->AV->AV->AV->AV->AV->AV->AV->AV->Hp->R):JN 9 f k=f k:=aaM rfl (id rfl)
theorem aP (f:(AV->AV->AV->AV->AV->AV->AV->AV->AV->AV->Hp->R)->R)(k:AV->AV->AV->AV->AV->AV->AV->AV->AV->AV->Hp->R):JN 10 f k=f k:=aaM rfl (id rfl)
theorem bK (f:(AV->AV->AV->AV->AV->AV->AV->AV->AV->AV->AV->Hp->R)->R)(k:AV->AV->AV->AV->AV->AV->AV->AV->AV->AV->AV->Hp->R):JN 11 f k=f k:=aaM rfl (id rfl)
theorem aE (f:(AV->AV->AV->AV->AV->AV->AV->AV->AV->AV->AV->AV->Hp->R)->R)(k:AV->AV->AV->AV->AV->AV->AV->AV->AV->AV->AV->AV->Hp->R):JN 12 f k=f k:=aaM rfl (id rfl)
theorem bO (f:(AV->AV->AV->AV->AV->AV->AV->AV->AV->AV->AV->AV->AV->Hp->R)->R)(k:AV->AV->AV->AV->AV->AV->AV->AV->AV->AV->AV->AV->AV->Hp->R):JN 13 f k=f k:=aaM rfl (id rfl)
theorem bC (f:(AV->AV->AV->AV->AV->AV->AV->AV->AV->AV->AV->AV->AV->AV->Hp->R)->R)(k:AV->AV->AV->AV->AV->AV->AV->AV->AV->AV->AV->AV->AV->AV->Hp->R):JN 14 f k=f k:=aaM rfl (id rfl)
theorem aR (f:(AV->AV->AV->AV->AV->AV->AV->AV->AV->AV->AV->AV->AV->AV->AV->Hp->R)->R)(k:AV->AV->AV->AV->AV->AV->AV->AV->AV->AV->AV->AV->AV->AV->AV->Hp->R):JN 15 f k=f k:=aaM rfl (id rfl)
theorem bu (f:(AV->AV->AV->AV->AV->AV->AV->AV->AV->AV->AV->AV->AV->AV->AV->AV->Hp->R)->R)(k:AV->AV->AV->AV->AV->AV->AV->AV->AV->AV->AV->AV->AV->AV->AV->AV->Hp->R):JN 16 f k=f k:=aaM rfl (id rfl)
theorem ay (f:(AV->AV->AV->AV->AV->AV->AV->AV->AV->AV->AV->AV->AV->AV->AV->AV->AV->Hp->R)->R)(k:AV->AV->AV->AV->AV->AV->AV->AV->AV->AV->AV->AV->AV->AV->AV->AV->AV->Hp->R):JN 17 f k=f k:=aaM rfl (id rfl)
theorem bF (f:(AV->AV->AV->AV->AV->AV->AV->AV->AV->AV->AV->AV->AV->AV->AV->AV->AV->AV->Hp->R)->R)(k:AV->AV->AV->AV->AV->AV->AV->AV->AV->AV->AV->AV->AV->AV->AV->AV->AV->AV->Hp->R):JN 18 f k=f k:=aaM rfl (id rfl)
theorem aT (f:(AV->AV->AV->AV->AV->AV->AV->AV->AV->AV->AV->AV->AV->AV->AV->AV->AV->AV->AV->Hp->R)->R)(k:AV->AV->AV->AV->AV->AV->AV->AV->AV->AV->AV->AV->AV->AV->AV->AV->AV->AV->AV->Hp->R):JN 19 f k=f k:=aaM rfl (id rfl)
theorem aC (f:(AV->AV->AV->AV->AV->AV->AV->AV->AV->AV->AV->AV->AV->AV->AV->AV->AV->AV->AV->AV->Hp->R)->R)(k:AV->AV->AV->AV->AV->AV->AV->AV->AV->AV->AV->AV->AV->AV->AV->AV->AV->AV->AV->AV->Hp->R):JN 20 f k=f k:=aaM rfl (id rfl)
theorem bq (f:(AV->AV->AV->AV->AV->AV->AV->AV->AV->AV->AV->AV->AV->AV->AV->AV->AV->AV->AV->AV->AV->Hp->R)->R)(k:AV->AV->AV->AV->AV->AV->AV->AV->AV->AV->AV->AV->AV->AV->AV->AV->AV->AV->AV->AV->AV->Hp->R):JN 21 f k=f k:=aaM rfl (id rfl)
theorem aU (f:(AV->AV->AV->AV->AV->AV->AV->AV->AV->AV->AV->AV->AV->AV->AV->AV->AV->AV->AV->AV->AV->AV->Hp->R)->R)(k:AV->AV->AV->AV->AV->AV->AV->AV->AV->AV->AV->AV->AV->AV->AV->AV->AV->AV->AV->AV->AV->AV->Hp->R):JN 22 f k=f k:=aaM rfl (id rfl)
theorem bI (f:(AV->AV->AV->AV->AV->AV->AV->AV->AV->AV->AV->AV->AV->AV->AV->AV->AV->AV->AV->AV->AV->AV->AV->Hp->R)->R)(k:AV->AV->AV->AV->AV->AV->AV->AV->AV->AV->AV->AV->AV->AV->AV->AV->AV->AV->AV->AV->AV->AV->AV->Hp->R):JN 23 f k=f k:=aaM rfl (id rfl)
theorem bM (f:(AV->AV->AV->AV->AV->AV->AV->AV->AV->AV->AV->AV->AV->AV->AV->AV->AV->AV->AV->AV->AV->AV->AV->AV->Hp->R)->R)(k:AV->AV->AV->AV->AV->AV->AV->AV->AV->AV->AV->AV->AV->AV->AV->AV->AV->AV->AV->AV->AV->AV->AV->AV->Hp->R):JN 24 f k=f k:=aaM rfl (id rfl)
theorem aQ (x y:R):CD (.bool true) x y=x:=aaM rfl (id rfl)
theorem ar (x y:R):CD (.bool false) x y=y:=aaM rfl (id rfl)
theorem aV (f:(AV->Hp->R)->R)(k:AV->Hp->R)(H:Hp):GO (.bool true) true f k H=f k:=aaM rfl (id rfl)
theorem a7 (f:(AV->Hp->R)->R)(k:AV->Hp->R)(H:Hp):GO (.bool false) true f k H=k cF H:=aaM rfl (id rfl)
theorem bS (f:(AV->Hp->R)->R)(k:AV->Hp->R)(H:Hp):GO (.bool true) false f k H=k cF H:=aaM rfl (id rfl)
theorem aF (f:(AV->Hp->R)->R)(k:AV->Hp->R)(H:Hp):GO (.bool false) false f k H=f k:=aaM rfl (id rfl)
theorem aO (f:(AV->Hp->R)->R)(k:AV->Hp->R)(H:Hp):GO cF true f k H=k cF H:=aaM rfl (id rfl)
theorem bt (f:(AV->Hp->R)->R)(k:AV->Hp->R)(H:Hp):GO cF false f k H=k cF H:=aaM rfl (id rfl)
theorem bJ (x y:R):pQ (.bool true) true x y=x:=aaM rfl (id rfl)
theorem aN (x y:R):pQ (.bool false) true x y=y:=aaM rfl (id rfl)
theorem aM (x y:R):pQ (.bool true) false x y=y:=aaM rfl (id rfl)
theorem aD (x y:R):pQ (.bool false) false x y=x:=aaM rfl (id rfl)
theorem bB (a b:AV):pk (.bool true) a b=some a:=aaM rfl (id rfl)
theorem br (a b:AV):pk (.bool false) a b=some b:=aaM rfl (id rfl)
theorem aY (i o:Nat):cg (.ptr i o)=some (.ptr i o):=aaM rfl (id rfl)
theorem bQ (t:TypeId)(v:AV):cg (.iface t v)=some (.iface t v):=aaM rfl (id rfl)
theorem bT (off i o:Nat):fa off (.ptr i o)=some (.ptr i (o+off)):=aaM rfl (id rfl)
theorem bk (off:Nat)(l:List AV):fd off (.agg l)=l[off]? := aaM rfl (id rfl)
theorem bH (i:Nat)(l:List AV):ex i (.tuple l)=l[i]? := aaM rfl (id rfl)
theorem af (k:IntKind)(a b:Int):df (.int k a) (.int k b)=some (.int k (k.wrap (a+b))):=by simp[df,ii]
theorem bp (k:IntKind)(a b:Int):kj (.int k a) (.int k b)=some (.int k (k.wrap (a-b))):=by simp[kj,ii]
theorem ag (k:IntKind)(a b:Int):uQ (.int k a) (.int k b)=some (.int k (k.wrap (a*b))):=by simp[uQ,ii]
theorem bP (k:IntKind)(a b:Int):pC (.int k a) (.int k b)=some (.bool (a==b)):=by simp[pC,ii]
theorem ah (k:IntKind)(a b:Int):dq (.int k a) (.int k b)=some (.bool (a != b)):=by simp[dq,ii]
theorem aB (k:IntKind)(a b:Int):dy (.int k a) (.int k b)=some (.bool (a<b)):=by simp[dy,ii]
theorem aG (k:IntKind)(a b:Int):xV (.int k a) (.int k b)=some (.bool (a<=b)):=by simp[xV,ii]
theorem bw (k:IntKind)(a b:Int):eR (.int k a) (.int k b)=some (.bool (b<a)):=by simp[eR,ii]
theorem bA (k:IntKind)(a b:Int):se (.int k a) (.int k b)=some (.bool (b<=a)):=by simp[se,ii]
theorem amv (k:IntKind)(a b:Int)(h:b≠0):oW (.int k a) (.int k b)=some (.int k (a.tmod b)):=by simp[oW,ii,h]
theorem bR (a b:List Nat):seq (.str a) (.str b)=some (.bool (a==b)):=aaM rfl (id rfl)
theorem aL (a b:List Nat):Br (.str a) (.str b)=some (.bool (!(a==b))):=aaM rfl (id rfl)
theorem bN (a b:List Nat):slt (.str a) (.str b)=some (.bool (nu a b)):=aaM rfl (id rfl)
theorem bD (s:List Nat):lens (.str s)=some (.int .i64 s.length):=aaM rfl (id rfl)
theorem bo:cy .ae=some (.int .i64 0):=aaM rfl (id rfl)
theorem aj (i o n c:Nat)(x:Bool)(es:Nat):cy (.slice i o n c x es)=some (.int .i64 n):=aaM rfl (id rfl)
theorem bg (a b:Bool):bb .eql (.bool a) (.bool b)=some (.bool (a==b)):=aaM rfl (id rfl)
theorem aq (a b:Bool):bb .neq (.bool a) (.bool b)=some (.bool (!(a==b))):=aaM rfl (id rfl)
theorem bh (b:Bool):mw .not (.bool b)=some (.bool !b):=aaM rfl (id rfl)
theorem ai (k j:IntKind)(n:Int):cv k (.int j n)=some (.int k (k.wrap n)):=aaM rfl (id rfl)
theorem aS (H:Hp):pe .cD .cD H=some true:=aaM rfl (id rfl)
theorem a8 (i o:Nat)(H:Hp):pe .cD (.ptr i o) H=some false:=aaM rfl (id rfl)
theorem aZ (i o:Nat)(H:Hp):pe (.ptr i o) .cD H=some false:=aaM rfl (id rfl)
theorem bE (b:Bool):mW .eql (some b)=some (.bool b):=aaM rfl (id rfl)
theorem aJ (b:Bool):mW .neq (some b)=some (.bool !b):=aaM rfl (id rfl)
theorem eX {a b:AV}{x:R}(h:same a b=true):SM a b x=x:=by simp[SM,h]
theorem wrap_i64 {a:Int}(h : -9223372036854775808<=a)(k:a<=9223372036854775807):IntKind.wrap .i64 a=a:=by
 simp only[IntKind.wrap,IntKind.bits,IntKind.signed]
 simp
 omega
theorem lh {P:Program}{ext:Nat->Option Ext}{b7:Nat->Option Prim}{an:Nat->An}{cl:Nat}{p:Prim}{args:List AV}{H:Hp}{r:AV × Hp}(hp:b7 cl=some p)(h:p args H=some r) :
  CK P (lV P) ext b7 an (.func (.func cl) [] []) args H=some r:=by
 refine Yd Nq ?_
 unfold va
 simp only[hp,adt,aeD]
 exact h
def Cs (H:Hp)(i:Nat)(l:List AV)(el fl:Nat):Prop:=i<H.next/\∃ c,H.h.get i=some (.cells c 0 l.length el fl)/\∀ k v,l[k]? = some v->c.get k=some v
def Mp (H:Hp)(i:Nat)(es:List ME)(c:Nat):Prop:=i<H.next/\H.h.get i=some (.map es c)
def Out (S:List Nat)(H H':Hp):Prop:=H.next<=H'.next/\∀ j,j<H.next->j∉S->H'.h.get j=H.h.get j
theorem Out.refl (S:List Nat)(H:Hp):Out S H H:=⟨zf _,fun _ _ _=>rfl⟩
theorem Out.trans {S:List Nat}{H H' sC:Hp}(h:Out S H H')(k:Out S H' sC):Out S H sC:=
 ⟨abl h.1 k.1,fun j hj hs=>(k.2 j (aci hj h.1) hs).trans (h.2 j hj hs)⟩
theorem Out.mono {S S':List Nat}{H H':Hp}(h:Out S H H')(k:∀ j∈S,j∈S'):Out S' H H':=⟨h.1,fun j hj hs=>h.2 j hj fun q=>hs (k j q)⟩
theorem Out.then {S S':List Nat}{H H' sC:Hp}(h:Out S H H')(k:Out S' H' sC)(hs:∀ j∈S',j∈S\/H.next<=j):Out S H sC:=
 ⟨abl h.1 k.1,fun j hj hn=>(k.2 j (aci hj h.1) fun q=>(hs j q).elim hn (by omega)).trans (h.2 j hj hn)⟩
theorem Cs.out {H H':Hp}{i:Nat}{l:List AV}{el fl:Nat}{S:List Nat}(h:Cs H i l el fl)(k:Out S H H')(hi:i∉S):Cs H' i l el fl:=
 ⟨aci h.1 k.1,by rw[k.2 i h.1 hi];exact h.2⟩
theorem Mp.out {H H':Hp}{i:Nat}{es:List ME}{c:Nat}{S:List Nat}(h:Mp H i es c)(k:Out S H H')(hi:i∉S):Mp H' i es c:=
 ⟨aci h.1 k.1,by rw[k.2 i h.1 hi];exact h.2⟩
theorem Cs.cellAt {H:Hp}{i:Nat}{l:List AV}{el fl:Nat}(h:Cs H i l el fl){o:Nat}{v:AV}(hv:l[o]? = some v):cellAt H i o=some v:=by
 obtain⟨_,c,hc,hg⟩:=h
 have ho:o<l.length:=(aaL.1 hv).1
 unfold Am.cellAt
 rw[hc]
 have hb:(Nat.ble 0 o&&Nat.blt o l.length)=true:=by
  rw[aaK,acN,acY];omega
 simp only[hb,cond_true]
 exact hg o v hv
theorem Cs.ld {H:Hp}{i:Nat}{l:List AV}{el fl:Nat}(h:Cs H i l el fl){o:Nat}{v:AV}(hv:l[o]? = some v):ld (.ptr i o) H=some v:=h.cellAt hv
theorem Cs.cU {H:Hp}{i:Nat}{l:List AV}{el fl:Nat}(h:Cs H i l el fl):∀ (n o:Nat),o+n<=l.length->cU H i o n=some ((l.drop o).take n)
 | 0,o,_=>by simp[Am.cU]
 | n+1,o,hn=>by
  have ho:o<l.length:=by omega
  have h1:=h.cellAt (o:=o) (v:=l[o]) (abb ho)
  have h2:=h.cU n (o+1) (by omega)
  unfold Am.cU
  rw[h1,h2,List.drop_eq_getElem_cons ho]
  rfl
theorem Cs.cn {H:Hp}{i:Nat}{l:List AV}{el fl:Nat}(h:Cs H i l el fl){n o:Nat}(hn:o+n<=l.length):cn n (.ptr i o) H=some (.agg ((l.drop o).take n)):=by
 show (Am.cU H i o n).map AV.agg=_
 rw[h.cU n o hn];rfl
theorem Zv (H:Hp)(i j:Nat)(o:AO):(setObj H i o).h.get j=if j=i then some o else H.h.get j:=Tr.eS _ _ _ _
theorem aeO {H:Hp}{i:Nat}{l:List AV}{el fl:Nat}(h:Cs H i l el fl)(hf:fl<=1){o:Nat}(ho:o<l.length){v:AV}(hv:dF v=true) :
  ∃ H',setCell H i o v=some H'/\Cs H' i (l.set o v) el fl/\Out [i] H H'/\H'.next=H.next:=by
 obtain⟨hi,c,hc,hg⟩:=h
 have hs:(c.get o).isSome=true:=by rw[hg o l[o] (abb ho)];rfl
 have hb:(Nat.ble 0 o&&Nat.blt o l.length&&Nat.ble fl 1&&(c.get o).isSome&&dF v)=true:=by
  simp only[aaK,acN,acY];exact⟨⟨⟨⟨by omega,ho⟩,hf⟩,hs⟩,hv⟩
 refine⟨{ H with h:=H.h.eZ i (.cells (c.eZ o v) 0 l.length el fl) },?_,⟨hi,c.eZ o v,?_,?_⟩,⟨zf _,?_⟩,rfl⟩
 ·unfold setCell
  rw[hc]
  simp only[hb,cond_true]
 ·show (Tr.eZ H.h i _).get i=_
  rw[Tr.eZ,Tr.eS,if_pos rfl,List.length_set]
 ·intro k u hk
  rw[Tr.eZ,Tr.eS]
  by_cases T4:k=o
  ·subst T4
   rw[List.getElem?_set_self (by omega)] at hk
   rw[if_pos rfl]
   exact hk
  ·rw[List.getElem?_set_ne (fun q=>T4 q.symm)] at hk
   rw[if_neg T4]
   exact hg k u hk
 ·intro j hj hn
  show (Tr.eZ H.h i _).get j=_
  rw[Tr.eZ,Tr.eS,if_neg (by simpa using hn)]
theorem DM {H:Hp}{i:Nat}{l:List AV}{el fl:Nat}(h:Cs H i l el fl)(hf:fl<=1){o:Nat}(ho:o<l.length){v:AV}(hv:dF v=true) :
  ∃ H',st 1 (.ptr i o) v H=some H'/\Cs H' i (l.set o v) el fl/\Out [i] H H'/\H'.next=H.next:=by
 obtain⟨H',h1,h2,h3,h4⟩:=aeO h hf ho hv
 refine⟨H',?_,h2,h3,h4⟩
 have hc:kx v=some [v]:=by cases v<;>first | rfl | cases hv
 unfold st
 simp only[hc]
 show setCells H i o [v]=_
 simp only[setCells,h1,ace,ach]
theorem iI (H:Hp)(l:List AV)(el fl:Nat)(hl:l.length<=16777216):∃ H',cP H l el fl=some (H.next,H')/\Cs H' H.next l el fl/\Out [] H H'/\H'.next=H.next+1:=by
 refine⟨⟨H.h.put 34 H.next (.cells (Tr.cR .nil 0 l) 0 l.length el fl),H.next+1⟩,?_,⟨aeE _,Tr.cR .nil 0 l,?_,?_⟩,⟨Nat.le_succ _,?_⟩,rfl⟩
 ·unfold cP alloc
  have:Nat.ble l.length 16777216=true:=acN.mpr hl
  rw[this];rfl
 ·show (Tr.put 34 H.h H.next _).get H.next=_
  rw[Tr.put,Tr.eS,if_pos rfl]
 ·intro k v hk
  rw[Bf]
  have:=(aaL.1 hk).1
  rw[if_pos (by omega)];exact hk
 ·intro j hj _
  show (Tr.put 34 H.h H.next _).get j=_
  rw[Tr.put,Tr.eS,if_neg (by omega)]
theorem xC (H:Hp)(el:Nat)(x:AV)(l:List AV)(hx:kx x=some l)(hl:l.length<=16777216):∃ H',bx el x H=some (H.next,H')/\Cs H' H.next l el 0/\Out [] H H'/\H'.next=H.next+1:=by
 obtain⟨H',h1,h2⟩:=iI H l el 0 hl
 exact⟨H',by unfold bx;rw[hx];exact h1,h2⟩
theorem amo (H:Hp):∃ H',Ep H=some (H.next,H')/\Mp H' H.next [] 0/\Out [] H H'/\H'.next=H.next+1:=by
 refine⟨⟨H.h.put 34 H.next (.map [] 0),H.next+1⟩,rfl,⟨aeE _,?_⟩,⟨Nat.le_succ _,?_⟩,rfl⟩
 ·show (Tr.put 34 H.h H.next _).get H.next=_
  rw[Tr.put,Tr.eS,if_pos rfl]
 ·intro j hj _
  show (Tr.put 34 H.h H.next _).get j=_
  rw[Tr.put,Tr.eS,if_neg (by omega)]
def Ro (H:Hp)(i off:Nat)(l:List AV):Prop:=i<H.next/\∃ c lo hi el fl,H.h.get i=some (.cells c lo hi el fl)/\lo<=off/\off+l.length<=hi/\∀ k v,l[k]? = some v->c.get (off+k)=some v
theorem Cs.ro {H:Hp}{i:Nat}{l:List AV}{el fl:Nat}(h:Cs H i l el fl):Ro H i 0 l:=by
 obtain⟨hi,c,hc,hg⟩:=h
 exact⟨hi,c,0,l.length,el,fl,hc,zf _,by omega,fun k v hk=>by rw[wc];exact hg k v hk⟩
theorem Ro.out {H H':Hp}{i off:Nat}{l:List AV}{S:List Nat}(h:Ro H i off l)(k:Out S H H')(hi:i∉S):Ro H' i off l:=
 ⟨aci h.1 k.1,by rw[k.2 i h.1 hi];exact h.2⟩
theorem Ro.cellAt {H:Hp}{i off:Nat}{l:List AV}(h:Ro H i off l){k:Nat}{v:AV}(hv:l[k]? = some v):cellAt H i (off+k)=some v:=by
 obtain⟨_,c,lo,hi,el,fl,hc,h1,h2,hg⟩:=h
 have hk:k<l.length:=(aaL.1 hv).1
 unfold Am.cellAt
 rw[hc]
 have hb:(Nat.ble lo (off+k)&&Nat.blt (off+k) hi)=true:=by
  rw[aaK,acN,acY];omega
 simp only[hb,cond_true]
 exact hg k v hv
theorem Ro.ld {H:Hp}{i off:Nat}{l:List AV}(h:Ro H i off l){k:Nat}{v:AV}(hv:l[k]? = some v):ld (.ptr i (off+k)) H=some v:=h.cellAt hv
theorem Ro.drop {H:Hp}{i off:Nat}{l:List AV}(h:Ro H i off l)(n:Nat)(hn:n<=l.length):Ro H i (off+n) (l.drop n):=by
 obtain⟨hi,c,lo,eG,el,fl,hc,h1,h2,hg⟩:=h
 refine⟨hi,c,lo,eG,el,fl,hc,by omega,by rw[adi];omega,fun k v hk => ?_⟩
 rw[acL] at hk
 rw[aeh];exact hg _ v hk
theorem Ro.take {H:Hp}{i off:Nat}{l:List AV}(h:Ro H i off l)(n:Nat):Ro H i off (l.take n):=by
 obtain⟨hi,c,lo,eG,el,fl,hc,h1,h2,hg⟩:=h
 refine⟨hi,c,lo,eG,el,fl,hc,h1,by rw[abN];omega,fun k v hk => ?_⟩
 rw[ac1] at hk
 split at hk
 ·exact hg _ v hk
 ·cases hk
theorem Ro.cU {H:Hp}{i:Nat}:∀ {l:List AV} {off:Nat},Ro H i off l->Am.cU H i off l.length=some l
 | [],off,_=>rfl
 | v::l,off,h=>by
  have h1:=h.cellAt (k:=0) (v:=v) rfl
  have h2:=(h.drop 1 (by simp)).cU
  simp only[List.drop_succ_cons,adE] at h2
  rw[acJ] at h1
  rw[abg]
  unfold Am.cU
  rw[h1,h2]
  rfl
def aa:AV->List Nat
 | .slice i _ _ cap ex _=>bif ex&&Nat.beq cap 0 then [] else [i]
 | .ptr i _=>[i]
 | .map i=>[i]
 | _=>[]
theorem pH {i o n cap es:Nat}{ex:Bool}(h:(ex&&Nat.beq cap 0)=false):aa (.slice i o n cap ex es)=[i]:=by simp only[aa,h,cond_false]
inductive Rw (H:Hp) (es:Nat):AV->List AV->Prop
 | nil:Rw H es .ae []
 | emp {i off:Nat}:Rw H es (.slice i off 0 0 true es) []
 | mk {i off n cap:Nat} {ex:Bool} {l:List AV} (h:Ro H i off l) (hn:l.length=n*es) (hc:n<=cap) (he:(ex&&Nat.beq cap 0)=false):Rw H es (.slice i off n cap ex es) l
theorem Rw.out {H H':Hp}{es:Nat}{x:AV}{l:List AV}{S:List Nat}(h:Rw H es x l)(k:Out S H H')(hi:∀ j∈aa x,j∉S):Rw H' es x l:=by
 cases h with
 | nil=>exact .nil
 | emp=>exact .emp
 | mk h hn hc he=>exact .mk (h.out k (hi _ (by rw[pH he];exact .head _))) hn hc he
theorem Rw.lt {H:Hp}{es:Nat}{x:AV}{l:List AV}(h:Rw H es x l):∀ j∈aa x,j<H.next:=by
 cases h with
 | nil=>intro j hj;cases hj
 | emp=>intro j hj;cases hj
 | mk h hn hc he=>intro j hj;rw[pH he,yX] at hj;subst hj;exact h.1
theorem Rw.len {H:Hp}{es:Nat}{x:AV}{l:List AV}(h:Rw H es x l):∃ n:Nat,cy x=some (.int .i64 n)/\l.length=n*es:=by
 cases h with
 | nil=>exact⟨0,rfl,by simp⟩
 | emp=>exact⟨0,rfl,by simp⟩
 | mk h hn hc he=>exact⟨_,rfl,hn⟩
theorem Rw.il {H:Hp}{x:AV}{l:List AV}(h:Rw H 1 x l):cy x=some (.int .i64 l.length):=by
 obtain⟨n,h1,h2⟩:=h.len
 rw[h1,h2,adO]
inductive Ow (H:Hp) (el es:Nat):AV->List AV->Prop
 | nil:Ow H el es .ae []
 | emp {i off:Nat}:Ow H el es (.slice i off 0 0 true es) []
 | mk {i off n cap:Nat} {ex:Bool} {l:List AV} {c:Tr AV} {lo hi fl:Nat} (eG:i<H.next) (hg:H.h.get i=some (.cells c lo hi el fl)) (hf:fl<=1) (ec:lo<=off) (eg:off+cap*es<=hi) (eh:n<=cap) (hn:l.length=n*es)
   (hc:∀ k v,l[k]? = some v->c.get (off+k)=some v) (hs:∀ k,k<cap*es->(c.get (off+k)).isSome=true) (h1:∀ v∈l,dF v=true) (he:(ex&&Nat.beq cap 0)=false):Ow H el es (.slice i off n cap ex es) l
theorem Ow.rw {H:Hp}{el es:Nat}{x:AV}{l:List AV}(h:Ow H el es x l):Rw H es x l:=by
 cases h with
 | nil=>exact .nil
 | emp=>exact .emp
 | @mk i off n cap ex l c lo hi fl eG hg hf ec eg eh hn hc hs h1 he=>
  exact .mk ⟨eG,c,lo,hi,el,fl,hg,ec,by rw[hn];exact abl (Nat.add_le_add_left (ac2 _ eh) _) eg,hc⟩ hn eh he
theorem Ow.out {H H':Hp}{el es:Nat}{x:AV}{l:List AV}{S:List Nat}(h:Ow H el es x l)(k:Out S H H')(hi:∀ j∈aa x,j∉S):Ow H' el es x l:=by
 cases h with
 | nil=>exact .nil
 | emp=>exact .emp
 | mk eG hg hf ec eg eh hn hc hs h1 he=>exact .mk (aci eG k.1) (by rw[k.2 _ eG (hi _ (by rw[pH he];exact .head _))];exact hg) hf ec eg eh hn hc hs h1 he
theorem Ow.one {H:Hp}{el es:Nat}{x:AV}{l:List AV}(h:Ow H el es x l):∀ v∈l,dF v=true:=by
 cases h with
 | nil=>intro v hv;cases hv
 | emp=>intro v hv;cases hv
 | mk _ _ _ _ _ _ _ _ _ h1 _=>exact h1
theorem Cs.ow {H:Hp}{i n:Nat}{l:List AV}{el es fl:Nat}(h:Cs H i l el fl)(hf:fl<=1)(hn:l.length=n*es)(h1:∀ v∈l,dF v=true)(ex:Bool):Ow H el es (.slice i 0 n n ex es) l:=by
 cases hex:(ex&&Nat.beq n 0) with
 | true=>
  rw[aaK] at hex
  obtain⟨rfl,mO⟩:=hex
  obtain rfl:=aaV mO
  have:l=[]:=by simpa using hn
  subst this
  exact .emp
 | false=>
 obtain⟨hi,c,hc,hg⟩:=h
 refine .mk hi hc hf (zf _) (by omega) (zf _) hn (fun k v hk=>by rw[wc];exact hg k v hk) (fun k hk => ?_) h1 hex
 rw[wc,hg k l[k] (abb (by omega))];rfl
theorem CC:∀ (l:List AV) (H:Hp) (i off:Nat) (c:Tr AV) (lo hi el fl:Nat),H.h.get i=some (.cells c lo hi el fl)->fl<=1->lo<=off->off+l.length<=hi->(∀ k,k<l.length->(c.get (off+k)).isSome=true)->(∀ v∈l,dF v=true)->
  ∃ H' c',setCells H i off l=some H'/\H'.next=H.next/\H'.h.get i=some (.cells c' lo hi el fl)/\(∀ j,j≠i->H'.h.get j=H.h.get j)/\∀ k,c'.get k=if off<=k/\k<off+l.length then l[k-off]? else c.get k
 | [],H,i,off,c,lo,hi,el,fl,hg,hf,h1,h2,hs,ho=>⟨H,c,rfl,rfl,hg,fun _ _=>rfl,fun k=>by rw[if_neg (by simp only[abQ];omega)]⟩
 | v::l,H,i,off,c,lo,hi,el,fl,hg,hf,h1,h2,hs,ho=>by
  simp only[abg] at h2
  have wU:=hs 0 (by simp)
  rw[acJ] at wU
  have hb:(Nat.ble lo off&&Nat.blt off hi&&Nat.ble fl 1&&(c.get off).isSome&&dF v)=true:=by
   simp only[aaK,acN,acY];exact⟨⟨⟨⟨h1,by omega⟩,hf⟩,wU⟩,ho v (.head _)⟩
  have je:setCell H i off v=some { H with h:=H.h.eZ i (.cells (c.eZ off v) lo hi el fl) }:=by
   unfold setCell;rw[hg];simp only[hb,cond_true]
  obtain⟨H',c',q1,q2,q3,q4,q5⟩:=CC l { H with h:=H.h.eZ i (.cells (c.eZ off v) lo hi el fl) } i (off+1) (c.eZ off v) lo hi el fl (by
    show (Tr.eZ H.h i _).get i=_
    rw[Tr.eZ,Tr.eS,if_pos rfl]) hf (by omega) (by omega) (fun k hk=>by
    rw[Tr.eZ,Tr.eS]
    split
    ·rfl
    ·have:=hs (k+1) (by simp;omega)
     rw[show off+1+k=off+(k+1) by omega];exact this) (fun u hu=>ho u (.tail _ hu))
  refine⟨H',c',?_,q2,q3,fun j hj => ?_,fun k => ?_⟩
  ·simp only[setCells,je,ace,ach];exact q1
  ·rw[q4 j hj]
   show (Tr.eZ H.h i _).get j=_
   rw[Tr.eZ,Tr.eS,if_neg hj]
  ·rw[q5 k,Tr.eZ,Tr.eS]
   by_cases hk:k=off
   ·subst hk
    rw[if_neg (by omega),if_pos rfl,if_pos (by simp),ahr];rfl
   ·rw[if_neg hk]
    by_cases gj:off+1<=k/\k<off+1+l.length
    ·rw[if_pos gj,if_pos (by simp;omega),show k-off=(k-(off+1))+1 by omega,gk]
    ·rw[if_neg gj,if_neg (by simp;omega)]
theorem KD {H:Hp}{el es n:Nat}{s:AV}{l new:List AV}(h:Ow H el es s l)(jg:new.length=n*es)(ho:∀ v∈new,dF v=true)(di:0<es)(hlen:l.length+new.length<=16777216) :
  ∃ s' H',yU el es n new s H=some (s',H')/\Ow H' el es s' (l++new)/\Out (aa s) H H'/\(∀ j∈aa s',j∈aa s\/H.next<=j):=by
 have gS:∀ v∈l++new,dF v=true:=fun v hv=>(aac.1 hv).elim (h.one v) (ho v)
 have abo:∀ s0:List Nat,n≠0->l=[]->∃ H',cP H new el 0=some (H.next,H')/\Ow H' el es (.slice H.next 0 n n false es) (l++new)/\Out s0 H H'/\(∀ j∈aa (.slice H.next 0 n n false es),j∈s0\/H.next<=j):=by
  intro s0 hn hl
  subst hl
  obtain⟨H',h1,h2,h3,h4⟩:=iI H new el 0 (by simp only[abQ] at hlen;omega)
  refine⟨H',h1,h2.ow (by omega) jg ho false,h3.mono (fun j hj=>by cases hj),fun j hj => ?_⟩
  simp only[aa,agf,cond_false,yX] at hj
  exact .inr (by omega)
 cases h with
 | nil=>
  unfold yU
  simp only
  by_cases hn:n=0
  ·subst hn
   have:new=[]:=by simpa using jg
   subst this
   exact⟨.ae,H,rfl,.nil,Out.refl _ _,fun j hj=>by cases hj⟩
  ·rw[lY hn,cond_false]
   have hle:n<=16777216:=by
    have:=Nat.le_mul_of_pos_right n di
    simp only[abQ] at hlen
    omega
   have hb:Nat.ble n 16777216=true:=acN.mpr hle
   rw[hb,cond_true]
   obtain⟨H',h1,h2⟩:=abo [] hn rfl
   exact⟨_,H',by rw[h1];rfl,h2⟩
 | @emp i off=>
  unfold yU
  have hle:n<=16777216:=by
   have:=Nat.le_mul_of_pos_right n di
   simp only[abQ] at hlen
   omega
  have hb:(Nat.ble (0+n) 16777216&&Nat.beq es es&&new.all dF)=true:=by
   simp only[aaK,acN,qt,adh]
   exact⟨⟨by omega,trivial⟩,ho⟩
  simp only[hb,cond_true]
  by_cases hn:n=0
  ·subst hn
   have:new=[]:=by simpa using jg
   subst this
   exact⟨.slice i off 0 0 true es,H,rfl,.emp,Out.refl _ _,fun j hj=>by cases hj⟩
  ·have ft:Nat.ble (0+n) 0=false:=by rw[<-Bool.not_eq_true,acN];omega
   rw[ft,cond_false]
   obtain⟨H',h1,h2⟩:=abo (aa (.slice i off 0 0 true es)) hn rfl
   refine⟨.slice H.next 0 n n false es,H',?_,h2⟩
   simp only[aeT,Am.cU,ach,adt,h1,ahH,wc]
 | @mk i off m cap ex l c lo hi fl eG hg hf ec eg eh hn hc hs h1 he=>
  unfold yU
  have pE:n<=new.length:=by rw[jg];exact Nat.le_mul_of_pos_right n di
  have BT:m<=l.length:=by rw[hn];exact Nat.le_mul_of_pos_right m di
  have hb:(Nat.ble (m+n) 16777216&&Nat.beq es es&&new.all dF)=true:=by
   simp only[aaK,acN,qt,adh]
   exact⟨⟨by omega,trivial⟩,ho⟩
  simp only[hb,cond_true]
  have kL:(l++new).length=(m+n)*es:=by rw[aaO,hn,jg,adC]
  by_cases yE:m+n<=cap
  ·have ft:Nat.ble (m+n) cap=true:=acN.mpr yE
   rw[ft,cond_true]
   have hr:(m+n)*es<=cap*es:=ac2 _ yE
   rw[adC] at hr
   obtain⟨H',c',q1,q2,q3,q4,q5⟩:=CC new H i (off+m*es) c lo hi el fl hg hf (by omega) (by rw[jg];omega) (fun k hk=>by
    rw[aeh];exact hs _ (by rw[jg] at hk;omega)) ho
   refine⟨_,H',by rw[q1];rfl,.mk (by rw[q2];exact eG) q3 hf ec eg yE kL (fun k v hk => ?_) (fun k hk => ?_) gS he,⟨by rw[q2];exact zf _,fun j hj Gt=>q4 j (by rw[pH he] at Gt;simpa using Gt)⟩,fun j hj => .inl (by rw[pH he] at hj ⊢;exact hj)⟩
   ·rw[q5]
    by_cases kM:k<l.length
    ·rw[if_neg (by omega),hc k v (by rw[abi kM] at hk;exact hk)]
    ·rw[abM (by omega)] at hk
     have:=(aaL.1 hk).1
     rw[if_pos (by omega),<-hk];congr 1;omega
   ·rw[q5]
    split
    ·rename_i hq
     rw[abb (by omega)];rfl
    ·exact hs k hk
  ·have ft:Nat.ble (m+n) cap=false:=by rw[<-Bool.not_eq_true,acN];omega
   rw[ft,cond_false]
   cases ex with
   | true=>
    simp only[cond_true]
    have kI:Ro H i off l:=⟨eG,c,lo,hi,el,fl,hg,ec,by rw[hn];exact abl (Nat.add_le_add_left (ac2 _ eh) _) eg,hc⟩
    have zw:=kI.cU
    rw[hn] at zw
    rw[zw]
    obtain⟨H',r1,r2,r3,r4⟩:=iI H (l++new) el 0 (by rw[aaO];omega)
    refine⟨_,H',by simp only[ach];rw[r1];rfl,r2.ow (by omega) kL gS false,r3.mono (fun j hj=>by cases hj),fun j hj => ?_⟩
    simp only[aa,agf,cond_false,yX] at hj
    exact .inr (by omega)
   | false=>
    simp only[cond_false,hg]
    have hr:m*es<=cap*es:=ac2 _ eh
    have o8:(Nat.ble fl 1&&Nat.ble lo off&&Nat.ble (off+m*es) hi&&Nat.beq el el)=true:=by
     simp only[aaK,acN,qt]
     exact⟨⟨⟨hf,ec⟩,by omega⟩,trivial⟩
    rw[o8,cond_true]
    refine⟨_,_,rfl,.mk (c:=c.cR (off+m*es) new) (lo:=off) (hi:=off+(m+n)*es) (fl:=1) ?_ ?_ (by omega) (zf _) (zf _) (zf _) kL (fun k v hk => ?_) (fun k hk => ?_) gS rfl,⟨?_,fun j hj Gt => ?_⟩,fun j hj => ?_⟩
    ·exact aeE _
    ·show (Tr.put 34 (H.h.del i) H.next _).get H.next=_
     rw[Tr.put,Tr.eS,if_pos rfl]
    ·rw[Tr.vD]
     by_cases kM:k<l.length
     ·rw[if_neg (by omega),hc k v (by rw[abi kM] at hk;exact hk)]
     ·rw[abM (by omega)] at hk
      have:=(aaL.1 hk).1
      rw[if_pos (by omega),<-hk];congr 1;omega
    ·rw[Tr.vD]
     rw[adC] at hk
     split
     ·rename_i hq
      rw[abb (by omega)];rfl
     ·exact hs k (by omega)
    ·exact Nat.le_succ _
    ·show (Tr.put 34 (H.h.del i) H.next _).get j=_
     rw[Tr.put,Tr.eS,if_neg (by omega),Tr.Kz,if_neg (by rw[pH he] at Gt;simpa using Gt)]
    ·simp only[aa,agf,cond_false,yX] at hj
     subst hj
     exact .inr (zf _)
theorem tJ {H:Hp}{el es:Nat}{z:List AV}{s x:AV}{l new:List AV}(h:Ow H el es s l)(hx:Rw H es x new)(ho:∀ v∈new,dF v=true)(di:0<es)(hlen:l.length+new.length<=16777216) :
  ∃ s' H',fQ el es z false s x H=some (s',H')/\Ow H' el es s' (l++new)/\Out (aa s) H H'/\(∀ j∈aa s',j∈aa s\/H.next<=j):=by
 cases hx with
 | nil=>
  obtain⟨s',H',h1,h2⟩:=KD (n:=0) (new:=[]) h (by simp) ho di hlen
  exact⟨s',H',h1,h2⟩
 | @emp i off=>
  obtain⟨s',H',h1,h2⟩:=KD (n:=0) (new:=[]) h (by simp) ho di hlen
  refine⟨s',H',?_,h2⟩
  have:xi es z false (.slice i off 0 0 true es) H=some (0,[]):=by
   show (Am.cU H i off (0*es)).map (fun l=>(0,l))=_
   rw[aeT];rfl
  unfold fQ
  rw[this]
  exact h1
 | @mk i off n cap ex l' hr hn hc he=>
  obtain⟨s',H',h1,h2⟩:=KD h hn ho di hlen
  refine⟨s',H',?_,h2⟩
  have:xi es z false (.slice i off n cap ex es) H=some (n,new):=by
   show (Am.cU H i off (n*es)).map (fun l=>(n,l))=_
   rw[<-hn,hr.cU];rfl
  unfold fQ
  rw[this]
  exact h1
def bs (l:List Nat):List AV:=l.map fun (b:Nat)=>AV.int .u8 b
theorem CJ (l:List Nat):∀ v∈bs l,dF v=true:=by
 intro v hv
 obtain⟨b,_,rfl⟩:=abn.1 hv
 rfl
theorem gu (l:List Nat):(bs l).length=l.length:=by simp[bs]
theorem Sd (a b:List Nat):bs (a++b)=bs a++bs b:=by simp[bs]
theorem aaG:∀ (l:List Nat),(∀ b∈l,b<256)->uh (bs l)=some l
 | [],_=>rfl
 | b::l,h=>by
  have h1:=aaG l (fun x hx=>h x (.tail _ hx))
  have h2:=h b (.head _)
  have h3:(decide (0<=(b:Int))&&decide ((b:Int)<256))=true:=by simp;omega
  show uh (AV.int .u8 (b:Int)::bs l)=_
  unfold uh
  rw[h3,h1]
  simp
theorem P8 {H:Hp}{x:AV}{l:List Nat}(h:Rw H 1 x (bs l))(hl:∀ b∈l,b<256):xB x H=some (.str l):=by
 generalize jr:bs l=cs at h
 cases h with
 | nil=>
  have:l=[]:=by simpa[bs] using jr
  subst this;rfl
 | @emp i off=>
  have:l=[]:=by simpa[bs] using jr
  subst this;rfl
 | @mk i off n cap ex l' hr hn hc he=>
  rw[adO] at hn
  unfold xB
  simp only
  by_cases h0:n=0
  ·subst h0
   have:l=[]:=by
    subst jr
    simpa[bs] using hn
   subst this;rfl
  ·rw[lY h0,cond_false,<-hn,hr.cU,<-jr]
   simp only[ach,aaG l hl]
   rfl
theorem Jb {k:IntKind}{n lo hi:Nat}(h1:lo<=n)(h2:n<=hi):bound lo hi (.int k n)=some n:=by
 unfold bound
 have:(decide ((lo:Int)<=(n:Int))&&decide ((n:Int)<=(hi:Int)))=true:=by simp;omega
 simp only[this,if_true,aeV]
def Bd (o:Option AV)(n adl:Nat):Prop:=(o=none/\n=adl)\/∃ k,o=some (.int k n)
theorem Bd.no (n:Nat):Bd none n n := .inl ⟨rfl,rfl⟩
theorem Bd.yes (k:IntKind)(n d:Nat):Bd (some (.int k n)) n d := .inr ⟨k,rfl⟩
theorem xN {len cap a b:Nat}{lo hi:Option AV}(qO:a<=b)(hb:b<=len)(hc:len<=cap)(ec:Bd lo a 0)(eg:Bd hi b len):oK len cap lo hi none=some (a,b,cap):=by
 unfold oK
 rcases eg with⟨rfl,rfl⟩ | ⟨k,rfl⟩<;>rcases ec with⟨rfl,rfl⟩ | ⟨j,rfl⟩
 ·rfl
 ·simp only[ace,ach,Jb (ack _) qO];rfl
 ·simp only[ace,ach,Jb (ack _) (abl hb hc)];rfl
 ·simp only[ace,ach,Jb (ack _) (abl hb hc),Jb (ack _) qO];rfl
theorem MD {H:Hp}{es n a b:Nat}{x:AV}{l:List AV}(h:Rw H es x l)(hl:l.length=n*es)(di:0<es){lo hi:Option AV}(qO:a<=b)(hb:b<=n)(ec:Bd lo a 0)(eg:Bd hi b n) :
  ∃ x',dC es x lo hi none=some x'/\Rw H es x' ((l.drop (a*es)).take ((b-a)*es))/\∀ j∈aa x',j∈aa x:=by
 cases h with
 | nil=>
  have hn:n=0:=by
   simp only[abQ] at hl
   rcases ahI.1 hl.symm with q | q<;>omega
  subst hn
  have gF:b=0:=by omega
  have uP:a=0:=by omega
  subst gF;subst uP
  refine⟨.ae,?_,by simpa using Rw.nil,fun j hj=>hj⟩
  unfold dC
  simp only[xN (zf 0) (zf 0) (zf 0) ec eg];rfl
 | @emp i off=>
  have hn:n=0:=by
   simp only[abQ] at hl
   rcases ahI.1 hl.symm with q | q<;>omega
  subst hn
  have gF:b=0:=by omega
  have uP:a=0:=by omega
  subst gF;subst uP
  refine⟨.slice i (off+0*es) 0 0 true es,?_,by simpa using Rw.emp,fun j hj=>by cases hj⟩
  unfold dC
  simp only[xN (zf 0) (zf 0) (zf 0) ec eg]
  simp
 | @mk i off m cap ex l hr hn hc he=>
  have hm:m=n:=agC di (hn.symm.trans hl)
  subst hm
  refine⟨.slice i (off+a*es) (b-a) (cap-a) ex es,?_,?_,?_⟩
  ·unfold dC
   simp only[xN qO hb hc ec eg,ach]
   simp
  ·cases hq:(ex&&Nat.beq (cap-a) 0) with
   | true=>
    rw[aaK] at hq
    obtain⟨rfl,h0⟩:=hq
    have h0:=aaV h0
    have Ts:b-a=0:=by omega
    rw[h0,Ts,aeT,List.take_zero]
    exact .emp
   | false=>
    have h1:a*es<=l.length:=by rw[hl];exact ac2 _ (by omega)
    refine .mk ((hr.drop (a*es) h1).take _) ?_ (by omega) hq
    rw[abN,adi,hl,<-Nat.sub_mul]
    exact ad3 (ac2 _ (by omega))
  ·intro j hj
   rw[pH he]
   simp only[aa] at hj
   cases hq:(ex&&Nat.beq (cap-a) 0)<;>rw[hq] at hj
   ·exact hj
   ·cases hj
theorem DA {H:Hp}{el es n a b:Nat}{x:AV}{l:List AV}(h:Ow H el es x l)(hl:l.length=n*es)(di:0<es){lo hi:Option AV}(qO:a<=b)(hb:b<=n)(ec:Bd lo a 0)(eg:Bd hi b n) :
  ∃ x',dC es x lo hi none=some x'/\Ow H el es x' ((l.drop (a*es)).take ((b-a)*es))/\∀ j∈aa x',j∈aa x:=by
 cases h with
 | nil=>
  have hn:n=0:=by
   simp only[abQ] at hl
   rcases ahI.1 hl.symm with q | q<;>omega
  subst hn
  have gF:b=0:=by omega
  have uP:a=0:=by omega
  subst gF;subst uP
  refine⟨.ae,?_,by simpa using Ow.nil,fun j hj=>hj⟩
  unfold dC
  simp only[xN (zf 0) (zf 0) (zf 0) ec eg];rfl
 | @emp i off=>
  have hn:n=0:=by
   simp only[abQ] at hl
   rcases ahI.1 hl.symm with q | q<;>omega
  subst hn
  have gF:b=0:=by omega
  have uP:a=0:=by omega
  subst gF;subst uP
  refine⟨.slice i (off+0*es) 0 0 true es,?_,by simpa using Ow.emp,fun j hj=>by cases hj⟩
  unfold dC
  simp only[xN (zf 0) (zf 0) (zf 0) ec eg]
  simp
 | @mk i off m cap ex l c lo' vP fl eG hg hf an7 anU hc hn eO hs h1 he=>
  have hm:m=n:=agC di (hn.symm.trans hl)
  subst hm
  refine⟨.slice i (off+a*es) (b-a) (cap-a) ex es,?_,?_,?_⟩
  ·unfold dC
   simp only[xN qO hb hc ec eg,ach]
   simp
  ·cases hq:(ex&&Nat.beq (cap-a) 0) with
   | true=>
    rw[aaK] at hq
    obtain⟨rfl,h0⟩:=hq
    have h0:=aaV h0
    have Ts:b-a=0:=by omega
    rw[h0,Ts,aeT,List.take_zero]
    exact .emp
   | false=>
    have zv:a*es<=l.length:=by rw[hl];exact ac2 _ (by omega)
    have hac:a*es+(cap-a)*es=cap*es:=by rw[<-adC];congr 1;omega
    refine .mk eG hg hf (by omega) (by omega) (by omega) ?_ (fun k v hk => ?_) (fun k hk => ?_) (fun v hv=>h1 v (agl (adb hv))) hq
    ·rw[abN,adi,hl,<-Nat.sub_mul]
     exact ad3 (ac2 _ (by omega))
    ·rw[ac1] at hk
     split at hk
     ·rw[acL] at hk
      rw[aeh];exact eO _ v hk
     ·cases hk
    ·rw[aeh];exact hs _ (by omega)
  ·intro j hj
   rw[pH he]
   simp only[aa] at hj
   cases hq:(ex&&Nat.beq (cap-a) 0)<;>rw[hq] at hj
   ·exact hj
   ·cases hj
theorem TZ {k:List Nat}:∀ (es:List ME) (i:Nat),(∀ e∈es,∃ q,e.key = .str q/\q≠k)->fk .str (.str k) es i=some none
 | [],i,_=>rfl
 | e::es,i,h=>by
  obtain⟨q,h1,h2⟩:=h e (.head _)
  have:vJ .str (.str k) e.key=some false:=by
   rw[h1]
   show some (k==q)=some false
   rw[beq_false_of_ne (fun x=>h2 x.symm)]
  unfold fk
  rw[this]
  exact TZ es (i+1) (fun e he=>h e (.tail _ he))
theorem abm {k:List Nat}:∀ es:List ME,(∀ e∈es,∃ q,e.key = .str q/\q≠k)->nk .str (.str k) es=true
 | [],h=>rfl
 | e::es,h=>by
  obtain⟨q,h1,h2⟩:=h e (.head _)
  have:vJ .str (.str k) e.key=some false:=by
   rw[h1]
   show some (k==q)=some false
   rw[beq_false_of_ne (fun x=>h2 x.symm)]
  unfold nk
  rw[this]
  exact abm es (fun e he=>h e (.tail _ he))
theorem To {k:List Nat}{e:ME}{b:List ME}(hk:e.key = .str k)(hb:∀ e∈b,∃ q,e.key = .str q/\q≠k):∀ (a:List ME) (i:Nat),(∀ e∈a,∃ q,e.key = .str q/\q≠k)->fk .str (.str k) (a++e::b) i=some (some (i+a.length,e))
 | [],i,_=>by
  have:vJ .str (.str k) e.key=some true:=by
   rw[hk]
   show some (k==k)=some true
   rw[beq_self_eq_true]
  show fk .str (.str k) (e::b) i=_
  unfold fk
  rw[this,abm b hb];rfl
 | x::a,i,h=>by
  obtain⟨q,h1,h2⟩:=h x (.head _)
  have:vJ .str (.str k) x.key=some false:=by
   rw[h1]
   show some (k==q)=some false
   rw[beq_false_of_ne (fun x=>h2 x.symm)]
  show fk .str (.str k) (x::(a++e::b)) i=_
  unfold fk
  rw[this]
  simp only
  rw[To hk hb a (i+1) (fun e he=>h e (.tail _ he)),abg]
  congr 3;omega
theorem Ua {H:Hp}{i:Nat}{es:List ME}{c:Nat}(h:Mp H i es c):mapOf H (.map i)=some (es,c):=by
 unfold mapOf
 simp only[h.2]
theorem ab1 {H:Hp}{i:Nat}{es:List ME}{c:Nat}{k:List Nat}(h:Mp H i es c)(hk:∀ e∈es,∃ q,e.key = .str q/\q≠k)(z:AV)(ok:Bool):ny .str z ok (.map i) (.str k) H=some (bif ok then .tuple [z,.bool false] else z):=by
 unfold ny
 rw[Ua h]
 simp only[TZ es 0 hk]
theorem ahx {H:Hp}{i:Nat}{a b:List ME}{e:ME}{c:Nat}{k:List Nat}(h:Mp H i (a++e::b) c)(he:e.key = .str k)(hk:∀ e∈a,∃ q,e.key = .str q/\q≠k)(hb:∀ e∈b,∃ q,e.key = .str q/\q≠k)(z:AV)(ok:Bool) :
  ny .str z ok (.map i) (.str k) H=some (bif ok then .tuple [e.val,.bool true] else e.val):=by
 unfold ny
 rw[Ua h]
 simp only[To he hb a 0 hk]
theorem Mp.set {H:Hp}{i:Nat}{es:List ME}{c:Nat}(h:Mp H i es c)(bZ:List ME)(c':Nat):Mp (setObj H i (.map bZ c')) i bZ c'/\Out [i] H (setObj H i (.map bZ c')):=
 ⟨⟨h.1,by rw[Zv,if_pos rfl]⟩,zf _,fun j _ hn=>by rw[Zv,if_neg (by simpa using hn)]⟩
theorem ajX {H:Hp}{i:Nat}{es:List ME}{c:Nat}{k:List Nat}(h:Mp H i es c)(hk:∀ e∈es,∃ q,e.key = .str q/\q≠k)(v:AV) :
  ∃ H',xH .str (.map i) (.str k) v H=some H'/\Mp H' i (es++[⟨.str k,v,c⟩]) (c+1)/\Out [i] H H':=by
 refine⟨_,?_,h.set _ _⟩
 unfold xH
 simp only[h.2,TZ es 0 hk]
theorem YO {H:Hp}{i:Nat}{a b:List ME}{e:ME}{c:Nat}{k:List Nat}(h:Mp H i (a++e::b) c)(he:e.key = .str k)(hk:∀ e∈a,∃ q,e.key = .str q/\q≠k)(hb:∀ e∈b,∃ q,e.key = .str q/\q≠k) :
  ∃ H',AX .str (.map i) (.str k) H=some H'/\Mp H' i (a++b) c/\Out [i] H H':=by
 refine⟨_,?_,h.set _ _⟩
 unfold AX
 simp only[h.2,To he hb a 0 hk]
 simp[List.eraseIdx_append_of_length_le]
theorem alM {H:Hp}{i:Nat}{es:List ME}{c:Nat}(h:Mp H i es c):FG (.map i) H=some (.int .i64 es.length):=by
 unfold FG
 simp only[h.2]
theorem xt {es i off n cap:Nat}{ex:Bool}{k:IntKind}{j:Nat}(h:j<n):ia es (.slice i off n cap ex es) (.int k j)=some (.ptr i (off+j*es)):=by
 unfold ia
 simp only
 rw[if_pos ⟨trivial,by omega,by omega⟩,aeV]
theorem tX (x:AV):(aa x).Nodup:=by
 cases x with
 | slice i o n c ex es=>
  show (bif ex&&Nat.beq c 0 then [] else [i]).Nodup
  cases (ex&&Nat.beq c 0)<;>simp
 | ptr i o=>simp[aa]
 | map i=>simp[aa]
 | _=>exact List.nodup_nil
theorem Ys (x:R):TW true x=x:=aaM rfl (id rfl)
theorem FX (z:List AV):fl z []=some z:=aaM rfl (id rfl)
theorem acn {P:Program}{T el:Nat}(hT:P.underlying T=some (.slice el))(H:Hp):iK P .eql T .ae .ae H=some (.bool true):=by
 unfold iK iq
 simp only[hT];rfl
theorem agi {P:Program}{T el:Nat}(hT:P.underlying T=some (.slice el))(i o n c:Nat)(ex:Bool)(es:Nat)(H:Hp):iK P .eql T (.slice i o n c ex es) .ae H=some (.bool false):=by
 unfold iK iq
 simp only[hT];rfl
theorem amL (P:Program)(T:Nat)(c:Bool):gA P .eql T c .ae .ae=true:=aaM rfl (id rfl)
theorem akt (P:Program)(T:Nat)(c:Bool)(i o n k:Nat)(ex:Bool)(es:Nat):gA P .eql T c (.slice i o n k ex es) .ae=true:=aaM rfl (id rfl)
theorem Fb (P:Program)(t:Array TypeId)(k j:IntKind)(a b:Int)(H:Hp):fx P .max t [.int k a,.int j b] H=some (.int k (if a<b then b else a),H):=aaM rfl (id rfl)
theorem Jl (P:Program)(t:Array TypeId)(k j:IntKind)(a b:Int)(H:Hp):fx P .min t [.int k a,.int j b] H=some (.int k (if b<a then b else a),H):=aaM rfl (id rfl)
theorem Rw.s7 {H:Hp}{x:AV}{l:List AV}(h:Rw H 1 x l){i:Nat}{v:AV}(hv:l[i]? = some v)(k:IntKind):∃ q,ia 1 x (.int k i)=some q/\ld q H=some v:=by
 cases h with
 | nil=>cases hv
 | emp=>cases hv
 | @mk j off n cap ex l hr hn hc he=>
  have hi:=(aaL.1 hv).1
  refine⟨.ptr j (off+i),?_,hr.ld hv⟩
  have ea:i<n:=by omega
  rw[xt ea,adO]
end K
end Go.Proofs.YtbdlbhlhnpblpaaGreatDoor.Am
