/- Laws by which a plain form is run; rows and cells of the symbolic heap (of no program). -/
import Derived.Test.YtodfajmihkagnaaGreatDoorAm12
set_option linter.unusedVariables false
set_option linter.unusedSimpArgs false
namespace Go.Proofs.YtodfajmihkagnaaGreatDoor.Am
set_option linter.unusedVariables false
set_option linter.unusedSimpArgs false
namespace K
section
variable {α:Type}
theorem TN (v:α)(k:α->R):B1 (some v) k=k v:=aal rfl (id rfl)
theorem aab (v:AV)(H:Hp)(k:AV->Hp->R):B2 (some (v,H)) k=k v H:=aal rfl (id rfl)
theorem ZE (v:Nat)(H:Hp)(k:Nat->Hp->R):BN (some (v,H)) k=k v H:=aal rfl (id rfl)
end
theorem VS (f:(Hp->R)->R)(k:Hp->R):JN 0 f k=f k:=aal rfl (id rfl)
theorem aa3 (f:(AV->Hp->R)->R)(k:AV->Hp->R):JN 1 f k=f k:=aal rfl (id rfl)
theorem aaI (f:(AV->AV->Hp->R)->R)(k:AV->AV->Hp->R):JN 2 f k=f k:=aal rfl (id rfl)
theorem XM (f:(AV->AV->AV->Hp->R)->R)(k:AV->AV->AV->Hp->R):JN 3 f k=f k:=aal rfl (id rfl)
theorem abb (f:(AV->AV->AV->AV->Hp->R)->R)(k:AV->AV->AV->AV->Hp->R):JN 4 f k=f k:=aal rfl (id rfl)
theorem UD (f:(AV->AV->AV->AV->AV->Hp->R)->R)(k:AV->AV->AV->AV->AV->Hp->R):JN 5 f k=f k:=aal rfl (id rfl)
theorem ZY (f:(AV->AV->AV->AV->AV->AV->Hp->R)->R)(k:AV->AV->AV->AV->AV->AV->Hp->R):JN 6 f k=f k:=aal rfl (id rfl)
theorem W1 (f:(AV->AV->AV->AV->AV->AV->AV->Hp->R)->R)(k:AV->AV->AV->AV->AV->AV->AV->Hp->R):JN 7 f k=f k:=aal rfl (id rfl)
theorem abD (f:(AV->AV->AV->AV->AV->AV->AV->AV->Hp->R)->R)(k:AV->AV->AV->AV->AV->AV->AV->AV->Hp->R):JN 8 f k=f k:=aal rfl (id rfl)
theorem VU (f:(AV->AV->AV->AV->AV->AV->AV->AV->AV->Hp->R)->R)(k:AV->AV->AV->AV->AV->AV->AV->AV->AV->Hp->R):JN 9 f k=f k:=aal rfl (id rfl)
theorem Zq (f:(AV->AV->AV->AV->AV->AV->AV->AV->AV->AV->Hp->R)->R)(k:AV->AV->AV->AV->AV->AV->AV->AV->AV->AV->Hp->R):JN 10 f k=f k:=aal rfl (id rfl)
theorem WU (f:(AV->AV->AV->AV->AV->AV->AV->AV->AV->AV->AV->Hp->R)->R)(k:AV->AV->AV->AV->AV->AV->AV->AV->AV->AV->AV->Hp->R):JN 11 f k=f k:=aal rfl (id rfl)
theorem SC (f:(AV->AV->AV->AV->AV->AV->AV->AV->AV->AV->AV->AV->Hp->R)->R)(k:AV->AV->AV->AV->AV->AV->AV->AV->AV->AV->AV->AV->Hp->R):JN 12 f k=f k:=aal rfl (id rfl)
theorem Y5 (f:(AV->AV->AV->AV->AV->AV->AV->AV->AV->AV->AV->AV->AV->Hp->R)->R)(k:AV->AV->AV->AV->AV->AV->AV->AV->AV->AV->AV->AV->AV->Hp->R):JN 13 f k=f k:=aal rfl (id rfl)
theorem Wg (f:(AV->AV->AV->AV->AV->AV->AV->AV->AV->AV->AV->AV->AV->AV->Hp->R)->R)(k:AV->AV->AV->AV->AV->AV->AV->AV->AV->AV->AV->AV->AV->AV->Hp->R):JN 14 f k=f k:=aal rfl (id rfl)
theorem Z6 (f:(AV->AV->AV->AV->AV->AV->AV->AV->AV->AV->AV->AV->AV->AV->AV->Hp->R)->R)(k:AV->AV->AV->AV->AV->AV->AV->AV->AV->AV->AV->AV->AV->AV->AV->Hp->R):JN 15 f k=f k:=aal rfl (id rfl)
theorem Ue (f:(AV->AV->AV->AV->AV->AV->AV->AV->AV->AV->AV->AV->AV->AV->AV->AV->Hp->R)->R)(k:AV->AV->AV->AV->AV->AV->AV->AV->AV->AV->AV->AV->AV->AV->AV->AV->Hp->R):JN 16 f k=f k:=aal rfl (id rfl)
theorem Y3 (f:(AV->AV->AV->AV->AV->AV->AV->AV->AV->AV->AV->AV->AV->AV->AV->AV->AV->Hp->R)->R)(k:AV->AV->AV->AV->AV->AV->AV->AV->AV->AV->AV->AV->AV->AV->AV->AV->AV->Hp->R):JN 17 f k=f k:=aal rfl (id rfl)
theorem US (f:(AV->AV->AV->AV->AV->AV->AV->AV->AV->AV->AV->AV->AV->AV->AV->AV->AV->AV->Hp->R)->R)(k:AV->AV->AV->AV->AV->AV->AV->AV->AV->AV->AV->AV->AV->AV->AV->AV->AV->AV->Hp->R):JN 18 f k=f k:=aal rfl (id rfl)
theorem Tp (f:(AV->AV->AV->AV->AV->AV->AV->AV->AV->AV->AV->AV->AV->AV->AV->AV->AV->AV->AV->Hp->R)->R)(k:AV->AV->AV->AV->AV->AV->AV->AV->AV->AV->AV->AV->AV->AV->AV->AV->AV->AV->AV->Hp->R):JN 19 f k=f k:=aal rfl (id rfl)
theorem aag (f:(AV->AV->AV->AV->AV->AV->AV->AV->AV->AV->AV->AV->AV->AV->AV->AV->AV->AV->AV->AV->Hp->R)->R)(k:AV->AV->AV->AV->AV->AV->AV->AV->AV->AV->AV->AV->AV->AV->AV->AV->AV->AV->AV->AV->Hp->R):JN 20 f k=f k:=aal rfl (id rfl)
theorem Wu (f:(AV->AV->AV->AV->AV->AV->AV->AV->AV->AV->AV->AV->AV->AV->AV->AV->AV->AV->AV->AV->AV->Hp->R)->R)(k:AV->AV->AV->AV->AV->AV->AV->AV->AV->AV->AV->AV->AV->AV->AV->AV->AV->AV->AV->AV->AV->Hp->R):JN 21 f k=f k:=aal rfl (id rfl)
theorem Yl (f:(AV->AV->AV->AV->AV->AV->AV->AV->AV->AV->AV->AV->AV->AV->AV->AV->AV->AV->AV->AV->AV->AV->Hp->R)->R)(k:AV->AV->AV->AV->AV->AV->AV->AV->AV->AV->AV->AV->AV->AV->AV->AV->AV->AV->AV->AV->AV->AV->Hp->R):JN 22 f k=f k:=aal rfl (id rfl)
theorem VB (f:(AV->AV->AV->AV->AV->AV->AV->AV->AV->AV->AV->AV->AV->AV->AV->AV->AV->AV->AV->AV->AV->AV->AV->Hp->R)->R)(k:AV->AV->AV->AV->AV->AV->AV->AV->AV->AV->AV->AV->AV->AV->AV->AV->AV->AV->AV->AV->AV->AV->AV->Hp->R):JN 23 f k=f k:=aal rfl (id rfl)
theorem ZO (f:(AV->AV->AV->AV->AV->AV->AV->AV->AV->AV->AV->AV->AV->AV->AV->AV->AV->AV->AV->AV->AV->AV->AV->AV->Hp->R)->R)(k:AV->AV->AV->AV->AV->AV->AV->AV->AV->AV->AV->AV->AV->AV->AV->AV->AV->AV->AV->AV->AV->AV->AV->AV->Hp->R):JN 24 f k=f k:=aal rfl (id rfl)
theorem Xd (x y:R):CD (.bool true) x y=x:=aal rfl (id rfl)
theorem VE (x y:R):CD (.bool false) x y=y:=aal rfl (id rfl)
theorem QO (b:Bool)(x y:R):CD (.bool b) x y=if b then x else y:=by cases b<;>rfl
theorem Yc (f:(AV->Hp->R)->R)(k:AV->Hp->R)(H:Hp):GO (.bool true) true f k H=f k:=aal rfl (id rfl)
theorem Xp (f:(AV->Hp->R)->R)(k:AV->Hp->R)(H:Hp):GO (.bool false) true f k H=k bJ H:=aal rfl (id rfl)
theorem aaN (f:(AV->Hp->R)->R)(k:AV->Hp->R)(H:Hp):GO (.bool true) false f k H=k bJ H:=aal rfl (id rfl)
theorem TJ (f:(AV->Hp->R)->R)(k:AV->Hp->R)(H:Hp):GO (.bool false) false f k H=f k:=aal rfl (id rfl)
theorem TX (f:(AV->Hp->R)->R)(k:AV->Hp->R)(H:Hp):GO bJ true f k H=k bJ H:=aal rfl (id rfl)
theorem V1 (f:(AV->Hp->R)->R)(k:AV->Hp->R)(H:Hp):GO bJ false f k H=k bJ H:=aal rfl (id rfl)
theorem X6 (x y:R):sG (.bool true) true x y=x:=aal rfl (id rfl)
theorem aaq (x y:R):sG (.bool false) true x y=y:=aal rfl (id rfl)
theorem aaK (x y:R):sG (.bool true) false x y=y:=aal rfl (id rfl)
theorem aaY (x y:R):sG (.bool false) false x y=x:=aal rfl (id rfl)
theorem Tc (a b:AV):pk (.bool true) a b=some a:=aal rfl (id rfl)
theorem WT (a b:AV):pk (.bool false) a b=some b:=aal rfl (id rfl)
theorem WV (i o:Nat):aV (.ptr i o)=some (.ptr i o):=aal rfl (id rfl)
theorem ZU (t:TypeId)(v:AV):aV (.iface t v)=some (.iface t v):=aal rfl (id rfl)
theorem ZB (off i o:Nat):fa off (.ptr i o)=some (.ptr i (o+off)):=aal rfl (id rfl)
theorem WQ (off:Nat)(l:List AV):fd off (.agg l)=l[off]? := aal rfl (id rfl)
theorem WN (i:Nat)(l:List AV):ex i (.tuple l)=l[i]? := aal rfl (id rfl)
theorem U4 (k:IntKind)(a b:Int):bS (.int k a) (.int k b)=some (.int k (k.wrap (a+b))):=by simp[bS,ii]
theorem Z9 (k:IntKind)(a b:Int):mI (.int k a) (.int k b)=some (.int k (k.wrap (a-b))):=by simp[mI,ii]
theorem Ya (k:IntKind)(a b:Int):u9 (.int k a) (.int k b)=some (.int k (k.wrap (a*b))):=by simp[u9,ii]
theorem abE (k:IntKind)(a b:Int):bF (.int k a) (.int k b)=some (.bool (a==b)):=by simp[bF,ii]
theorem abU (k:IntKind)(a b:Int):il (.int k a) (.int k b)=some (.bool (a != b)):=by simp[il,ii]
theorem XQ (k:IntKind)(a b:Int):cx (.int k a) (.int k b)=some (.bool (a<b)):=by simp[cx,ii]
theorem Yp (k:IntKind)(a b:Int):oh (.int k a) (.int k b)=some (.bool (a<=b)):=by simp[oh,ii]
theorem SD (k:IntKind)(a b:Int):mU (.int k a) (.int k b)=some (.bool (b<a)):=by simp[mU,ii]
theorem Lw (k:IntKind)(a b:Int):lS (.int k a) (.int k b)=some (.bool (b<=a)):=by simp[lS,ii]
theorem aoM (k:IntKind)(a b:Int)(h:b≠0):AW (.int k a) (.int k b)=some (.int k (k.wrap (a.tdiv b))):=by simp[AW,ii,h]
theorem Ug (a b:List Nat):seq (.str a) (.str b)=some (.bool (a==b)):=aal rfl (id rfl)
theorem WG (a b:List Nat):qN (.str a) (.str b)=some (.bool (!(a==b))):=aal rfl (id rfl)
theorem Ud (a b:List Nat):slt (.str a) (.str b)=some (.bool (qf a b)):=aal rfl (id rfl)
theorem tR {a b:List Nat}(h:a.length+b.length<=4294967296):pH (.str a) (.str b)=some (.str (a++b)):=by
 have:Nat.ble (a.length+b.length) 4294967296=true:=aer.mpr h
 simp[pH,ss,this]
theorem Te (s:List Nat):lens (.str s)=some (.int .i64 s.length):=aal rfl (id rfl)
theorem Xr:bq .ah=some (.int .i64 0):=aal rfl (id rfl)
theorem ab4 (i o n c:Nat)(x:Bool)(es:Nat):bq (.slice i o n c x es)=some (.int .i64 n):=aal rfl (id rfl)
theorem Wl (a b:Bool):bb .eql (.bool a) (.bool b)=some (.bool (a==b)):=aal rfl (id rfl)
theorem Tt (a b:Bool):bb .neq (.bool a) (.bool b)=some (.bool (!(a==b))):=aal rfl (id rfl)
theorem Uy (b:Bool):fX .not (.bool b)=some (.bool !b):=aal rfl (id rfl)
theorem aa5 (k j:IntKind)(n:Int):cv k (.int j n)=some (.int k (k.wrap n)):=aal rfl (id rfl)
theorem YS (H:Hp):pe .fD .fD H=some true:=aal rfl (id rfl)
theorem WY (i o:Nat)(H:Hp):pe .fD (.ptr i o) H=some false:=aal rfl (id rfl)
theorem Th (i o:Nat)(H:Hp):pe (.ptr i o) .fD H=some false:=aal rfl (id rfl)
theorem Wd (b:Bool):Cj .eql (some b)=some (.bool b):=aal rfl (id rfl)
theorem abc (b:Bool):Cj .neq (some b)=some (.bool !b):=aal rfl (id rfl)
theorem lT {a b:AV}{x:R}(h:same a b=true):SM a b x=x:=by simp[SM,h]
theorem wrap_i64 {a:Int}(h : -9223372036854775808<=a)(k:a<=9223372036854775807):IntKind.wrap .i64 a=a:=by
 simp only[IntKind.wrap,IntKind.bits,IntKind.signed]
 simp
 omega
theorem zq {P:Program}{ext:Nat->Option Ext}{aQ:Nat->Option Prim}{an:Nat->An}{aX:Nat}{p:Prim}{args:List AV}{H:Hp}{r:AV × Hp}(hp:aQ aX=some p)(h:p args H=some r) :
  CK P (rH P) ext aQ an (.func (.func aX) [] []) args H=some r:=by
 refine MQ JH ?_
 unfold vD
 simp only[hp,ahO,ag8]
 exact h
def Cs (H:Hp)(i:Nat)(l:List AV)(el fl:Nat):Prop:=i<H.next/\∃ c,H.h.get i=some (.cells c 0 l.length el fl)/\∀ k v,l[k]? = some v->c.get k=some v
def Mp (H:Hp)(i:Nat)(es:List ME)(c:Nat):Prop:=i<H.next/\H.h.get i=some (.map es c)
def Out (S:List Nat)(H H':Hp):Prop:=H.next<=H'.next/\∀ j,j<H.next->j∉S->H'.h.get j=H.h.get j
theorem Out.refl (S:List Nat)(H:Hp):Out S H H:=⟨aaC _,fun _ _ _=>rfl⟩
theorem Out.trans {S:List Nat}{H H' lV:Hp}(h:Out S H H')(k:Out S H' lV):Out S H lV:=
 ⟨af2 h.1 k.1,fun j hj hs=>(k.2 j (adm hj h.1) hs).trans (h.2 j hj hs)⟩
theorem Out.mono {S S':List Nat}{H H':Hp}(h:Out S H H')(k:∀ j∈S,j∈S'):Out S' H H':=⟨h.1,fun j hj hs=>h.2 j hj fun q=>hs (k j q)⟩
theorem Out.then {S S':List Nat}{H H' lV:Hp}(h:Out S H H')(k:Out S' H' lV)(hs:∀ j∈S',j∈S\/H.next<=j):Out S H lV:=
 ⟨af2 h.1 k.1,fun j hj hn=>(k.2 j (adm hj h.1) fun q=>(hs j q).elim hn (by omega)).trans (h.2 j hj hn)⟩
theorem Cs.out {H H':Hp}{i:Nat}{l:List AV}{el fl:Nat}{S:List Nat}(h:Cs H i l el fl)(k:Out S H H')(hi:i∉S):Cs H' i l el fl:=
 ⟨adm h.1 k.1,by rw[k.2 i h.1 hi];exact h.2⟩
theorem Mp.out {H H':Hp}{i:Nat}{es:List ME}{c:Nat}{S:List Nat}(h:Mp H i es c)(k:Out S H H')(hi:i∉S):Mp H' i es c:=
 ⟨adm h.1 k.1,by rw[k.2 i h.1 hi];exact h.2⟩
theorem Cs.cellAt {H:Hp}{i:Nat}{l:List AV}{el fl:Nat}(h:Cs H i l el fl){o:Nat}{v:AV}(hv:l[o]? = some v):cellAt H i o=some v:=by
 obtain⟨_,c,hc,hg⟩:=h
 have ho:o<l.length:=(aah.1 hv).1
 unfold Am.cellAt
 rw[hc]
 have hb:(Nat.ble 0 o&&Nat.blt o l.length)=true:=by
  rw[aau,aer,adE];omega
 simp only[hb,cond_true]
 exact hg o v hv
theorem Cs.ld {H:Hp}{i:Nat}{l:List AV}{el fl:Nat}(h:Cs H i l el fl){o:Nat}{v:AV}(hv:l[o]? = some v):ld (.ptr i o) H=some v:=h.cellAt hv
theorem Cs.ar {H:Hp}{i:Nat}{l:List AV}{el fl:Nat}(h:Cs H i l el fl):∀ (n o:Nat),o+n<=l.length->ar H i o n=some ((l.drop o).take n)
 | 0,o,_=>by simp[Am.ar]
 | n+1,o,hn=>by
  have ho:o<l.length:=by omega
  have h1:=h.cellAt (o:=o) (v:=l[o]) (aai ho)
  have h2:=h.ar n (o+1) (by omega)
  unfold Am.ar
  rw[h1,h2,ah7 ho]
  rfl
theorem JL (H:Hp)(i j:Nat)(o:AO):(setObj H i o).h.get j=if j=i then some o else H.h.get j:=Tr.fj _ _ _ _
theorem Mv {H:Hp}{i:Nat}{l:List AV}{el fl:Nat}(h:Cs H i l el fl)(hf:fl<=1){o:Nat}(ho:o<l.length){v:AV}(hv:aY v=true) :
  ∃ H',setCell H i o v=some H'/\Cs H' i (l.set o v) el fl/\Out [i] H H'/\H'.next=H.next:=by
 obtain⟨hi,c,hc,hg⟩:=h
 have hs:(c.get o).isSome=true:=by rw[hg o l[o] (aai ho)];rfl
 have hb:(Nat.ble 0 o&&Nat.blt o l.length&&Nat.ble fl 1&&(c.get o).isSome&&aY v)=true:=by
  simp only[aau,aer,adE];exact⟨⟨⟨⟨by omega,ho⟩,hf⟩,hs⟩,hv⟩
 refine⟨{ H with h:=H.h.bP i (.cells (c.bP o v) 0 l.length el fl) },?_,⟨hi,c.bP o v,?_,?_⟩,⟨aaC _,?_⟩,rfl⟩
 ·unfold setCell
  rw[hc]
  simp only[hb,cond_true]
 ·show (Tr.bP H.h i _).get i=_
  rw[Tr.bP,Tr.fj,if_pos rfl,ac4]
 ·intro k u hk
  rw[Tr.bP,Tr.fj]
  by_cases Nt:k=o
  ·subst Nt
   rw[afy (by omega)] at hk
   rw[if_pos rfl]
   exact hk
  ·rw[aia (fun q=>Nt q.symm)] at hk
   rw[if_neg Nt]
   exact hg k u hk
 ·intro j hj hn
  show (Tr.bP H.h i _).get j=_
  rw[Tr.bP,Tr.fj,if_neg (by simpa using hn)]
theorem fG {H:Hp}{i:Nat}{l:List AV}{el fl:Nat}(h:Cs H i l el fl)(hf:fl<=1){o:Nat}(ho:o<l.length){v:AV}(hv:aY v=true) :
  ∃ H',st 1 (.ptr i o) v H=some H'/\Cs H' i (l.set o v) el fl/\Out [i] H H'/\H'.next=H.next:=by
 obtain⟨H',h1,h2,h3,h4⟩:=Mv h hf ho hv
 refine⟨H',?_,h2,h3,h4⟩
 have hc:qg v=some [v]:=by cases v<;>first | rfl | cases hv
 unfold st
 simp only[hc]
 show setCells H i o [v]=_
 simp only[setCells,h1,acC,acK]
theorem aar (H:Hp)(l:List AV)(el fl:Nat)(hl:l.length<=16777216):∃ H',aE H l el fl=some (H.next,H')/\Cs H' H.next l el fl/\Out [] H H'/\H'.next=H.next+1:=by
 refine⟨⟨H.h.put 34 H.next (.cells (Tr.bY .nil 0 l) 0 l.length el fl),H.next+1⟩,?_,⟨ahw _,Tr.bY .nil 0 l,?_,?_⟩,⟨afh _,?_⟩,rfl⟩
 ·unfold aE alloc
  have:Nat.ble l.length 16777216=true:=aer.mpr hl
  rw[this];rfl
 ·show (Tr.put 34 H.h H.next _).get H.next=_
  rw[Tr.put,Tr.fj,if_pos rfl]
 ·intro k v hk
  rw[xB]
  have:=(aah.1 hk).1
  rw[if_pos (by omega)];exact hk
 ·intro j hj _
  show (Tr.put 34 H.h H.next _).get j=_
  rw[Tr.put,Tr.fj,if_neg (by omega)]
theorem IG (H:Hp):∃ H',xj H=some (H.next,H')/\Mp H' H.next [] 0/\Out [] H H'/\H'.next=H.next+1:=by
 refine⟨⟨H.h.put 34 H.next (.map [] 0),H.next+1⟩,rfl,⟨ahw _,?_⟩,⟨afh _,?_⟩,rfl⟩
 ·show (Tr.put 34 H.h H.next _).get H.next=_
  rw[Tr.put,Tr.fj,if_pos rfl]
 ·intro j hj _
  show (Tr.put 34 H.h H.next _).get j=_
  rw[Tr.put,Tr.fj,if_neg (by omega)]
def Ro (H:Hp)(i off:Nat)(l:List AV):Prop:=i<H.next/\∃ c lo hi el fl,H.h.get i=some (.cells c lo hi el fl)/\lo<=off/\off+l.length<=hi/\∀ k v,l[k]? = some v->c.get (off+k)=some v
theorem Cs.ro {H:Hp}{i:Nat}{l:List AV}{el fl:Nat}(h:Cs H i l el fl):Ro H i 0 l:=by
 obtain⟨hi,c,hc,hg⟩:=h
 exact⟨hi,c,0,l.length,el,fl,hc,aaC _,by omega,fun k v hk=>by rw[adG];exact hg k v hk⟩
theorem Ro.out {H H':Hp}{i off:Nat}{l:List AV}{S:List Nat}(h:Ro H i off l)(k:Out S H H')(hi:i∉S):Ro H' i off l:=
 ⟨adm h.1 k.1,by rw[k.2 i h.1 hi];exact h.2⟩
theorem Ro.cellAt {H:Hp}{i off:Nat}{l:List AV}(h:Ro H i off l){k:Nat}{v:AV}(hv:l[k]? = some v):cellAt H i (off+k)=some v:=by
 obtain⟨_,c,lo,hi,el,fl,hc,h1,h2,hg⟩:=h
 have hk:k<l.length:=(aah.1 hv).1
 unfold Am.cellAt
 rw[hc]
 have hb:(Nat.ble lo (off+k)&&Nat.blt (off+k) hi)=true:=by
  rw[aau,aer,adE];omega
 simp only[hb,cond_true]
 exact hg k v hv
theorem Ro.ld {H:Hp}{i off:Nat}{l:List AV}(h:Ro H i off l){k:Nat}{v:AV}(hv:l[k]? = some v):ld (.ptr i (off+k)) H=some v:=h.cellAt hv
theorem Ro.drop {H:Hp}{i off:Nat}{l:List AV}(h:Ro H i off l)(n:Nat)(hn:n<=l.length):Ro H i (off+n) (l.drop n):=by
 obtain⟨hi,c,lo,iR,el,fl,hc,h1,h2,hg⟩:=h
 refine⟨hi,c,lo,iR,el,fl,hc,by omega,by rw[agf];omega,fun k v hk => ?_⟩
 rw[afL] at hk
 rw[ahI];exact hg _ v hk
theorem Ro.take {H:Hp}{i off:Nat}{l:List AV}(h:Ro H i off l)(n:Nat):Ro H i off (l.take n):=by
 obtain⟨hi,c,lo,iR,el,fl,hc,h1,h2,hg⟩:=h
 refine⟨hi,c,lo,iR,el,fl,hc,h1,by rw[aes];omega,fun k v hk => ?_⟩
 rw[ag7] at hk
 split at hk
 ·exact hg _ v hk
 ·cases hk
theorem Ro.ar {H:Hp}{i:Nat}:∀ {l:List AV} {off:Nat},Ro H i off l->Am.ar H i off l.length=some l
 | [],off,_=>rfl
 | v::l,off,h=>by
  have h1:=h.cellAt (k:=0) (v:=v) rfl
  have h2:=(h.drop 1 (by simp)).ar
  simp only[List.drop_succ_cons,acI] at h2
  rw[aej] at h1
  rw[aaL]
  unfold Am.ar
  rw[h1,h2]
  rfl
def ak:AV->List Nat
 | .slice i _ _ cap ex _=>bif ex&&Nat.beq cap 0 then [] else [i]
 | .ptr i _=>[i]
 | .map i=>[i]
 | _=>[]
theorem mi {i o n cap es:Nat}{ex:Bool}(h:(ex&&Nat.beq cap 0)=false):ak (.slice i o n cap ex es)=[i]:=by simp only[ak,h,cond_false]
inductive Rw (H:Hp) (es:Nat):AV->List AV->Prop
 | nil:Rw H es .ah []
 | emp {i off:Nat}:Rw H es (.slice i off 0 0 true es) []
 | mk {i off n cap:Nat} {ex:Bool} {l:List AV} (h:Ro H i off l) (hn:l.length=n*es) (hc:n<=cap) (he:(ex&&Nat.beq cap 0)=false):Rw H es (.slice i off n cap ex es) l
theorem Rw.out {H H':Hp}{es:Nat}{x:AV}{l:List AV}{S:List Nat}(h:Rw H es x l)(k:Out S H H')(hi:∀ j∈ak x,j∉S):Rw H' es x l:=by
 cases h with
 | nil=>exact .nil
 | emp=>exact .emp
 | mk h hn hc he=>exact .mk (h.out k (hi _ (by rw[mi he];exact .head _))) hn hc he
theorem Rw.lt {H:Hp}{es:Nat}{x:AV}{l:List AV}(h:Rw H es x l):∀ j∈ak x,j<H.next:=by
 cases h with
 | nil=>intro j hj;cases hj
 | emp=>intro j hj;cases hj
 | mk h hn hc he=>intro j hj;rw[mi he,No] at hj;subst hj;exact h.1
theorem Rw.len {H:Hp}{es:Nat}{x:AV}{l:List AV}(h:Rw H es x l):∃ n:Nat,bq x=some (.int .i64 n)/\l.length=n*es:=by
 cases h with
 | nil=>exact⟨0,rfl,by simp⟩
 | emp=>exact⟨0,rfl,by simp⟩
 | mk h hn hc he=>exact⟨_,rfl,hn⟩
theorem Rw.mQ {H:Hp}{x:AV}{l:List AV}(h:Rw H 1 x l):bq x=some (.int .i64 l.length):=by
 obtain⟨n,h1,h2⟩:=h.len
 rw[h1,h2,afZ]
inductive Ow (H:Hp) (el es:Nat):AV->List AV->Prop
 | nil:Ow H el es .ah []
 | emp {i off:Nat}:Ow H el es (.slice i off 0 0 true es) []
 | mk {i off n cap:Nat} {ex:Bool} {l:List AV} {c:Tr AV} {lo hi fl:Nat} (iR:i<H.next) (hg:H.h.get i=some (.cells c lo hi el fl)) (hf:fl<=1) (gX:lo<=off) (jd:off+cap*es<=hi) (iq:n<=cap) (hn:l.length=n*es)
   (hc:∀ k v,l[k]? = some v->c.get (off+k)=some v) (hs:∀ k,k<cap*es->(c.get (off+k)).isSome=true) (h1:∀ v∈l,aY v=true) (he:(ex&&Nat.beq cap 0)=false):Ow H el es (.slice i off n cap ex es) l
theorem Ow.rw {H:Hp}{el es:Nat}{x:AV}{l:List AV}(h:Ow H el es x l):Rw H es x l:=by
 cases h with
 | nil=>exact .nil
 | emp=>exact .emp
 | @mk i off n cap ex l c lo hi fl iR hg hf gX jd iq hn hc hs h1 he=>
  exact .mk ⟨iR,c,lo,hi,el,fl,hg,gX,by rw[hn];exact af2 (Nat.add_le_add_left (aeK _ iq) _) jd,hc⟩ hn iq he
theorem Ow.out {H H':Hp}{el es:Nat}{x:AV}{l:List AV}{S:List Nat}(h:Ow H el es x l)(k:Out S H H')(hi:∀ j∈ak x,j∉S):Ow H' el es x l:=by
 cases h with
 | nil=>exact .nil
 | emp=>exact .emp
 | mk iR hg hf gX jd iq hn hc hs h1 he=>exact .mk (adm iR k.1) (by rw[k.2 _ iR (hi _ (by rw[mi he];exact .head _))];exact hg) hf gX jd iq hn hc hs h1 he
theorem Ow.one {H:Hp}{el es:Nat}{x:AV}{l:List AV}(h:Ow H el es x l):∀ v∈l,aY v=true:=by
 cases h with
 | nil=>intro v hv;cases hv
 | emp=>intro v hv;cases hv
 | mk _ _ _ _ _ _ _ _ _ h1 _=>exact h1
theorem Cs.ow {H:Hp}{i n:Nat}{l:List AV}{el es fl:Nat}(h:Cs H i l el fl)(hf:fl<=1)(hn:l.length=n*es)(h1:∀ v∈l,aY v=true)(ex:Bool):Ow H el es (.slice i 0 n n ex es) l:=by
 cases hex:(ex&&Nat.beq n 0) with
 | true=>
  rw[aau] at hex
  obtain⟨rfl,kZ⟩:=hex
  obtain rfl:=abp kZ
  have:l=[]:=by simpa using hn
  subst this
  exact .emp
 | false=>
 obtain⟨hi,c,hc,hg⟩:=h
 refine .mk hi hc hf (aaC _) (by omega) (aaC _) hn (fun k v hk=>by rw[adG];exact hg k v hk) (fun k hk => ?_) h1 hex
 rw[adG,hg k l[k] (aai (by omega))];rfl
theorem KD:∀ (l:List AV) (H:Hp) (i off:Nat) (c:Tr AV) (lo hi el fl:Nat),H.h.get i=some (.cells c lo hi el fl)->fl<=1->lo<=off->off+l.length<=hi->(∀ k,k<l.length->(c.get (off+k)).isSome=true)->(∀ v∈l,aY v=true)->
  ∃ H' c',setCells H i off l=some H'/\H'.next=H.next/\H'.h.get i=some (.cells c' lo hi el fl)/\(∀ j,j≠i->H'.h.get j=H.h.get j)/\∀ k,c'.get k=if off<=k/\k<off+l.length then l[k-off]? else c.get k
 | [],H,i,off,c,lo,hi,el,fl,hg,hf,h1,h2,hs,ho=>⟨H,c,rfl,rfl,hg,fun _ _=>rfl,fun k=>by rw[if_neg (by simp only[acG];omega)]⟩
 | v::l,H,i,off,c,lo,hi,el,fl,hg,hf,h1,h2,hs,ho=>by
  simp only[aaL] at h2
  have ux:=hs 0 (by simp)
  rw[aej] at ux
  have hb:(Nat.ble lo off&&Nat.blt off hi&&Nat.ble fl 1&&(c.get off).isSome&&aY v)=true:=by
   simp only[aau,aer,adE];exact⟨⟨⟨⟨h1,by omega⟩,hf⟩,ux⟩,ho v (.head _)⟩
  have fh:setCell H i off v=some { H with h:=H.h.bP i (.cells (c.bP off v) lo hi el fl) }:=by
   unfold setCell;rw[hg];simp only[hb,cond_true]
  obtain⟨H',c',q1,q2,q3,q4,q5⟩:=KD l { H with h:=H.h.bP i (.cells (c.bP off v) lo hi el fl) } i (off+1) (c.bP off v) lo hi el fl (by
    show (Tr.bP H.h i _).get i=_
    rw[Tr.bP,Tr.fj,if_pos rfl]) hf (by omega) (by omega) (fun k hk=>by
    rw[Tr.bP,Tr.fj]
    split
    ·rfl
    ·have:=hs (k+1) (by simp;omega)
     rw[show off+1+k=off+(k+1) by omega];exact this) (fun u hu=>ho u (.tail _ hu))
  refine⟨H',c',?_,q2,q3,fun j hj => ?_,fun k => ?_⟩
  ·simp only[setCells,fh,acC,acK];exact q1
  ·rw[q4 j hj]
   show (Tr.bP H.h i _).get j=_
   rw[Tr.bP,Tr.fj,if_neg hj]
  ·rw[q5 k,Tr.bP,Tr.fj]
   by_cases hk:k=off
   ·subst hk
    rw[if_neg (by omega),if_pos rfl,if_pos (by simp),ahb];rfl
   ·rw[if_neg hk]
    by_cases fN:off+1<=k/\k<off+1+l.length
    ·rw[if_pos fN,if_pos (by simp;omega),show k-off=(k-(off+1))+1 by omega,ac1]
    ·rw[if_neg fN,if_neg (by simp;omega)]
theorem I2 {H:Hp}{el es n:Nat}{s:AV}{l new:List AV}(h:Ow H el es s l)(uN:new.length=n*es)(ho:∀ v∈new,aY v=true)(du:0<es)(hlen:l.length+new.length<=16777216) :
  ∃ s' H',DC el es n new s H=some (s',H')/\Ow H' el es s' (l++new)/\Out (ak s) H H'/\(∀ j∈ak s',j∈ak s\/H.next<=j):=by
 have jY:∀ v∈l++new,aY v=true:=fun v hv=>(abL.1 hv).elim (h.one v) (ho v)
 have WA:∀ s0:List Nat,n≠0->l=[]->∃ H',aE H new el 0=some (H.next,H')/\Ow H' el es (.slice H.next 0 n n false es) (l++new)/\Out s0 H H'/\(∀ j∈ak (.slice H.next 0 n n false es),j∈s0\/H.next<=j):=by
  intro s0 hn hl
  subst hl
  obtain⟨H',h1,h2,h3,h4⟩:=aar H new el 0 (by simp only[acG] at hlen;omega)
  refine⟨H',h1,h2.ow (by omega) uN ho false,h3.mono (fun j hj=>by cases hj),fun j hj => ?_⟩
  simp only[ak,aeL,cond_false,No] at hj
  exact .inr (by omega)
 cases h with
 | nil=>
  unfold DC
  simp only
  by_cases hn:n=0
  ·subst hn
   have:new=[]:=by simpa using uN
   subst this
   exact⟨.ah,H,rfl,.nil,Out.refl _ _,fun j hj=>by cases hj⟩
  ·rw[oC hn,cond_false]
   have hle:n<=16777216:=by
    have:=Nat.le_mul_of_pos_right n du
    simp only[acG] at hlen
    omega
   have hb:Nat.ble n 16777216=true:=aer.mpr hle
   rw[hb,cond_true]
   obtain⟨H',h1,h2⟩:=WA [] hn rfl
   exact⟨_,H',by rw[h1];rfl,h2⟩
 | @emp i off=>
  unfold DC
  have hle:n<=16777216:=by
   have:=Nat.le_mul_of_pos_right n du
   simp only[acG] at hlen
   omega
  have hb:(Nat.ble (0+n) 16777216&&Nat.beq es es&&new.all aY)=true:=by
   simp only[aau,aer,uz,adA]
   exact⟨⟨by omega,trivial⟩,ho⟩
  simp only[hb,cond_true]
  by_cases hn:n=0
  ·subst hn
   have:new=[]:=by simpa using uN
   subst this
   exact⟨.slice i off 0 0 true es,H,rfl,.emp,Out.refl _ _,fun j hj=>by cases hj⟩
  ·have iz:Nat.ble (0+n) 0=false:=by rw[<-agk,aer];omega
   rw[iz,cond_false]
   obtain⟨H',h1,h2⟩:=WA (ak (.slice i off 0 0 true es)) hn rfl
   refine⟨.slice H.next 0 n n false es,H',?_,h2⟩
   simp only[ahi,Am.ar,acK,ahO,h1,aee,adG]
 | @mk i off m cap ex l c lo hi fl iR hg hf gX jd iq hn hc hs h1 he=>
  unfold DC
  have lZ:n<=new.length:=by rw[uN];exact Nat.le_mul_of_pos_right n du
  have Dd:m<=l.length:=by rw[hn];exact Nat.le_mul_of_pos_right m du
  have hb:(Nat.ble (m+n) 16777216&&Nat.beq es es&&new.all aY)=true:=by
   simp only[aau,aer,uz,adA]
   exact⟨⟨by omega,trivial⟩,ho⟩
  simp only[hb,cond_true]
  have kO:(l++new).length=(m+n)*es:=by rw[aaX,hn,uN,af9]
  by_cases RE:m+n<=cap
  ·have iz:Nat.ble (m+n) cap=true:=aer.mpr RE
   rw[iz,cond_true]
   have hr:(m+n)*es<=cap*es:=aeK _ RE
   rw[af9] at hr
   obtain⟨H',c',q1,q2,q3,q4,q5⟩:=KD new H i (off+m*es) c lo hi el fl hg hf (by omega) (by rw[uN];omega) (fun k hk=>by
    rw[ahI];exact hs _ (by rw[uN] at hk;omega)) ho
   refine⟨_,H',by rw[q1];rfl,.mk (by rw[q2];exact iR) q3 hf gX jd RE kO (fun k v hk => ?_) (fun k hk => ?_) jY he,⟨by rw[q2];exact aaC _,fun j hj yN=>q4 j (by rw[mi he] at yN;simpa using yN)⟩,fun j hj => .inl (by rw[mi he] at hj ⊢;exact hj)⟩
   ·rw[q5]
    by_cases jS:k<l.length
    ·rw[if_neg (by omega),hc k v (by rw[abO jS] at hk;exact hk)]
    ·rw[abT (by omega)] at hk
     have:=(aah.1 hk).1
     rw[if_pos (by omega),<-hk];congr 1;omega
   ·rw[q5]
    split
    ·rename_i hq
     rw[aai (by omega)];rfl
    ·exact hs k hk
  ·have iz:Nat.ble (m+n) cap=false:=by rw[<-agk,aer];omega
   rw[iz,cond_false]
   cases ex with
   | true=>
    simp only[cond_true]
    have Hh:Ro H i off l:=⟨iR,c,lo,hi,el,fl,hg,gX,by rw[hn];exact af2 (Nat.add_le_add_left (aeK _ iq) _) jd,hc⟩
    have xx:=Hh.ar
    rw[hn] at xx
    rw[xx]
    obtain⟨H',r1,r2,r3,r4⟩:=aar H (l++new) el 0 (by rw[aaX];omega)
    refine⟨_,H',by simp only[acK];rw[r1];rfl,r2.ow (by omega) kO jY false,r3.mono (fun j hj=>by cases hj),fun j hj => ?_⟩
    simp only[ak,aeL,cond_false,No] at hj
    exact .inr (by omega)
   | false=>
    simp only[cond_false,hg]
    have hr:m*es<=cap*es:=aeK _ iq
    have rb:(Nat.ble fl 1&&Nat.ble lo off&&Nat.ble (off+m*es) hi&&Nat.beq el el)=true:=by
     simp only[aau,aer,uz]
     exact⟨⟨⟨hf,gX⟩,by omega⟩,trivial⟩
    rw[rb,cond_true]
    refine⟨_,_,rfl,.mk (c:=c.bY (off+m*es) new) (lo:=off) (hi:=off+(m+n)*es) (fl:=1) ?_ ?_ (by omega) (aaC _) (aaC _) (aaC _) kO (fun k v hk => ?_) (fun k hk => ?_) jY rfl,⟨?_,fun j hj yN => ?_⟩,fun j hj => ?_⟩
    ·exact ahw _
    ·show (Tr.put 34 (H.h.del i) H.next _).get H.next=_
     rw[Tr.put,Tr.fj,if_pos rfl]
    ·rw[Tr.um]
     by_cases jS:k<l.length
     ·rw[if_neg (by omega),hc k v (by rw[abO jS] at hk;exact hk)]
     ·rw[abT (by omega)] at hk
      have:=(aah.1 hk).1
      rw[if_pos (by omega),<-hk];congr 1;omega
    ·rw[Tr.um]
     rw[af9] at hk
     split
     ·rename_i hq
      rw[aai (by omega)];rfl
     ·exact hs k (by omega)
    ·exact afh _
    ·show (Tr.put 34 (H.h.del i) H.next _).get j=_
     rw[Tr.put,Tr.fj,if_neg (by omega),Tr.F3,if_neg (by rw[mi he] at yN;simpa using yN)]
    ·simp only[ak,aeL,cond_false,No] at hj
     subst hj
     exact .inr (aaC _)
theorem ab6 {H:Hp}{el es:Nat}{z:List AV}{s x:AV}{l new:List AV}(h:Ow H el es s l)(hx:Rw H es x new)(ho:∀ v∈new,aY v=true)(du:0<es)(hlen:l.length+new.length<=16777216) :
  ∃ s' H',gg el es z false s x H=some (s',H')/\Ow H' el es s' (l++new)/\Out (ak s) H H'/\(∀ j∈ak s',j∈ak s\/H.next<=j):=by
 cases hx with
 | nil=>
  obtain⟨s',H',h1,h2⟩:=I2 (n:=0) (new:=[]) h (by simp) ho du hlen
  exact⟨s',H',h1,h2⟩
 | @emp i off=>
  obtain⟨s',H',h1,h2⟩:=I2 (n:=0) (new:=[]) h (by simp) ho du hlen
  refine⟨s',H',?_,h2⟩
  have:Af es z false (.slice i off 0 0 true es) H=some (0,[]):=by
   show (Am.ar H i off (0*es)).map (fun l=>(0,l))=_
   rw[ahi];rfl
  unfold gg
  rw[this]
  exact h1
 | @mk i off n cap ex l' hr hn hc he=>
  obtain⟨s',H',h1,h2⟩:=I2 h hn ho du hlen
  refine⟨s',H',?_,h2⟩
  have:Af es z false (.slice i off n cap ex es) H=some (n,new):=by
   show (Am.ar H i off (n*es)).map (fun l=>(n,l))=_
   rw[<-hn,hr.ar];rfl
  unfold gg
  rw[this]
  exact h1
def bs (l:List Nat):List AV:=l.map fun (b:Nat)=>AV.int .u8 b
theorem aib (l:List Nat):∀ v∈bs l,aY v=true:=by
 intro v hv
 obtain⟨b,_,rfl⟩:=acS.1 hv
 rfl
theorem Dr (l:List Nat):(bs l).length=l.length:=by simp[bs]
theorem ak7 (a b:List Nat):bs (a++b)=bs a++bs b:=by simp[bs]
theorem O9:∀ (l:List Nat),(∀ b∈l,b<256)->uy (bs l)=some l
 | [],_=>rfl
 | b::l,h=>by
  have h1:=O9 l (fun x hx=>h x (.tail _ hx))
  have h2:=h b (.head _)
  have h3:(decide (0<=(b:Int))&&decide ((b:Int)<256))=true:=by simp;omega
  show uy (AV.int .u8 (b:Int)::bs l)=_
  unfold uy
  rw[h3,h1]
  simp
theorem abw {H:Hp}{x:AV}{l:List Nat}(h:Rw H 1 x (bs l))(hl:∀ b∈l,b<256):Ds x H=some (.str l):=by
 generalize fT:bs l=cs at h
 cases h with
 | nil=>
  have:l=[]:=by simpa[bs] using fT
  subst this;rfl
 | @emp i off=>
  have:l=[]:=by simpa[bs] using fT
  subst this;rfl
 | @mk i off n cap ex l' hr hn hc he=>
  rw[afZ] at hn
  unfold Ds
  simp only
  by_cases h0:n=0
  ·subst h0
   have:l=[]:=by
    subst fT
    simpa[bs] using hn
   subst this;rfl
  ·rw[oC h0,cond_false,<-hn,hr.ar,<-fT]
   simp only[acK,O9 l hl]
   rfl
theorem JW {k:IntKind}{n lo hi:Nat}(h1:lo<=n)(h2:n<=hi):bound lo hi (.int k n)=some n:=by
 unfold bound
 have:(decide ((lo:Int)<=(n:Int))&&decide ((n:Int)<=(hi:Int)))=true:=by simp;omega
 simp only[this,if_true,acr]
def Bd (o:Option AV)(n aiZ:Nat):Prop:=(o=none/\n=aiZ)\/∃ k,o=some (.int k n)
theorem Bd.no (n:Nat):Bd none n n := .inl ⟨rfl,rfl⟩
theorem Bd.yes (k:IntKind)(n d:Nat):Bd (some (.int k n)) n d := .inr ⟨k,rfl⟩
theorem Bd.am7 (k:IntKind)(d:Nat):Bd (some (.int k 0)) 0 d := .inr ⟨k,rfl⟩
theorem yg {len cap a b:Nat}{lo hi:Option AV}(vj:a<=b)(hb:b<=len)(hc:len<=cap)(gX:Bd lo a 0)(jd:Bd hi b len):qP len cap lo hi none=some (a,b,cap):=by
 unfold qP
 rcases jd with⟨rfl,rfl⟩ | ⟨k,rfl⟩<;>rcases gX with⟨rfl,rfl⟩ | ⟨j,rfl⟩
 ·rfl
 ·simp only[acC,acK,JW (acD _) vj];rfl
 ·simp only[acC,acK,JW (acD _) (af2 hb hc)];rfl
 ·simp only[acC,acK,JW (acD _) (af2 hb hc),JW (acD _) vj];rfl
theorem GP {H:Hp}{es n a b:Nat}{x:AV}{l:List AV}(h:Rw H es x l)(hl:l.length=n*es)(du:0<es){lo hi:Option AV}(vj:a<=b)(hb:b<=n)(gX:Bd lo a 0)(jd:Bd hi b n) :
  ∃ x',qi es x lo hi none=some x'/\Rw H es x' ((l.drop (a*es)).take ((b-a)*es))/\∀ j∈ak x',j∈ak x:=by
 cases h with
 | nil=>
  have hn:n=0:=by
   simp only[acG] at hl
   rcases Nat.mul_eq_zero.1 hl.symm with q | q<;>omega
  subst hn
  have mZ:b=0:=by omega
  have Qq:a=0:=by omega
  subst mZ;subst Qq
  refine⟨.ah,?_,by simpa using Rw.nil,fun j hj=>hj⟩
  unfold qi
  simp only[yg (aaC 0) (aaC 0) (aaC 0) gX jd];rfl
 | @emp i off=>
  have hn:n=0:=by
   simp only[acG] at hl
   rcases Nat.mul_eq_zero.1 hl.symm with q | q<;>omega
  subst hn
  have mZ:b=0:=by omega
  have Qq:a=0:=by omega
  subst mZ;subst Qq
  refine⟨.slice i (off+0*es) 0 0 true es,?_,by simpa using Rw.emp,fun j hj=>by cases hj⟩
  unfold qi
  simp only[yg (aaC 0) (aaC 0) (aaC 0) gX jd]
  simp
 | @mk i off m cap ex l hr hn hc he=>
  have hm:m=n:=Nat.eq_of_mul_eq_mul_right du (hn.symm.trans hl)
  subst hm
  refine⟨.slice i (off+a*es) (b-a) (cap-a) ex es,?_,?_,?_⟩
  ·unfold qi
   simp only[yg vj hb hc gX jd,acK]
   simp
  ·cases hq:(ex&&Nat.beq (cap-a) 0) with
   | true=>
    rw[aau] at hq
    obtain⟨rfl,h0⟩:=hq
    have h0:=abp h0
    have hba:b-a=0:=by omega
    rw[h0,hba,ahi,aht]
    exact .emp
   | false=>
    have h1:a*es<=l.length:=by rw[hl];exact aeK _ (by omega)
    refine .mk ((hr.drop (a*es) h1).take _) ?_ (by omega) hq
    rw[aes,agf,hl,<-Nat.sub_mul]
    exact Nat.min_eq_left (aeK _ (by omega))
  ·intro j hj
   rw[mi he]
   simp only[ak] at hj
   cases hq:(ex&&Nat.beq (cap-a) 0)<;>rw[hq] at hj
   ·exact hj
   ·cases hj
theorem IY {k:List Nat}:∀ (es:List ME) (i:Nat),(∀ e∈es,∃ q,e.key = .str q/\q≠k)->fk .str (.str k) es i=some none
 | [],i,_=>rfl
 | e::es,i,h=>by
  obtain⟨q,h1,h2⟩:=h e (.head _)
  have:wR .str (.str k) e.key=some false:=by
   rw[h1]
   show some (k==q)=some false
   rw[beq_false_of_ne (fun x=>h2 x.symm)]
  unfold fk
  rw[this]
  exact IY es (i+1) (fun e he=>h e (.tail _ he))
theorem UK {k:List Nat}:∀ es:List ME,(∀ e∈es,∃ q,e.key = .str q/\q≠k)->nk .str (.str k) es=true
 | [],h=>rfl
 | e::es,h=>by
  obtain⟨q,h1,h2⟩:=h e (.head _)
  have:wR .str (.str k) e.key=some false:=by
   rw[h1]
   show some (k==q)=some false
   rw[beq_false_of_ne (fun x=>h2 x.symm)]
  unfold nk
  rw[this]
  exact UK es (fun e he=>h e (.tail _ he))
theorem QU {k:List Nat}{e:ME}{b:List ME}(hk:e.key = .str k)(hb:∀ e∈b,∃ q,e.key = .str q/\q≠k):∀ (a:List ME) (i:Nat),(∀ e∈a,∃ q,e.key = .str q/\q≠k)->fk .str (.str k) (a++e::b) i=some (some (i+a.length,e))
 | [],i,_=>by
  have:wR .str (.str k) e.key=some true:=by
   rw[hk]
   show some (k==k)=some true
   rw[beq_self_eq_true]
  show fk .str (.str k) (e::b) i=_
  unfold fk
  rw[this,UK b hb];rfl
 | x::a,i,h=>by
  obtain⟨q,h1,h2⟩:=h x (.head _)
  have:wR .str (.str k) x.key=some false:=by
   rw[h1]
   show some (k==q)=some false
   rw[beq_false_of_ne (fun x=>h2 x.symm)]
  show fk .str (.str k) (x::(a++e::b)) i=_
  unfold fk
  rw[this]
  simp only
  rw[QU hk hb a (i+1) (fun e he=>h e (.tail _ he)),aaL]
  congr 3;omega
theorem EZ {H:Hp}{i:Nat}{es:List ME}{c:Nat}(h:Mp H i es c):mapOf H (.map i)=some (es,c):=by
 unfold mapOf
 simp only[h.2]
theorem ZX {H:Hp}{i:Nat}{es:List ME}{c:Nat}{k:List Nat}(h:Mp H i es c)(hk:∀ e∈es,∃ q,e.key = .str q/\q≠k)(z:AV)(ok:Bool):ue .str z ok (.map i) (.str k) H=some (bif ok then .tuple [z,.bool false] else z):=by
 unfold ue
 rw[EZ h]
 simp only[IY es 0 hk]
theorem Yx {H:Hp}{i:Nat}{a b:List ME}{e:ME}{c:Nat}{k:List Nat}(h:Mp H i (a++e::b) c)(he:e.key = .str k)(hk:∀ e∈a,∃ q,e.key = .str q/\q≠k)(hb:∀ e∈b,∃ q,e.key = .str q/\q≠k)(z:AV)(ok:Bool) :
  ue .str z ok (.map i) (.str k) H=some (bif ok then .tuple [e.val,.bool true] else e.val):=by
 unfold ue
 rw[EZ h]
 simp only[QU he hb a 0 hk]
theorem Mp.set {H:Hp}{i:Nat}{es:List ME}{c:Nat}(h:Mp H i es c)(aM:List ME)(c':Nat):Mp (setObj H i (.map aM c')) i aM c'/\Out [i] H (setObj H i (.map aM c')):=
 ⟨⟨h.1,by rw[JL,if_pos rfl]⟩,aaC _,fun j _ hn=>by rw[JL,if_neg (by simpa using hn)]⟩
theorem YR {H:Hp}{i:Nat}{es:List ME}{c:Nat}{k:List Nat}(h:Mp H i es c)(hk:∀ e∈es,∃ q,e.key = .str q/\q≠k)(v:AV) :
  ∃ H',tT .str (.map i) (.str k) v H=some H'/\Mp H' i (es++[⟨.str k,v,c⟩]) (c+1)/\Out [i] H H':=by
 refine⟨_,?_,h.set _ _⟩
 unfold tT
 simp only[h.2,IY es 0 hk]
theorem agU {H:Hp}{i:Nat}{a b:List ME}{e:ME}{c:Nat}{k:List Nat}(h:Mp H i (a++e::b) c)(he:e.key = .str k)(hk:∀ e∈a,∃ q,e.key = .str q/\q≠k)(hb:∀ e∈b,∃ q,e.key = .str q/\q≠k)(v:AV) :
  ∃ H',tT .str (.map i) (.str k) v H=some H'/\Mp H' i (a++{ e with key := .str k,val:=v }::b) c/\Out [i] H H':=by
 refine⟨_,?_,h.set _ _⟩
 unfold tT
 have hs:Bk e.key (.str k)=true:=by rw[he];simp[Bk,EJ]
 simp only[h.2,QU he hb a 0 hk,hs,cond_true]
 simp
theorem yO {es i off n cap:Nat}{ex:Bool}{k:IntKind}{j:Nat}(h:j<n):ia es (.slice i off n cap ex es) (.int k j)=some (.ptr i (off+j*es)):=by
 unfold ia
 simp only
 rw[if_pos ⟨trivial,by omega,by omega⟩,acr]
theorem mH (x:R):sJ true x=x:=aal rfl (id rfl)
theorem sZ (z:List AV):fl z []=some z:=aal rfl (id rfl)
theorem Ge {P:Program}{T el:Nat}(hT:P.underlying T=some (.slice el))(H:Hp):eG P .eql T .ah .ah H=some (.bool true):=by
 unfold eG dH
 simp only[hT];rfl
theorem Ig {P:Program}{T el:Nat}(hT:P.underlying T=some (.slice el))(i o n c:Nat)(ex:Bool)(es:Nat)(H:Hp):eG P .eql T (.slice i o n c ex es) .ah H=some (.bool false):=by
 unfold eG dH
 simp only[hT];rfl
theorem EU (P:Program)(T:Nat)(c:Bool):gA P .eql T c .ah .ah=true:=aal rfl (id rfl)
theorem FW (P:Program)(T:Nat)(c:Bool)(i o n k:Nat)(ex:Bool)(es:Nat):gA P .eql T c (.slice i o n k ex es) .ah=true:=aal rfl (id rfl)
theorem aju (P:Program)(t:Array TypeId)(k j:IntKind)(a b:Int)(H:Hp):gp P .max t [.int k a,.int j b] H=some (.int k (if a<b then b else a),H):=aal rfl (id rfl)
theorem Ba (P:Program)(t:Array TypeId)(k j:IntKind)(a b:Int)(H:Hp):gp P .min t [.int k a,.int j b] H=some (.int k (if b<a then b else a),H):=aal rfl (id rfl)
theorem Rw.lK {H:Hp}{x:AV}{l:List AV}(h:Rw H 1 x l){i:Nat}{v:AV}(hv:l[i]? = some v)(k:IntKind):∃ q,ia 1 x (.int k i)=some q/\ld q H=some v:=by
 cases h with
 | nil=>cases hv
 | emp=>cases hv
 | @mk j off n cap ex l hr hn hc he=>
  have hi:=(aah.1 hv).1
  refine⟨.ptr j (off+i),?_,hr.ld hv⟩
  have gN:i<n:=by omega
  rw[yO gN,afZ]
end K
end Go.Proofs.YtodfajmihkagnaaGreatDoor.Am
