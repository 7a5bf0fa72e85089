/- Laws by which a plain form is run; rows and cells of the symbolic heap (of no program). -/
import Derived.Test.YtodfajmihkagnaaGreatDoorAm12
set_option linter.unusedVariables false
set_option linter.unusedSimpArgs false
namespace Go.Proofs.YtodfajmihkagnaaGreatDoor.Am
set_option linter.unusedVariables false
set_option linter.unusedSimpArgs false
namespace K
section
variable {α:Type}
theorem YZ (v:α)(k:α->R):B1 (some v) k=k v:=aaw rfl (id rfl)
theorem ZS (v:AV)(H:Hp)(k:AV->Hp->R):B2 (some (v,H)) k=k v H:=aaw rfl (id rfl)
theorem Yx (v:Nat)(H:Hp)(k:Nat->Hp->R):BN (some (v,H)) k=k v H:=aaw rfl (id rfl)
end
theorem aa8 (f:(Hp->R)->R)(k:Hp->R):JN 0 f k=f k:=aaw rfl (id rfl)
theorem XV (f:(AV->Hp->R)->R)(k:AV->Hp->R):JN 1 f k=f k:=aaw rfl (id rfl)
theorem aaD (f:(AV->AV->Hp->R)->R)(k:AV->AV->Hp->R):JN 2 f k=f k:=aaw rfl (id rfl)
theorem aaL (f:(AV->AV->AV->Hp->R)->R)(k:AV->AV->AV->Hp->R):JN 3 f k=f k:=aaw rfl (id rfl)
theorem XP (f:(AV->AV->AV->AV->Hp->R)->R)(k:AV->AV->AV->AV->Hp->R):JN 4 f k=f k:=aaw rfl (id rfl)
theorem XB (f:(AV->AV->AV->AV->AV->Hp->R)->R)(k:AV->AV->AV->AV->AV->Hp->R):JN 5 f k=f k:=aaw rfl (id rfl)
theorem SB (f:(AV->AV->AV->AV->AV->AV->Hp->R)->R)(k:AV->AV->AV->AV->AV->AV->Hp->R):JN 6 f k=f k:=aaw rfl (id rfl)
theorem aaK (f:(AV->AV->AV->AV->AV->AV->AV->Hp->R)->R)(k:AV->AV->AV->AV->AV->AV->AV->Hp->R):JN 7 f k=f k:=aaw rfl (id rfl)
theorem WH (f:(AV->AV->AV->AV->AV->AV->AV->AV->Hp->R)->R)(k:AV->AV->AV->AV->AV->AV->AV->AV->Hp->R):JN 8 f k=f k:=aaw rfl (id rfl)
theorem WM (f:(AV->AV->AV->AV->AV->AV->AV->AV->AV->Hp->R)->R)(k:AV->AV->AV->AV->AV->AV->AV->AV->AV->Hp->R):JN 9 f k=f k:=aaw rfl (id rfl)
theorem XT (f:(AV->AV->AV->AV->AV->AV->AV->AV->AV->AV->Hp->R)->R)(k:AV->AV->AV->AV->AV->AV->AV->AV->AV->AV->Hp->R):JN 10 f k=f k:=aaw rfl (id rfl)
theorem S4 (f:(AV->AV->AV->AV->AV->AV->AV->AV->AV->AV->AV->Hp->R)->R)(k:AV->AV->AV->AV->AV->AV->AV->AV->AV->AV->AV->Hp->R):JN 11 f k=f k:=aaw rfl (id rfl)
theorem VD (f:(AV->AV->AV->AV->AV->AV->AV->AV->AV->AV->AV->AV->Hp->R)->R)(k:AV->AV->AV->AV->AV->AV->AV->AV->AV->AV->AV->AV->Hp->R):JN 12 f k=f k:=aaw rfl (id rfl)
theorem Zq (f:(AV->AV->AV->AV->AV->AV->AV->AV->AV->AV->AV->AV->AV->Hp->R)->R)(k:AV->AV->AV->AV->AV->AV->AV->AV->AV->AV->AV->AV->AV->Hp->R):JN 13 f k=f k:=aaw rfl (id rfl)
theorem abE (f:(AV->AV->AV->AV->AV->AV->AV->AV->AV->AV->AV->AV->AV->AV->Hp->R)->R)(k:AV->AV->AV->AV->AV->AV->AV->AV->AV->AV->AV->AV->AV->AV->Hp->R):JN 14 f k=f k:=aaw rfl (id rfl)
theorem abk (f:(AV->AV->AV->AV->AV->AV->AV->AV->AV->AV->AV->AV->AV->AV->AV->Hp->R)->R)(k:AV->AV->AV->AV->AV->AV->AV->AV->AV->AV->AV->AV->AV->AV->AV->Hp->R):JN 15 f k=f k:=aaw rfl (id rfl)
theorem ab9 (f:(AV->AV->AV->AV->AV->AV->AV->AV->AV->AV->AV->AV->AV->AV->AV->AV->Hp->R)->R)(k:AV->AV->AV->AV->AV->AV->AV->AV->AV->AV->AV->AV->AV->AV->AV->AV->Hp->R):JN 16 f k=f k:=aaw rfl (id rfl)
theorem abe (f:(AV->AV->AV->AV->AV->AV->AV->AV->AV->AV->AV->AV->AV->AV->AV->AV->AV->Hp->R)->R)(k:AV->AV->AV->AV->AV->AV->AV->AV->AV->AV->AV->AV->AV->AV->AV->AV->AV->Hp->R):JN 17 f k=f k:=aaw rfl (id rfl)
theorem YE (f:(AV->AV->AV->AV->AV->AV->AV->AV->AV->AV->AV->AV->AV->AV->AV->AV->AV->AV->Hp->R)->R)(k:AV->AV->AV->AV->AV->AV->AV->AV->AV->AV->AV->AV->AV->AV->AV->AV->AV->AV->Hp->R):JN 18 f k=f k:=aaw rfl (id rfl)
theorem Ti (f:(AV->AV->AV->AV->AV->AV->AV->AV->AV->AV->AV->AV->AV->AV->AV->AV->AV->AV->AV->Hp->R)->R)(k:AV->AV->AV->AV->AV->AV->AV->AV->AV->AV->AV->AV->AV->AV->AV->AV->AV->AV->AV->Hp->R):JN 19 f k=f k:=aaw rfl (id rfl)
theorem aaV (f:(AV->AV->AV->AV->AV->AV->AV->AV->AV->AV->AV->AV->AV->AV->AV->AV->AV->AV->AV->AV->Hp->R)->R)(k:AV->AV->AV->AV->AV->AV->AV->AV->AV->AV->AV->AV->AV->AV->AV->AV->AV->AV->AV->AV->Hp->R):JN 20 f k=f k:=aaw rfl (id rfl)
theorem W1 (f:(AV->AV->AV->AV->AV->AV->AV->AV->AV->AV->AV->AV->AV->AV->AV->AV->AV->AV->AV->AV->AV->Hp->R)->R)(k:AV->AV->AV->AV->AV->AV->AV->AV->AV->AV->AV->AV->AV->AV->AV->AV->AV->AV->AV->AV->AV->Hp->R):JN 21 f k=f k:=aaw rfl (id rfl)
theorem ZT (f:(AV->AV->AV->AV->AV->AV->AV->AV->AV->AV->AV->AV->AV->AV->AV->AV->AV->AV->AV->AV->AV->AV->Hp->R)->R)(k:AV->AV->AV->AV->AV->AV->AV->AV->AV->AV->AV->AV->AV->AV->AV->AV->AV->AV->AV->AV->AV->AV->Hp->R):JN 22 f k=f k:=aaw rfl (id rfl)
theorem ZV (f:(AV->AV->AV->AV->AV->AV->AV->AV->AV->AV->AV->AV->AV->AV->AV->AV->AV->AV->AV->AV->AV->AV->AV->Hp->R)->R)(k:AV->AV->AV->AV->AV->AV->AV->AV->AV->AV->AV->AV->AV->AV->AV->AV->AV->AV->AV->AV->AV->AV->AV->Hp->R):JN 23 f k=f k:=aaw rfl (id rfl)
theorem abt (f:(AV->AV->AV->AV->AV->AV->AV->AV->AV->AV->AV->AV->AV->AV->AV->AV->AV->AV->AV->AV->AV->AV->AV->AV->Hp->R)->R)(k:AV->AV->AV->AV->AV->AV->AV->AV->AV->AV->AV->AV->AV->AV->AV->AV->AV->AV->AV->AV->AV->AV->AV->AV->Hp->R):JN 24 f k=f k:=aaw rfl (id rfl)
theorem Y0 (x y:R):CD (.bool true) x y=x:=aaw rfl (id rfl)
theorem Yp (x y:R):CD (.bool false) x y=y:=aaw rfl (id rfl)
theorem MP (b:Bool)(x y:R):CD (.bool b) x y=if b then x else y:=by cases b<;>rfl
theorem aah (f:(AV->Hp->R)->R)(k:AV->Hp->R)(H:Hp):GO (.bool true) true f k H=f k:=aaw rfl (id rfl)
theorem ZZ (f:(AV->Hp->R)->R)(k:AV->Hp->R)(H:Hp):GO (.bool false) true f k H=k bK H:=aaw rfl (id rfl)
theorem Xo (f:(AV->Hp->R)->R)(k:AV->Hp->R)(H:Hp):GO (.bool true) false f k H=k bK H:=aaw rfl (id rfl)
theorem T6 (f:(AV->Hp->R)->R)(k:AV->Hp->R)(H:Hp):GO (.bool false) false f k H=f k:=aaw rfl (id rfl)
theorem Um (f:(AV->Hp->R)->R)(k:AV->Hp->R)(H:Hp):GO bK true f k H=k bK H:=aaw rfl (id rfl)
theorem Xa (f:(AV->Hp->R)->R)(k:AV->Hp->R)(H:Hp):GO bK false f k H=k bK H:=aaw rfl (id rfl)
theorem ZB (x y:R):rF (.bool true) true x y=x:=aaw rfl (id rfl)
theorem YJ (x y:R):rF (.bool false) true x y=y:=aaw rfl (id rfl)
theorem Zf (x y:R):rF (.bool true) false x y=y:=aaw rfl (id rfl)
theorem XW (x y:R):rF (.bool false) false x y=x:=aaw rfl (id rfl)
theorem abi (a b:AV):pk (.bool true) a b=some a:=aaw rfl (id rfl)
theorem TT (a b:AV):pk (.bool false) a b=some b:=aaw rfl (id rfl)
theorem UD (i o:Nat):aV (.ptr i o)=some (.ptr i o):=aaw rfl (id rfl)
theorem SW (t:TypeId)(v:AV):aV (.iface t v)=some (.iface t v):=aaw rfl (id rfl)
theorem Yn (off i o:Nat):fa off (.ptr i o)=some (.ptr i (o+off)):=aaw rfl (id rfl)
theorem X7 (off:Nat)(l:List AV):fd off (.agg l)=l[off]? := aaw rfl (id rfl)
theorem UI (i:Nat)(l:List AV):ex i (.tuple l)=l[i]? := aaw rfl (id rfl)
theorem abo (k:IntKind)(a b:Int):bS (.int k a) (.int k b)=some (.int k (k.wrap (a+b))):=by simp[bS,ii]
theorem ab3 (k:IntKind)(a b:Int):mY (.int k a) (.int k b)=some (.int k (k.wrap (a-b))):=by simp[mY,ii]
theorem ZN (k:IntKind)(a b:Int):wB (.int k a) (.int k b)=some (.int k (k.wrap (a*b))):=by simp[wB,ii]
theorem Td (k:IntKind)(a b:Int):bG (.int k a) (.int k b)=some (.bool (a==b)):=by simp[bG,ii]
theorem SQ (k:IntKind)(a b:Int):hY (.int k a) (.int k b)=some (.bool (a != b)):=by simp[hY,ii]
theorem Tp (k:IntKind)(a b:Int):cB (.int k a) (.int k b)=some (.bool (a<b)):=by simp[cB,ii]
theorem abj (k:IntKind)(a b:Int):nZ (.int k a) (.int k b)=some (.bool (a<=b)):=by simp[nZ,ii]
theorem Zw (k:IntKind)(a b:Int):lE (.int k a) (.int k b)=some (.bool (b<a)):=by simp[lE,ii]
theorem I6 (k:IntKind)(a b:Int):lJ (.int k a) (.int k b)=some (.bool (b<=a)):=by simp[lJ,ii]
theorem ahS (k:IntKind)(a b:Int)(h:b≠0):Bf (.int k a) (.int k b)=some (.int k (k.wrap (a.tdiv b))):=by simp[Bf,ii,h]
theorem Xt (a b:List Nat):seq (.str a) (.str b)=some (.bool (a==b)):=aaw rfl (id rfl)
theorem YV (a b:List Nat):qH (.str a) (.str b)=some (.bool (!(a==b))):=aaw rfl (id rfl)
theorem X0 (a b:List Nat):slt (.str a) (.str b)=some (.bool (qm a b)):=aaw rfl (id rfl)
theorem tG {a b:List Nat}(h:a.length+b.length<=4294967296):oI (.str a) (.str b)=some (.str (a++b)):=by
 have:Nat.ble (a.length+b.length) 4294967296=true:=aez.mpr h
 simp[oI,ss,this]
theorem Wi (s:List Nat):lens (.str s)=some (.int .i64 s.length):=aaw rfl (id rfl)
theorem Z8:bq .ah=some (.int .i64 0):=aaw rfl (id rfl)
theorem Ut (i o n c:Nat)(x:Bool)(es:Nat):bq (.slice i o n c x es)=some (.int .i64 n):=aaw rfl (id rfl)
theorem T9 (a b:Bool):bb .eql (.bool a) (.bool b)=some (.bool (a==b)):=aaw rfl (id rfl)
theorem abb (a b:Bool):bb .neq (.bool a) (.bool b)=some (.bool (!(a==b))):=aaw rfl (id rfl)
theorem W4 (b:Bool):fT .not (.bool b)=some (.bool !b):=aaw rfl (id rfl)
theorem WO (k j:IntKind)(n:Int):cv k (.int j n)=some (.int k (k.wrap n)):=aaw rfl (id rfl)
theorem Wb (H:Hp):pe .fB .fB H=some true:=aaw rfl (id rfl)
theorem Y2 (i o:Nat)(H:Hp):pe .fB (.ptr i o) H=some false:=aaw rfl (id rfl)
theorem S0 (i o:Nat)(H:Hp):pe (.ptr i o) .fB H=some false:=aaw rfl (id rfl)
theorem WK (b:Bool):Dx .eql (some b)=some (.bool b):=aaw rfl (id rfl)
theorem ab5 (b:Bool):Dx .neq (some b)=some (.bool !b):=aaw rfl (id rfl)
theorem lK {a b:AV}{x:R}(h:same a b=true):SM a b x=x:=by simp[SM,h]
theorem wrap_i64 {a:Int}(h : -9223372036854775808<=a)(k:a<=9223372036854775807):IntKind.wrap .i64 a=a:=by
 simp only[IntKind.wrap,IntKind.bits,IntKind.signed]
 simp
 omega
theorem yC {P:Program}{ext:Nat->Option Ext}{aR:Nat->Option Prim}{an:Nat->An}{aY:Nat}{p:Prim}{args:List AV}{H:Hp}{r:AV × Hp}(hp:aR aY=some p)(h:p args H=some r) :
  CK P (rZ P) ext aR an (.func (.func aY) [] []) args H=some r:=by
 refine Rm Lo ?_
 unfold vu
 simp only[hp,aiT,ahD]
 exact h
def Cs (H:Hp)(i:Nat)(l:List AV)(el fl:Nat):Prop:=i<H.next/\∃ c,H.h.get i=some (.cells c 0 l.length el fl)/\∀ k v,l[k]? = some v->c.get k=some v
def Mp (H:Hp)(i:Nat)(es:List ME)(c:Nat):Prop:=i<H.next/\H.h.get i=some (.map es c)
def Out (S:List Nat)(H H':Hp):Prop:=H.next<=H'.next/\∀ j,j<H.next->j∉S->H'.h.get j=H.h.get j
theorem Out.refl (S:List Nat)(H:Hp):Out S H H:=⟨aaH _,fun _ _ _=>rfl⟩
theorem Out.trans {S:List Nat}{H H' lG:Hp}(h:Out S H H')(k:Out S H' lG):Out S H lG:=
 ⟨agr h.1 k.1,fun j hj hs=>(k.2 j (adW hj h.1) hs).trans (h.2 j hj hs)⟩
theorem Out.mono {S S':List Nat}{H H':Hp}(h:Out S H H')(k:∀ j∈S,j∈S'):Out S' H H':=⟨h.1,fun j hj hs=>h.2 j hj fun q=>hs (k j q)⟩
theorem Out.then {S S':List Nat}{H H' lG:Hp}(h:Out S H H')(k:Out S' H' lG)(hs:∀ j∈S',j∈S\/H.next<=j):Out S H lG:=
 ⟨agr h.1 k.1,fun j hj hn=>(k.2 j (adW hj h.1) fun q=>(hs j q).elim hn (by omega)).trans (h.2 j hj hn)⟩
theorem Cs.out {H H':Hp}{i:Nat}{l:List AV}{el fl:Nat}{S:List Nat}(h:Cs H i l el fl)(k:Out S H H')(hi:i∉S):Cs H' i l el fl:=
 ⟨adW h.1 k.1,by rw[k.2 i h.1 hi];exact h.2⟩
theorem Mp.out {H H':Hp}{i:Nat}{es:List ME}{c:Nat}{S:List Nat}(h:Mp H i es c)(k:Out S H H')(hi:i∉S):Mp H' i es c:=
 ⟨adW h.1 k.1,by rw[k.2 i h.1 hi];exact h.2⟩
theorem Cs.cellAt {H:Hp}{i:Nat}{l:List AV}{el fl:Nat}(h:Cs H i l el fl){o:Nat}{v:AV}(hv:l[o]? = some v):cellAt H i o=some v:=by
 obtain⟨_,c,hc,hg⟩:=h
 have ho:o<l.length:=(aas.1 hv).1
 unfold Am.cellAt
 rw[hc]
 have hb:(Nat.ble 0 o&&Nat.blt o l.length)=true:=by
  rw[aaG,aez,ad5];omega
 simp only[hb,cond_true]
 exact hg o v hv
theorem Cs.ld {H:Hp}{i:Nat}{l:List AV}{el fl:Nat}(h:Cs H i l el fl){o:Nat}{v:AV}(hv:l[o]? = some v):ld (.ptr i o) H=some v:=h.cellAt hv
theorem Cs.av {H:Hp}{i:Nat}{l:List AV}{el fl:Nat}(h:Cs H i l el fl):∀ (n o:Nat),o+n<=l.length->av H i o n=some ((l.drop o).take n)
 | 0,o,_=>by simp[Am.av]
 | n+1,o,hn=>by
  have ho:o<l.length:=by omega
  have h1:=h.cellAt (o:=o) (v:=l[o]) (aau ho)
  have h2:=h.av n (o+1) (by omega)
  unfold Am.av
  rw[h1,h2,ajb ho]
  rfl
theorem Lj (H:Hp)(i j:Nat)(o:AO):(setObj H i o).h.get j=if j=i then some o else H.h.get j:=Tr.fj _ _ _ _
theorem MM {H:Hp}{i:Nat}{l:List AV}{el fl:Nat}(h:Cs H i l el fl)(hf:fl<=1){o:Nat}(ho:o<l.length){v:AV}(hv:ba v=true) :
  ∃ H',setCell H i o v=some H'/\Cs H' i (l.set o v) el fl/\Out [i] H H'/\H'.next=H.next:=by
 obtain⟨hi,c,hc,hg⟩:=h
 have hs:(c.get o).isSome=true:=by rw[hg o l[o] (aau ho)];rfl
 have hb:(Nat.ble 0 o&&Nat.blt o l.length&&Nat.ble fl 1&&(c.get o).isSome&&ba v)=true:=by
  simp only[aaG,aez,ad5];exact⟨⟨⟨⟨by omega,ho⟩,hf⟩,hs⟩,hv⟩
 refine⟨{ H with h:=H.h.bO i (.cells (c.bO o v) 0 l.length el fl) },?_,⟨hi,c.bO o v,?_,?_⟩,⟨aaH _,?_⟩,rfl⟩
 ·unfold setCell
  rw[hc]
  simp only[hb,cond_true]
 ·show (Tr.bO H.h i _).get i=_
  rw[Tr.bO,Tr.fj,if_pos rfl,adM]
 ·intro k u hk
  rw[Tr.bO,Tr.fj]
  by_cases MR:k=o
  ·subst MR
   rw[afz (by omega)] at hk
   rw[if_pos rfl]
   exact hk
  ·rw[ajj (fun q=>MR q.symm)] at hk
   rw[if_neg MR]
   exact hg k u hk
 ·intro j hj hn
  show (Tr.bO H.h i _).get j=_
  rw[Tr.bO,Tr.fj,if_neg (by simpa using hn)]
theorem fG {H:Hp}{i:Nat}{l:List AV}{el fl:Nat}(h:Cs H i l el fl)(hf:fl<=1){o:Nat}(ho:o<l.length){v:AV}(hv:ba v=true) :
  ∃ H',st 1 (.ptr i o) v H=some H'/\Cs H' i (l.set o v) el fl/\Out [i] H H'/\H'.next=H.next:=by
 obtain⟨H',h1,h2,h3,h4⟩:=MM h hf ho hv
 refine⟨H',?_,h2,h3,h4⟩
 have hc:pJ v=some [v]:=by cases v<;>first | rfl | cases hv
 unfold st
 simp only[hc]
 show setCells H i o [v]=_
 simp only[setCells,h1,acX,adu]
theorem Xe (H:Hp)(l:List AV)(el fl:Nat)(hl:l.length<=16777216):∃ H',aE H l el fl=some (H.next,H')/\Cs H' H.next l el fl/\Out [] H H'/\H'.next=H.next+1:=by
 refine⟨⟨H.h.put 34 H.next (.cells (Tr.bZ .nil 0 l) 0 l.length el fl),H.next+1⟩,?_,⟨aif _,Tr.bZ .nil 0 l,?_,?_⟩,⟨afu _,?_⟩,rfl⟩
 ·unfold aE alloc
  have:Nat.ble l.length 16777216=true:=aez.mpr hl
  rw[this];rfl
 ·show (Tr.put 34 H.h H.next _).get H.next=_
  rw[Tr.put,Tr.fj,if_pos rfl]
 ·intro k v hk
  rw[wY]
  have:=(aas.1 hk).1
  rw[if_pos (by omega)];exact hk
 ·intro j hj _
  show (Tr.put 34 H.h H.next _).get j=_
  rw[Tr.put,Tr.fj,if_neg (by omega)]
theorem KK (H:Hp):∃ H',xc H=some (H.next,H')/\Mp H' H.next [] 0/\Out [] H H'/\H'.next=H.next+1:=by
 refine⟨⟨H.h.put 34 H.next (.map [] 0),H.next+1⟩,rfl,⟨aif _,?_⟩,⟨afu _,?_⟩,rfl⟩
 ·show (Tr.put 34 H.h H.next _).get H.next=_
  rw[Tr.put,Tr.fj,if_pos rfl]
 ·intro j hj _
  show (Tr.put 34 H.h H.next _).get j=_
  rw[Tr.put,Tr.fj,if_neg (by omega)]
def Ro (H:Hp)(i off:Nat)(l:List AV):Prop:=i<H.next/\∃ c lo hi el fl,H.h.get i=some (.cells c lo hi el fl)/\lo<=off/\off+l.length<=hi/\∀ k v,l[k]? = some v->c.get (off+k)=some v
theorem Cs.ro {H:Hp}{i:Nat}{l:List AV}{el fl:Nat}(h:Cs H i l el fl):Ro H i 0 l:=by
 obtain⟨hi,c,hc,hg⟩:=h
 exact⟨hi,c,0,l.length,el,fl,hc,aaH _,by omega,fun k v hk=>by rw[ad6];exact hg k v hk⟩
theorem Ro.out {H H':Hp}{i off:Nat}{l:List AV}{S:List Nat}(h:Ro H i off l)(k:Out S H H')(hi:i∉S):Ro H' i off l:=
 ⟨adW h.1 k.1,by rw[k.2 i h.1 hi];exact h.2⟩
theorem Ro.cellAt {H:Hp}{i off:Nat}{l:List AV}(h:Ro H i off l){k:Nat}{v:AV}(hv:l[k]? = some v):cellAt H i (off+k)=some v:=by
 obtain⟨_,c,lo,hi,el,fl,hc,h1,h2,hg⟩:=h
 have hk:k<l.length:=(aas.1 hv).1
 unfold Am.cellAt
 rw[hc]
 have hb:(Nat.ble lo (off+k)&&Nat.blt (off+k) hi)=true:=by
  rw[aaG,aez,ad5];omega
 simp only[hb,cond_true]
 exact hg k v hv
theorem Ro.ld {H:Hp}{i off:Nat}{l:List AV}(h:Ro H i off l){k:Nat}{v:AV}(hv:l[k]? = some v):ld (.ptr i (off+k)) H=some v:=h.cellAt hv
theorem Ro.drop {H:Hp}{i off:Nat}{l:List AV}(h:Ro H i off l)(n:Nat)(hn:n<=l.length):Ro H i (off+n) (l.drop n):=by
 obtain⟨hi,c,lo,iS,el,fl,hc,h1,h2,hg⟩:=h
 refine⟨hi,c,lo,iS,el,fl,hc,by omega,by rw[afK];omega,fun k v hk => ?_⟩
 rw[afT] at hk
 rw[aiB];exact hg _ v hk
theorem Ro.take {H:Hp}{i off:Nat}{l:List AV}(h:Ro H i off l)(n:Nat):Ro H i off (l.take n):=by
 obtain⟨hi,c,lo,iS,el,fl,hc,h1,h2,hg⟩:=h
 refine⟨hi,c,lo,iS,el,fl,hc,h1,by rw[ael];omega,fun k v hk => ?_⟩
 rw[ahB] at hk
 split at hk
 ·exact hg _ v hk
 ·cases hk
theorem Ro.av {H:Hp}{i:Nat}:∀ {l:List AV} {off:Nat},Ro H i off l->Am.av H i off l.length=some l
 | [],off,_=>rfl
 | v::l,off,h=>by
  have h1:=h.cellAt (k:=0) (v:=v) rfl
  have h2:=(h.drop 1 (by simp)).av
  simp only[List.drop_succ_cons,ada] at h2
  rw[aem] at h1
  rw[aaN]
  unfold Am.av
  rw[h1,h2]
  rfl
def ak:AV->List Nat
 | .slice i _ _ cap ex _=>bif ex&&Nat.beq cap 0 then [] else [i]
 | .ptr i _=>[i]
 | .map i=>[i]
 | _=>[]
theorem my {i o n cap es:Nat}{ex:Bool}(h:(ex&&Nat.beq cap 0)=false):ak (.slice i o n cap ex es)=[i]:=by simp only[ak,h,cond_false]
inductive Rw (H:Hp) (es:Nat):AV->List AV->Prop
 | nil:Rw H es .ah []
 | emp {i off:Nat}:Rw H es (.slice i off 0 0 true es) []
 | mk {i off n cap:Nat} {ex:Bool} {l:List AV} (h:Ro H i off l) (hn:l.length=n*es) (hc:n<=cap) (he:(ex&&Nat.beq cap 0)=false):Rw H es (.slice i off n cap ex es) l
theorem Rw.out {H H':Hp}{es:Nat}{x:AV}{l:List AV}{S:List Nat}(h:Rw H es x l)(k:Out S H H')(hi:∀ j∈ak x,j∉S):Rw H' es x l:=by
 cases h with
 | nil=>exact .nil
 | emp=>exact .emp
 | mk h hn hc he=>exact .mk (h.out k (hi _ (by rw[my he];exact .head _))) hn hc he
theorem Rw.lt {H:Hp}{es:Nat}{x:AV}{l:List AV}(h:Rw H es x l):∀ j∈ak x,j<H.next:=by
 cases h with
 | nil=>intro j hj;cases hj
 | emp=>intro j hj;cases hj
 | mk h hn hc he=>intro j hj;rw[my he,No] at hj;subst hj;exact h.1
theorem Rw.len {H:Hp}{es:Nat}{x:AV}{l:List AV}(h:Rw H es x l):∃ n:Nat,bq x=some (.int .i64 n)/\l.length=n*es:=by
 cases h with
 | nil=>exact⟨0,rfl,by simp⟩
 | emp=>exact⟨0,rfl,by simp⟩
 | mk h hn hc he=>exact⟨_,rfl,hn⟩
theorem Rw.mZ {H:Hp}{x:AV}{l:List AV}(h:Rw H 1 x l):bq x=some (.int .i64 l.length):=by
 obtain⟨n,h1,h2⟩:=h.len
 rw[h1,h2,agf]
inductive Ow (H:Hp) (el es:Nat):AV->List AV->Prop
 | nil:Ow H el es .ah []
 | emp {i off:Nat}:Ow H el es (.slice i off 0 0 true es) []
 | mk {i off n cap:Nat} {ex:Bool} {l:List AV} {c:Tr AV} {lo hi fl:Nat} (iS:i<H.next) (hg:H.h.get i=some (.cells c lo hi el fl)) (hf:fl<=1) (gT:lo<=off) (je:off+cap*es<=hi) (hJ:n<=cap) (hn:l.length=n*es)
   (hc:∀ k v,l[k]? = some v->c.get (off+k)=some v) (hs:∀ k,k<cap*es->(c.get (off+k)).isSome=true) (h1:∀ v∈l,ba v=true) (he:(ex&&Nat.beq cap 0)=false):Ow H el es (.slice i off n cap ex es) l
theorem Ow.rw {H:Hp}{el es:Nat}{x:AV}{l:List AV}(h:Ow H el es x l):Rw H es x l:=by
 cases h with
 | nil=>exact .nil
 | emp=>exact .emp
 | @mk i off n cap ex l c lo hi fl iS hg hf gT je hJ hn hc hs h1 he=>
  exact .mk ⟨iS,c,lo,hi,el,fl,hg,gT,by rw[hn];exact agr (Nat.add_le_add_left (aeF _ hJ) _) je,hc⟩ hn hJ he
theorem Ow.out {H H':Hp}{el es:Nat}{x:AV}{l:List AV}{S:List Nat}(h:Ow H el es x l)(k:Out S H H')(hi:∀ j∈ak x,j∉S):Ow H' el es x l:=by
 cases h with
 | nil=>exact .nil
 | emp=>exact .emp
 | mk iS hg hf gT je hJ hn hc hs h1 he=>exact .mk (adW iS k.1) (by rw[k.2 _ iS (hi _ (by rw[my he];exact .head _))];exact hg) hf gT je hJ hn hc hs h1 he
theorem Ow.one {H:Hp}{el es:Nat}{x:AV}{l:List AV}(h:Ow H el es x l):∀ v∈l,ba v=true:=by
 cases h with
 | nil=>intro v hv;cases hv
 | emp=>intro v hv;cases hv
 | mk _ _ _ _ _ _ _ _ _ h1 _=>exact h1
theorem Cs.ow {H:Hp}{i n:Nat}{l:List AV}{el es fl:Nat}(h:Cs H i l el fl)(hf:fl<=1)(hn:l.length=n*es)(h1:∀ v∈l,ba v=true)(ex:Bool):Ow H el es (.slice i 0 n n ex es) l:=by
 cases hex:(ex&&Nat.beq n 0) with
 | true=>
  rw[aaG] at hex
  obtain⟨rfl,lu⟩:=hex
  obtain rfl:=aa9 lu
  have:l=[]:=by simpa using hn
  subst this
  exact .emp
 | false=>
 obtain⟨hi,c,hc,hg⟩:=h
 refine .mk hi hc hf (aaH _) (by omega) (aaH _) hn (fun k v hk=>by rw[ad6];exact hg k v hk) (fun k hk => ?_) h1 hex
 rw[ad6,hg k l[k] (aau (by omega))];rfl
theorem I0:∀ (l:List AV) (H:Hp) (i off:Nat) (c:Tr AV) (lo hi el fl:Nat),H.h.get i=some (.cells c lo hi el fl)->fl<=1->lo<=off->off+l.length<=hi->(∀ k,k<l.length->(c.get (off+k)).isSome=true)->(∀ v∈l,ba v=true)->
  ∃ H' c',setCells H i off l=some H'/\H'.next=H.next/\H'.h.get i=some (.cells c' lo hi el fl)/\(∀ j,j≠i->H'.h.get j=H.h.get j)/\∀ k,c'.get k=if off<=k/\k<off+l.length then l[k-off]? else c.get k
 | [],H,i,off,c,lo,hi,el,fl,hg,hf,h1,h2,hs,ho=>⟨H,c,rfl,rfl,hg,fun _ _=>rfl,fun k=>by rw[if_neg (by simp only[ads];omega)]⟩
 | v::l,H,i,off,c,lo,hi,el,fl,hg,hf,h1,h2,hs,ho=>by
  simp only[aaN] at h2
  have tY:=hs 0 (by simp)
  rw[aem] at tY
  have hb:(Nat.ble lo off&&Nat.blt off hi&&Nat.ble fl 1&&(c.get off).isSome&&ba v)=true:=by
   simp only[aaG,aez,ad5];exact⟨⟨⟨⟨h1,by omega⟩,hf⟩,tY⟩,ho v (.head _)⟩
  have fh:setCell H i off v=some { H with h:=H.h.bO i (.cells (c.bO off v) lo hi el fl) }:=by
   unfold setCell;rw[hg];simp only[hb,cond_true]
  obtain⟨H',c',q1,q2,q3,q4,q5⟩:=I0 l { H with h:=H.h.bO i (.cells (c.bO off v) lo hi el fl) } i (off+1) (c.bO off v) lo hi el fl (by
    show (Tr.bO H.h i _).get i=_
    rw[Tr.bO,Tr.fj,if_pos rfl]) hf (by omega) (by omega) (fun k hk=>by
    rw[Tr.bO,Tr.fj]
    split
    ·rfl
    ·have:=hs (k+1) (by simp;omega)
     rw[show off+1+k=off+(k+1) by omega];exact this) (fun u hu=>ho u (.tail _ hu))
  refine⟨H',c',?_,q2,q3,fun j hj => ?_,fun k => ?_⟩
  ·simp only[setCells,fh,acX,adu];exact q1
  ·rw[q4 j hj]
   show (Tr.bO H.h i _).get j=_
   rw[Tr.bO,Tr.fj,if_neg hj]
  ·rw[q5 k,Tr.bO,Tr.fj]
   by_cases hk:k=off
   ·subst hk
    rw[if_neg (by omega),if_pos rfl,if_pos (by simp),ahF];rfl
   ·rw[if_neg hk]
    by_cases fR:off+1<=k/\k<off+1+l.length
    ·rw[if_pos fR,if_pos (by simp;omega),show k-off=(k-(off+1))+1 by omega,adL]
    ·rw[if_neg fR,if_neg (by simp;omega)]
theorem Ip {H:Hp}{el es n:Nat}{s:AV}{l new:List AV}(h:Ow H el es s l)(uo:new.length=n*es)(ho:∀ v∈new,ba v=true)(dy:0<es)(hlen:l.length+new.length<=16777216) :
  ∃ s' H',Dp el es n new s H=some (s',H')/\Ow H' el es s' (l++new)/\Out (ak s) H H'/\(∀ j∈ak s',j∈ak s\/H.next<=j):=by
 have jZ:∀ v∈l++new,ba v=true:=fun v hv=>(abV.1 hv).elim (h.one v) (ho v)
 have V6:∀ s0:List Nat,n≠0->l=[]->∃ H',aE H new el 0=some (H.next,H')/\Ow H' el es (.slice H.next 0 n n false es) (l++new)/\Out s0 H H'/\(∀ j∈ak (.slice H.next 0 n n false es),j∈s0\/H.next<=j):=by
  intro s0 hn hl
  subst hl
  obtain⟨H',h1,h2,h3,h4⟩:=Xe H new el 0 (by simp only[ads] at hlen;omega)
  refine⟨H',h1,h2.ow (by omega) uo ho false,h3.mono (fun j hj=>by cases hj),fun j hj => ?_⟩
  simp only[ak,ae8,cond_false,No] at hj
  exact .inr (by omega)
 cases h with
 | nil=>
  unfold Dp
  simp only
  by_cases hn:n=0
  ·subst hn
   have:new=[]:=by simpa using uo
   subst this
   exact⟨.ah,H,rfl,.nil,Out.refl _ _,fun j hj=>by cases hj⟩
  ·rw[nW hn,cond_false]
   have hle:n<=16777216:=by
    have:=Nat.le_mul_of_pos_right n dy
    simp only[ads] at hlen
    omega
   have hb:Nat.ble n 16777216=true:=aez.mpr hle
   rw[hb,cond_true]
   obtain⟨H',h1,h2⟩:=V6 [] hn rfl
   exact⟨_,H',by rw[h1];rfl,h2⟩
 | @emp i off=>
  unfold Dp
  have hle:n<=16777216:=by
   have:=Nat.le_mul_of_pos_right n dy
   simp only[ads] at hlen
   omega
  have hb:(Nat.ble (0+n) 16777216&&Nat.beq es es&&new.all ba)=true:=by
   simp only[aaG,aez,ui,adY]
   exact⟨⟨by omega,trivial⟩,ho⟩
  simp only[hb,cond_true]
  by_cases hn:n=0
  ·subst hn
   have:new=[]:=by simpa using uo
   subst this
   exact⟨.slice i off 0 0 true es,H,rfl,.emp,Out.refl _ _,fun j hj=>by cases hj⟩
  ·have iv:Nat.ble (0+n) 0=false:=by rw[<-agC,aez];omega
   rw[iv,cond_false]
   obtain⟨H',h1,h2⟩:=V6 (ak (.slice i off 0 0 true es)) hn rfl
   refine⟨.slice H.next 0 n n false es,H',?_,h2⟩
   simp only[ahk,Am.av,adu,aiT,h1,aek,ad6]
 | @mk i off m cap ex l c lo hi fl iS hg hf gT je hJ hn hc hs h1 he=>
  unfold Dp
  have mf:n<=new.length:=by rw[uo];exact Nat.le_mul_of_pos_right n dy
  have BY:m<=l.length:=by rw[hn];exact Nat.le_mul_of_pos_right m dy
  have hb:(Nat.ble (m+n) 16777216&&Nat.beq es es&&new.all ba)=true:=by
   simp only[aaG,aez,ui,adY]
   exact⟨⟨by omega,trivial⟩,ho⟩
  simp only[hb,cond_true]
  have kD:(l++new).length=(m+n)*es:=by rw[aa0,hn,uo,afA]
  by_cases Ms:m+n<=cap
  ·have iv:Nat.ble (m+n) cap=true:=aez.mpr Ms
   rw[iv,cond_true]
   have hr:(m+n)*es<=cap*es:=aeF _ Ms
   rw[afA] at hr
   obtain⟨H',c',q1,q2,q3,q4,q5⟩:=I0 new H i (off+m*es) c lo hi el fl hg hf (by omega) (by rw[uo];omega) (fun k hk=>by
    rw[aiB];exact hs _ (by rw[uo] at hk;omega)) ho
   refine⟨_,H',by rw[q1];rfl,.mk (by rw[q2];exact iS) q3 hf gT je Ms kD (fun k v hk => ?_) (fun k hk => ?_) jZ he,⟨by rw[q2];exact aaH _,fun j hj zr=>q4 j (by rw[my he] at zr;simpa using zr)⟩,fun j hj => .inl (by rw[my he] at hj ⊢;exact hj)⟩
   ·rw[q5]
    by_cases jF:k<l.length
    ·rw[if_neg (by omega),hc k v (by rw[abD jF] at hk;exact hk)]
    ·rw[ab7 (by omega)] at hk
     have:=(aas.1 hk).1
     rw[if_pos (by omega),<-hk];congr 1;omega
   ·rw[q5]
    split
    ·rename_i hq
     rw[aau (by omega)];rfl
    ·exact hs k hk
  ·have iv:Nat.ble (m+n) cap=false:=by rw[<-agC,aez];omega
   rw[iv,cond_false]
   cases ex with
   | true=>
    simp only[cond_true]
    have Fz:Ro H i off l:=⟨iS,c,lo,hi,el,fl,hg,gT,by rw[hn];exact agr (Nat.add_le_add_left (aeF _ hJ) _) je,hc⟩
    have xo:=Fz.av
    rw[hn] at xo
    rw[xo]
    obtain⟨H',r1,r2,r3,r4⟩:=Xe H (l++new) el 0 (by rw[aa0];omega)
    refine⟨_,H',by simp only[adu];rw[r1];rfl,r2.ow (by omega) kD jZ false,r3.mono (fun j hj=>by cases hj),fun j hj => ?_⟩
    simp only[ak,ae8,cond_false,No] at hj
    exact .inr (by omega)
   | false=>
    simp only[cond_false,hg]
    have hr:m*es<=cap*es:=aeF _ hJ
    have qG:(Nat.ble fl 1&&Nat.ble lo off&&Nat.ble (off+m*es) hi&&Nat.beq el el)=true:=by
     simp only[aaG,aez,ui]
     exact⟨⟨⟨hf,gT⟩,by omega⟩,trivial⟩
    rw[qG,cond_true]
    refine⟨_,_,rfl,.mk (c:=c.bZ (off+m*es) new) (lo:=off) (hi:=off+(m+n)*es) (fl:=1) ?_ ?_ (by omega) (aaH _) (aaH _) (aaH _) kD (fun k v hk => ?_) (fun k hk => ?_) jZ rfl,⟨?_,fun j hj zr => ?_⟩,fun j hj => ?_⟩
    ·exact aif _
    ·show (Tr.put 34 (H.h.del i) H.next _).get H.next=_
     rw[Tr.put,Tr.fj,if_pos rfl]
    ·rw[Tr.uH]
     by_cases jF:k<l.length
     ·rw[if_neg (by omega),hc k v (by rw[abD jF] at hk;exact hk)]
     ·rw[ab7 (by omega)] at hk
      have:=(aas.1 hk).1
      rw[if_pos (by omega),<-hk];congr 1;omega
    ·rw[Tr.uH]
     rw[afA] at hk
     split
     ·rename_i hq
      rw[aau (by omega)];rfl
     ·exact hs k (by omega)
    ·exact afu _
    ·show (Tr.put 34 (H.h.del i) H.next _).get j=_
     rw[Tr.put,Tr.fj,if_neg (by omega),Tr.HW,if_neg (by rw[my he] at zr;simpa using zr)]
    ·simp only[ak,ae8,cond_false,No] at hj
     subst hj
     exact .inr (aaH _)
theorem Wu {H:Hp}{el es:Nat}{z:List AV}{s x:AV}{l new:List AV}(h:Ow H el es s l)(hx:Rw H es x new)(ho:∀ v∈new,ba v=true)(dy:0<es)(hlen:l.length+new.length<=16777216) :
  ∃ s' H',gw el es z false s x H=some (s',H')/\Ow H' el es s' (l++new)/\Out (ak s) H H'/\(∀ j∈ak s',j∈ak s\/H.next<=j):=by
 cases hx with
 | nil=>
  obtain⟨s',H',h1,h2⟩:=Ip (n:=0) (new:=[]) h (by simp) ho dy hlen
  exact⟨s',H',h1,h2⟩
 | @emp i off=>
  obtain⟨s',H',h1,h2⟩:=Ip (n:=0) (new:=[]) h (by simp) ho dy hlen
  refine⟨s',H',?_,h2⟩
  have:Aw es z false (.slice i off 0 0 true es) H=some (0,[]):=by
   show (Am.av H i off (0*es)).map (fun l=>(0,l))=_
   rw[ahk];rfl
  unfold gw
  rw[this]
  exact h1
 | @mk i off n cap ex l' hr hn hc he=>
  obtain⟨s',H',h1,h2⟩:=Ip h hn ho dy hlen
  refine⟨s',H',?_,h2⟩
  have:Aw es z false (.slice i off n cap ex es) H=some (n,new):=by
   show (Am.av H i off (n*es)).map (fun l=>(n,l))=_
   rw[<-hn,hr.av];rfl
  unfold gw
  rw[this]
  exact h1
def bs (l:List Nat):List AV:=l.map fun (b:Nat)=>AV.int .u8 b
theorem agj (l:List Nat):∀ v∈bs l,ba v=true:=by
 intro v hv
 obtain⟨b,_,rfl⟩:=adD.1 hv
 rfl
theorem By (l:List Nat):(bs l).length=l.length:=by simp[bs]
theorem ajC (a b:List Nat):bs (a++b)=bs a++bs b:=by simp[bs]
theorem Px:∀ (l:List Nat),(∀ b∈l,b<256)->uV (bs l)=some l
 | [],_=>rfl
 | b::l,h=>by
  have h1:=Px l (fun x hx=>h x (.tail _ hx))
  have h2:=h b (.head _)
  have h3:(decide (0<=(b:Int))&&decide ((b:Int)<256))=true:=by simp;omega
  show uV (AV.int .u8 (b:Int)::bs l)=_
  unfold uV
  rw[h3,h1]
  simp
theorem UL {H:Hp}{x:AV}{l:List Nat}(h:Rw H 1 x (bs l))(hl:∀ b∈l,b<256):Cy x H=some (.str l):=by
 generalize gj:bs l=cs at h
 cases h with
 | nil=>
  have:l=[]:=by simpa[bs] using gj
  subst this;rfl
 | @emp i off=>
  have:l=[]:=by simpa[bs] using gj
  subst this;rfl
 | @mk i off n cap ex l' hr hn hc he=>
  rw[agf] at hn
  unfold Cy
  simp only
  by_cases h0:n=0
  ·subst h0
   have:l=[]:=by
    subst gj
    simpa[bs] using hn
   subst this;rfl
  ·rw[nW h0,cond_false,<-hn,hr.av,<-gj]
   simp only[adu,Px l hl]
   rfl
theorem I8 {k:IntKind}{n lo hi:Nat}(h1:lo<=n)(h2:n<=hi):bound lo hi (.int k n)=some n:=by
 unfold bound
 have:(decide ((lo:Int)<=(n:Int))&&decide ((n:Int)<=(hi:Int)))=true:=by simp;omega
 simp only[this,if_true,acT]
def Bd (o:Option AV)(n aiv:Nat):Prop:=(o=none/\n=aiv)\/∃ k,o=some (.int k n)
theorem Bd.no (n:Nat):Bd none n n := .inl ⟨rfl,rfl⟩
theorem Bd.yes (k:IntKind)(n d:Nat):Bd (some (.int k n)) n d := .inr ⟨k,rfl⟩
theorem Bd.afC (k:IntKind)(d:Nat):Bd (some (.int k 0)) 0 d := .inr ⟨k,rfl⟩
theorem ze {len cap a b:Nat}{lo hi:Option AV}(vw:a<=b)(hb:b<=len)(hc:len<=cap)(gT:Bd lo a 0)(je:Bd hi b len):qV len cap lo hi none=some (a,b,cap):=by
 unfold qV
 rcases je with⟨rfl,rfl⟩ | ⟨k,rfl⟩<;>rcases gT with⟨rfl,rfl⟩ | ⟨j,rfl⟩
 ·rfl
 ·simp only[acX,adu,I8 (ac4 _) vw];rfl
 ·simp only[acX,adu,I8 (ac4 _) (agr hb hc)];rfl
 ·simp only[acX,adu,I8 (ac4 _) (agr hb hc),I8 (ac4 _) vw];rfl
theorem Hk {H:Hp}{es n a b:Nat}{x:AV}{l:List AV}(h:Rw H es x l)(hl:l.length=n*es)(dy:0<es){lo hi:Option AV}(vw:a<=b)(hb:b<=n)(gT:Bd lo a 0)(je:Bd hi b n) :
  ∃ x',qq es x lo hi none=some x'/\Rw H es x' ((l.drop (a*es)).take ((b-a)*es))/\∀ j∈ak x',j∈ak x:=by
 cases h with
 | nil=>
  have hn:n=0:=by
   simp only[ads] at hl
   rcases Nat.mul_eq_zero.1 hl.symm with q | q<;>omega
  subst hn
  have mO:b=0:=by omega
  have RE:a=0:=by omega
  subst mO;subst RE
  refine⟨.ah,?_,by simpa using Rw.nil,fun j hj=>hj⟩
  unfold qq
  simp only[ze (aaH 0) (aaH 0) (aaH 0) gT je];rfl
 | @emp i off=>
  have hn:n=0:=by
   simp only[ads] at hl
   rcases Nat.mul_eq_zero.1 hl.symm with q | q<;>omega
  subst hn
  have mO:b=0:=by omega
  have RE:a=0:=by omega
  subst mO;subst RE
  refine⟨.slice i (off+0*es) 0 0 true es,?_,by simpa using Rw.emp,fun j hj=>by cases hj⟩
  unfold qq
  simp only[ze (aaH 0) (aaH 0) (aaH 0) gT je]
  simp
 | @mk i off m cap ex l hr hn hc he=>
  have hm:m=n:=Nat.eq_of_mul_eq_mul_right dy (hn.symm.trans hl)
  subst hm
  refine⟨.slice i (off+a*es) (b-a) (cap-a) ex es,?_,?_,?_⟩
  ·unfold qq
   simp only[ze vw hb hc gT je,adu]
   simp
  ·cases hq:(ex&&Nat.beq (cap-a) 0) with
   | true=>
    rw[aaG] at hq
    obtain⟨rfl,h0⟩:=hq
    have h0:=aa9 h0
    have hba:b-a=0:=by omega
    rw[h0,hba,ahk,ah5]
    exact .emp
   | false=>
    have h1:a*es<=l.length:=by rw[hl];exact aeF _ (by omega)
    refine .mk ((hr.drop (a*es) h1).take _) ?_ (by omega) hq
    rw[ael,afK,hl,<-Nat.sub_mul]
    exact Nat.min_eq_left (aeF _ (by omega))
  ·intro j hj
   rw[my he]
   simp only[ak] at hj
   cases hq:(ex&&Nat.beq (cap-a) 0)<;>rw[hq] at hj
   ·exact hj
   ·cases hj
theorem Jg {k:List Nat}:∀ (es:List ME) (i:Nat),(∀ e∈es,∃ q,e.key = .str q/\q≠k)->fk .str (.str k) es i=some none
 | [],i,_=>rfl
 | e::es,i,h=>by
  obtain⟨q,h1,h2⟩:=h e (.head _)
  have:xh .str (.str k) e.key=some false:=by
   rw[h1]
   show some (k==q)=some false
   rw[beq_false_of_ne (fun x=>h2 x.symm)]
  unfold fk
  rw[this]
  exact Jg es (i+1) (fun e he=>h e (.tail _ he))
theorem acb {k:List Nat}:∀ es:List ME,(∀ e∈es,∃ q,e.key = .str q/\q≠k)->nk .str (.str k) es=true
 | [],h=>rfl
 | e::es,h=>by
  obtain⟨q,h1,h2⟩:=h e (.head _)
  have:xh .str (.str k) e.key=some false:=by
   rw[h1]
   show some (k==q)=some false
   rw[beq_false_of_ne (fun x=>h2 x.symm)]
  unfold nk
  rw[this]
  exact acb es (fun e he=>h e (.tail _ he))
theorem Si {k:List Nat}{e:ME}{b:List ME}(hk:e.key = .str k)(hb:∀ e∈b,∃ q,e.key = .str q/\q≠k):∀ (a:List ME) (i:Nat),(∀ e∈a,∃ q,e.key = .str q/\q≠k)->fk .str (.str k) (a++e::b) i=some (some (i+a.length,e))
 | [],i,_=>by
  have:xh .str (.str k) e.key=some true:=by
   rw[hk]
   show some (k==k)=some true
   rw[beq_self_eq_true]
  show fk .str (.str k) (e::b) i=_
  unfold fk
  rw[this,acb b hb];rfl
 | x::a,i,h=>by
  obtain⟨q,h1,h2⟩:=h x (.head _)
  have:xh .str (.str k) x.key=some false:=by
   rw[h1]
   show some (k==q)=some false
   rw[beq_false_of_ne (fun x=>h2 x.symm)]
  show fk .str (.str k) (x::(a++e::b)) i=_
  unfold fk
  rw[this]
  simp only
  rw[Si hk hb a (i+1) (fun e he=>h e (.tail _ he)),aaN]
  congr 3;omega
theorem Ge {H:Hp}{i:Nat}{es:List ME}{c:Nat}(h:Mp H i es c):mapOf H (.map i)=some (es,c):=by
 unfold mapOf
 simp only[h.2]
theorem YO {H:Hp}{i:Nat}{es:List ME}{c:Nat}{k:List Nat}(h:Mp H i es c)(hk:∀ e∈es,∃ q,e.key = .str q/\q≠k)(z:AV)(ok:Bool):uz .str z ok (.map i) (.str k) H=some (bif ok then .tuple [z,.bool false] else z):=by
 unfold uz
 rw[Ge h]
 simp only[Jg es 0 hk]
theorem Xm {H:Hp}{i:Nat}{a b:List ME}{e:ME}{c:Nat}{k:List Nat}(h:Mp H i (a++e::b) c)(he:e.key = .str k)(hk:∀ e∈a,∃ q,e.key = .str q/\q≠k)(hb:∀ e∈b,∃ q,e.key = .str q/\q≠k)(z:AV)(ok:Bool) :
  uz .str z ok (.map i) (.str k) H=some (bif ok then .tuple [e.val,.bool true] else e.val):=by
 unfold uz
 rw[Ge h]
 simp only[Si he hb a 0 hk]
theorem Mp.set {H:Hp}{i:Nat}{es:List ME}{c:Nat}(h:Mp H i es c)(aL:List ME)(c':Nat):Mp (setObj H i (.map aL c')) i aL c'/\Out [i] H (setObj H i (.map aL c')):=
 ⟨⟨h.1,by rw[Lj,if_pos rfl]⟩,aaH _,fun j _ hn=>by rw[Lj,if_neg (by simpa using hn)]⟩
theorem aam {H:Hp}{i:Nat}{es:List ME}{c:Nat}{k:List Nat}(h:Mp H i es c)(hk:∀ e∈es,∃ q,e.key = .str q/\q≠k)(v:AV) :
  ∃ H',th .str (.map i) (.str k) v H=some H'/\Mp H' i (es++[⟨.str k,v,c⟩]) (c+1)/\Out [i] H H':=by
 refine⟨_,?_,h.set _ _⟩
 unfold th
 simp only[h.2,Jg es 0 hk]
theorem afE {H:Hp}{i:Nat}{a b:List ME}{e:ME}{c:Nat}{k:List Nat}(h:Mp H i (a++e::b) c)(he:e.key = .str k)(hk:∀ e∈a,∃ q,e.key = .str q/\q≠k)(hb:∀ e∈b,∃ q,e.key = .str q/\q≠k)(v:AV) :
  ∃ H',th .str (.map i) (.str k) v H=some H'/\Mp H' i (a++{ e with key := .str k,val:=v }::b) c/\Out [i] H H':=by
 refine⟨_,?_,h.set _ _⟩
 unfold th
 have hs:Aj e.key (.str k)=true:=by rw[he];simp[Aj,Fk]
 simp only[h.2,Si he hb a 0 hk,hs,cond_true]
 simp
theorem yh {es i off n cap:Nat}{ex:Bool}{k:IntKind}{j:Nat}(h:j<n):ia es (.slice i off n cap ex es) (.int k j)=some (.ptr i (off+j*es)):=by
 unfold ia
 simp only
 rw[if_pos ⟨trivial,by omega,by omega⟩,acT]
theorem lf (x:R):qE true x=x:=aaw rfl (id rfl)
theorem tP (z:List AV):fl z []=some z:=aaw rfl (id rfl)
theorem Ht {P:Program}{T el:Nat}(hT:P.underlying T=some (.slice el))(H:Hp):eA P .eql T .ah .ah H=some (.bool true):=by
 unfold eA dC
 simp only[hT];rfl
theorem HR {P:Program}{T el:Nat}(hT:P.underlying T=some (.slice el))(i o n c:Nat)(ex:Bool)(es:Nat)(H:Hp):eA P .eql T (.slice i o n c ex es) .ah H=some (.bool false):=by
 unfold eA dC
 simp only[hT];rfl
theorem Ez (P:Program)(T:Nat)(c:Bool):gA P .eql T c .ah .ah=true:=aaw rfl (id rfl)
theorem F3 (P:Program)(T:Nat)(c:Bool)(i o n k:Nat)(ex:Bool)(es:Nat):gA P .eql T c (.slice i o n k ex es) .ah=true:=aaw rfl (id rfl)
theorem anM (P:Program)(t:Array TypeId)(k j:IntKind)(a b:Int)(H:Hp):gG P .max t [.int k a,.int j b] H=some (.int k (if a<b then b else a),H):=aaw rfl (id rfl)
theorem Av (P:Program)(t:Array TypeId)(k j:IntKind)(a b:Int)(H:Hp):gG P .min t [.int k a,.int j b] H=some (.int k (if b<a then b else a),H):=aaw rfl (id rfl)
theorem Rw.mb {H:Hp}{x:AV}{l:List AV}(h:Rw H 1 x l){i:Nat}{v:AV}(hv:l[i]? = some v)(k:IntKind):∃ q,ia 1 x (.int k i)=some q/\ld q H=some v:=by
 cases h with
 | nil=>cases hv
 | emp=>cases hv
 | @mk j off n cap ex l hr hn hc he=>
  have hi:=(aas.1 hv).1
  refine⟨.ptr j (off+i),?_,hr.ld hv⟩
  have gX:i<n:=by omega
  rw[yh gX,agf]
end K
end Go.Proofs.YtodfajmihkagnaaGreatDoor.Am
