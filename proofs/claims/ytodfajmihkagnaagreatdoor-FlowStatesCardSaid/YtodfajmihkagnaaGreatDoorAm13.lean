/- Laws by which a plain form is run; rows and cells of the symbolic heap (of no program). -/
import Derived.Test.YtodfajmihkagnaaGreatDoorAm12
set_option linter.unusedVariables false
set_option linter.unusedSimpArgs false
namespace Go.Proofs.YtodfajmihkagnaaGreatDoor.Am
set_option linter.unusedVariables false
set_option linter.unusedSimpArgs false
namespace K
section
variable {α:Type}
theorem X2 (v:α)(k:α->R):B1 (some v) k=k v:=aaK rfl (id rfl)
theorem XH (v:AV)(H:Hp)(k:AV->Hp->R):B2 (some (v,H)) k=k v H:=aaK rfl (id rfl)
theorem afb (v:Nat)(H:Hp)(k:Nat->Hp->R):BN (some (v,H)) k=k v H:=aaK rfl (id rfl)
end
theorem X8 (f:(Hp->R)->R)(k:Hp->R):JN 0 f k=f k:=aaK rfl (id rfl)
theorem aav (f:(AV->Hp->R)->R)(k:AV->Hp->R):JN 1 f k=f k:=aaK rfl (id rfl)
theorem Yi (f:(AV->AV->Hp->R)->R)(k:AV->AV->Hp->R):JN 2 f k=f k:=aaK rfl (id rfl)
theorem acA (f:(AV->AV->AV->Hp->R)->R)(k:AV->AV->AV->Hp->R):JN 3 f k=f k:=aaK rfl (id rfl)
theorem V9 (f:(AV->AV->AV->AV->Hp->R)->R)(k:AV->AV->AV->AV->Hp->R):JN 4 f k=f k:=aaK rfl (id rfl)
theorem aa9 (f:(AV->AV->AV->AV->AV->Hp->R)->R)(k:AV->AV->AV->AV->AV->Hp->R):JN 5 f k=f k:=aaK rfl (id rfl)
theorem VX (f:(AV->AV->AV->AV->AV->AV->Hp->R)->R)(k:AV->AV->AV->AV->AV->AV->Hp->R):JN 6 f k=f k:=aaK rfl (id rfl)
theorem adu (f:(AV->AV->AV->AV->AV->AV->AV->Hp->R)->R)(k:AV->AV->AV->AV->AV->AV->AV->Hp->R):JN 7 f k=f k:=aaK rfl (id rfl)
theorem Xd (f:(AV->AV->AV->AV->AV->AV->AV->AV->Hp->R)->R)(k:AV->AV->AV->AV->AV->AV->AV->AV->Hp->R):JN 8 f k=f k:=aaK rfl (id rfl)
theorem XM (f:(AV->AV->AV->AV->AV->AV->AV->AV->AV->Hp->R)->R)(k:AV->AV->AV->AV->AV->AV->AV->AV->AV->Hp->R):JN 9 f k=f k:=aaK rfl (id rfl)
theorem aan (f:(AV->AV->AV->AV->AV->AV->AV->AV->AV->AV->Hp->R)->R)(k:AV->AV->AV->AV->AV->AV->AV->AV->AV->AV->Hp->R):JN 10 f k=f k:=aaK rfl (id rfl)
theorem YM (f:(AV->AV->AV->AV->AV->AV->AV->AV->AV->AV->AV->Hp->R)->R)(k:AV->AV->AV->AV->AV->AV->AV->AV->AV->AV->AV->Hp->R):JN 11 f k=f k:=aaK rfl (id rfl)
theorem V6 (f:(AV->AV->AV->AV->AV->AV->AV->AV->AV->AV->AV->AV->Hp->R)->R)(k:AV->AV->AV->AV->AV->AV->AV->AV->AV->AV->AV->AV->Hp->R):JN 12 f k=f k:=aaK rfl (id rfl)
theorem acV (f:(AV->AV->AV->AV->AV->AV->AV->AV->AV->AV->AV->AV->AV->Hp->R)->R)(k:AV->AV->AV->AV->AV->AV->AV->AV->AV->AV->AV->AV->AV->Hp->R):JN 13 f k=f k:=aaK rfl (id rfl)
theorem abf (f:(AV->AV->AV->AV->AV->AV->AV->AV->AV->AV->AV->AV->AV->AV->Hp->R)->R)(k:AV->AV->AV->AV->AV->AV->AV->AV->AV->AV->AV->AV->AV->AV->Hp->R):JN 14 f k=f k:=aaK rfl (id rfl)
theorem afm (f:(AV->AV->AV->AV->AV->AV->AV->AV->AV->AV->AV->AV->AV->AV->AV->Hp->R)->R)(k:AV->AV->AV->AV->AV->AV->AV->AV->AV->AV->AV->AV->AV->AV->AV->Hp->R):JN 15 f k=f k:=aaK rfl (id rfl)
theorem afz (f:(AV->AV->AV->AV->AV->AV->AV->AV->AV->AV->AV->AV->AV->AV->AV->AV->Hp->R)->R)(k:AV->AV->AV->AV->AV->AV->AV->AV->AV->AV->AV->AV->AV->AV->AV->AV->Hp->R):JN 16 f k=f k:=aaK rfl (id rfl)
theorem adq (f:(AV->AV->AV->AV->AV->AV->AV->AV->AV->AV->AV->AV->AV->AV->AV->AV->AV->Hp->R)->R)(k:AV->AV->AV->AV->AV->AV->AV->AV->AV->AV->AV->AV->AV->AV->AV->AV->AV->Hp->R):JN 17 f k=f k:=aaK rfl (id rfl)
theorem ac1 (f:(AV->AV->AV->AV->AV->AV->AV->AV->AV->AV->AV->AV->AV->AV->AV->AV->AV->AV->Hp->R)->R)(k:AV->AV->AV->AV->AV->AV->AV->AV->AV->AV->AV->AV->AV->AV->AV->AV->AV->AV->Hp->R):JN 18 f k=f k:=aaK rfl (id rfl)
theorem aaM (f:(AV->AV->AV->AV->AV->AV->AV->AV->AV->AV->AV->AV->AV->AV->AV->AV->AV->AV->AV->Hp->R)->R)(k:AV->AV->AV->AV->AV->AV->AV->AV->AV->AV->AV->AV->AV->AV->AV->AV->AV->AV->AV->Hp->R):JN 19 f k=f k:=aaK rfl (id rfl)
theorem ac6 (f:(AV->AV->AV->AV->AV->AV->AV->AV->AV->AV->AV->AV->AV->AV->AV->AV->AV->AV->AV->AV->Hp->R)->R)(k:AV->AV->AV->AV->AV->AV->AV->AV->AV->AV->AV->AV->AV->AV->AV->AV->AV->AV->AV->AV->Hp->R):JN 20 f k=f k:=aaK rfl (id rfl)
theorem adS (f:(AV->AV->AV->AV->AV->AV->AV->AV->AV->AV->AV->AV->AV->AV->AV->AV->AV->AV->AV->AV->AV->Hp->R)->R)(k:AV->AV->AV->AV->AV->AV->AV->AV->AV->AV->AV->AV->AV->AV->AV->AV->AV->AV->AV->AV->AV->Hp->R):JN 21 f k=f k:=aaK rfl (id rfl)
theorem YB (f:(AV->AV->AV->AV->AV->AV->AV->AV->AV->AV->AV->AV->AV->AV->AV->AV->AV->AV->AV->AV->AV->AV->Hp->R)->R)(k:AV->AV->AV->AV->AV->AV->AV->AV->AV->AV->AV->AV->AV->AV->AV->AV->AV->AV->AV->AV->AV->AV->Hp->R):JN 22 f k=f k:=aaK rfl (id rfl)
theorem WY (f:(AV->AV->AV->AV->AV->AV->AV->AV->AV->AV->AV->AV->AV->AV->AV->AV->AV->AV->AV->AV->AV->AV->AV->Hp->R)->R)(k:AV->AV->AV->AV->AV->AV->AV->AV->AV->AV->AV->AV->AV->AV->AV->AV->AV->AV->AV->AV->AV->AV->AV->Hp->R):JN 23 f k=f k:=aaK rfl (id rfl)
theorem XB (f:(AV->AV->AV->AV->AV->AV->AV->AV->AV->AV->AV->AV->AV->AV->AV->AV->AV->AV->AV->AV->AV->AV->AV->AV->Hp->R)->R)(k:AV->AV->AV->AV->AV->AV->AV->AV->AV->AV->AV->AV->AV->AV->AV->AV->AV->AV->AV->AV->AV->AV->AV->AV->Hp->R):JN 24 f k=f k:=aaK rfl (id rfl)
theorem YA (x y:R):CD (.bool true) x y=x:=aaK rfl (id rfl)
theorem aeT (x y:R):CD (.bool false) x y=y:=aaK rfl (id rfl)
theorem I6 (b:Bool)(x y:R):CD (.bool b) x y=if b then x else y:=by cases b<;>rfl
theorem Xa (f:(AV->Hp->R)->R)(k:AV->Hp->R)(H:Hp):GO (.bool true) true f k H=f k:=aaK rfl (id rfl)
theorem acn (f:(AV->Hp->R)->R)(k:AV->Hp->R)(H:Hp):GO (.bool false) true f k H=k cq H:=aaK rfl (id rfl)
theorem Wn (f:(AV->Hp->R)->R)(k:AV->Hp->R)(H:Hp):GO (.bool true) false f k H=k cq H:=aaK rfl (id rfl)
theorem ZP (f:(AV->Hp->R)->R)(k:AV->Hp->R)(H:Hp):GO (.bool false) false f k H=f k:=aaK rfl (id rfl)
theorem Xr (f:(AV->Hp->R)->R)(k:AV->Hp->R)(H:Hp):GO cq true f k H=k cq H:=aaK rfl (id rfl)
theorem VW (f:(AV->Hp->R)->R)(k:AV->Hp->R)(H:Hp):GO cq false f k H=k cq H:=aaK rfl (id rfl)
theorem W6 (x y:R):gZ (.bool true) true x y=x:=aaK rfl (id rfl)
theorem abq (x y:R):gZ (.bool false) true x y=y:=aaK rfl (id rfl)
theorem VE (x y:R):gZ (.bool true) false x y=y:=aaK rfl (id rfl)
theorem adv (x y:R):gZ (.bool false) false x y=x:=aaK rfl (id rfl)
theorem adm (a b:AV):pk (.bool true) a b=some a:=aaK rfl (id rfl)
theorem acK (a b:AV):pk (.bool false) a b=some b:=aaK rfl (id rfl)
theorem YE (i o:Nat):aT (.ptr i o)=some (.ptr i o):=aaK rfl (id rfl)
theorem XD (t:TypeId)(v:AV):aT (.iface t v)=some (.iface t v):=aaK rfl (id rfl)
theorem Y5 (off i o:Nat):fa off (.ptr i o)=some (.ptr i (o+off)):=aaK rfl (id rfl)
theorem abz (off:Nat)(l:List AV):fd off (.agg l)=l[off]? := aaK rfl (id rfl)
theorem ab7 (i:Nat)(l:List AV):ex i (.tuple l)=l[i]? := aaK rfl (id rfl)
theorem Zh (k:IntKind)(a b:Int):bU (.int k a) (.int k b)=some (.int k (k.wrap (a+b))):=by simp[bU,ii]
theorem Xb (k:IntKind)(a b:Int):nW (.int k a) (.int k b)=some (.int k (k.wrap (a-b))):=by simp[nW,ii]
theorem afH (k:IntKind)(a b:Int):xY (.int k a) (.int k b)=some (.int k (k.wrap (a*b))):=by simp[xY,ii]
theorem abk (k:IntKind)(a b:Int):cl (.int k a) (.int k b)=some (.bool (a==b)):=by simp[cl,ii]
theorem acf (k:IntKind)(a b:Int):eT (.int k a) (.int k b)=some (.bool (a != b)):=by simp[eT,ii]
theorem aay (k:IntKind)(a b:Int):bX (.int k a) (.int k b)=some (.bool (a<b)):=by simp[bX,ii]
theorem abm (k:IntKind)(a b:Int):oJ (.int k a) (.int k b)=some (.bool (a<=b)):=by simp[oJ,ii]
theorem abi (k:IntKind)(a b:Int):jA (.int k a) (.int k b)=some (.bool (b<a)):=by simp[jA,ii]
theorem On (k:IntKind)(a b:Int):mH (.int k a) (.int k b)=some (.bool (b<=a)):=by simp[mH,ii]
theorem ago (k:IntKind)(a b:Int)(h:b≠0):Df (.int k a) (.int k b)=some (.int k (k.wrap (a.tdiv b))):=by simp[Df,ii,h]
theorem afP (a b:List Nat):seq (.str a) (.str b)=some (.bool (a==b)):=aaK rfl (id rfl)
theorem afp (a b:List Nat):qL (.str a) (.str b)=some (.bool (!(a==b))):=aaK rfl (id rfl)
theorem Y7 (a b:List Nat):slt (.str a) (.str b)=some (.bool (qP a b)):=aaK rfl (id rfl)
theorem yA {a b:List Nat}(h:a.length+b.length<=4294967296):so (.str a) (.str b)=some (.str (a++b)):=by
 have:Nat.ble (a.length+b.length) 4294967296=true:=afV.mpr h
 simp[so,ss,this]
theorem VF (s:List Nat):lens (.str s)=some (.int .i64 s.length):=aaK rfl (id rfl)
theorem VY:aK .ae=some (.int .i64 0):=aaK rfl (id rfl)
theorem afD (i o n c:Nat)(x:Bool)(es:Nat):aK (.slice i o n c x es)=some (.int .i64 n):=aaK rfl (id rfl)
theorem Zg (a b:Bool):bb .eql (.bool a) (.bool b)=some (.bool (a==b)):=aaK rfl (id rfl)
theorem adP (a b:Bool):bb .neq (.bool a) (.bool b)=some (.bool (!(a==b))):=aaK rfl (id rfl)
theorem acC (b:Bool):eu .not (.bool b)=some (.bool !b):=aaK rfl (id rfl)
theorem YG (k j:IntKind)(n:Int):cv k (.int j n)=some (.int k (k.wrap n)):=aaK rfl (id rfl)
theorem aaB (H:Hp):pe .dR .dR H=some true:=aaK rfl (id rfl)
theorem acQ (i o:Nat)(H:Hp):pe .dR (.ptr i o) H=some false:=aaK rfl (id rfl)
theorem afB (i o:Nat)(H:Hp):pe (.ptr i o) .dR H=some false:=aaK rfl (id rfl)
theorem ZO (b:Bool):BT .eql (some b)=some (.bool b):=aaK rfl (id rfl)
theorem afo (b:Bool):BT .neq (some b)=some (.bool !b):=aaK rfl (id rfl)
theorem ft {a b:AV}{x:R}(h:same a b=true):SM a b x=x:=by simp[SM,h]
theorem wrap_i64 {a:Int}(h : -9223372036854775808<=a)(k:a<=9223372036854775807):IntKind.wrap .i64 a=a:=by
 simp only[IntKind.wrap,IntKind.bits,IntKind.signed]
 simp
 omega
theorem z6 {P:Program}{ext:Nat->Option Ext}{aR:Nat->Option Prim}{an:Nat->An}{bg:Nat}{p:Prim}{args:List AV}{H:Hp}{r:AV × Hp}(hp:aR bg=some p)(h:p args H=some r) :
  CK P (sJ P) ext aR an (.func (.func bg) [] []) args H=some r:=by
 refine UP Ov ?_
 unfold ym
 simp only[hp,ai6,af9]
 exact h
def Cs (H:Hp)(i:Nat)(l:List AV)(el fl:Nat):Prop:=i<H.next/\∃ c,H.h.get i=some (.cells c 0 l.length el fl)/\∀ k v,l[k]? = some v->c.get k=some v
def Mp (H:Hp)(i:Nat)(es:List ME)(c:Nat):Prop:=i<H.next/\H.h.get i=some (.map es c)
def Out (S:List Nat)(H H':Hp):Prop:=H.next<=H'.next/\∀ j,j<H.next->j∉S->H'.h.get j=H.h.get j
theorem Out.refl (S:List Nat)(H:Hp):Out S H H:=⟨aaU _,fun _ _ _=>rfl⟩
theorem Out.trans {S:List Nat}{H H' lH:Hp}(h:Out S H H')(k:Out S H' lH):Out S H lH:=
 ⟨ahS h.1 k.1,fun j hj hs=>(k.2 j (aew hj h.1) hs).trans (h.2 j hj hs)⟩
theorem Out.mono {S S':List Nat}{H H':Hp}(h:Out S H H')(k:∀ j∈S,j∈S'):Out S' H H':=⟨h.1,fun j hj hs=>h.2 j hj fun q=>hs (k j q)⟩
theorem Out.then {S S':List Nat}{H H' lH:Hp}(h:Out S H H')(k:Out S' H' lH)(hs:∀ j∈S',j∈S\/H.next<=j):Out S H lH:=
 ⟨ahS h.1 k.1,fun j hj hn=>(k.2 j (aew hj h.1) fun q=>(hs j q).elim hn (by omega)).trans (h.2 j hj hn)⟩
theorem Cs.out {H H':Hp}{i:Nat}{l:List AV}{el fl:Nat}{S:List Nat}(h:Cs H i l el fl)(k:Out S H H')(hi:i∉S):Cs H' i l el fl:=
 ⟨aew h.1 k.1,by rw[k.2 i h.1 hi];exact h.2⟩
theorem Mp.out {H H':Hp}{i:Nat}{es:List ME}{c:Nat}{S:List Nat}(h:Mp H i es c)(k:Out S H H')(hi:i∉S):Mp H' i es c:=
 ⟨aew h.1 k.1,by rw[k.2 i h.1 hi];exact h.2⟩
theorem Cs.cellAt {H:Hp}{i:Nat}{l:List AV}{el fl:Nat}(h:Cs H i l el fl){o:Nat}{v:AV}(hv:l[o]? = some v):cellAt H i o=some v:=by
 obtain⟨_,c,hc,hg⟩:=h
 have ho:o<l.length:=(aaw.1 hv).1
 unfold Am.cellAt
 rw[hc]
 have hb:(Nat.ble 0 o&&Nat.blt o l.length)=true:=by
  rw[aaT,afV,ae2];omega
 simp only[hb,cond_true]
 exact hg o v hv
theorem Cs.ld {H:Hp}{i:Nat}{l:List AV}{el fl:Nat}(h:Cs H i l el fl){o:Nat}{v:AV}(hv:l[o]? = some v):ld (.ptr i o) H=some v:=h.cellAt hv
theorem Cs.aq {H:Hp}{i:Nat}{l:List AV}{el fl:Nat}(h:Cs H i l el fl):∀ (n o:Nat),o+n<=l.length->aq H i o n=some ((l.drop o).take n)
 | 0,o,_=>by simp[Am.aq]
 | n+1,o,hn=>by
  have ho:o<l.length:=by omega
  have h1:=h.cellAt (o:=o) (v:=l[o]) (aaC ho)
  have h2:=h.aq n (o+1) (by omega)
  unfold Am.aq
  rw[h1,h2,aik ho]
  rfl
theorem M6 (H:Hp)(i j:Nat)(o:AO):(setObj H i o).h.get j=if j=i then some o else H.h.get j:=Tr.fH _ _ _ _
theorem Qd {H:Hp}{i:Nat}{l:List AV}{el fl:Nat}(h:Cs H i l el fl)(hf:fl<=1){o:Nat}(ho:o<l.length){v:AV}(hv:bq v=true) :
  ∃ H',setCell H i o v=some H'/\Cs H' i (l.set o v) el fl/\Out [i] H H'/\H'.next=H.next:=by
 obtain⟨hi,c,hc,hg⟩:=h
 have hs:(c.get o).isSome=true:=by rw[hg o l[o] (aaC ho)];rfl
 have hb:(Nat.ble 0 o&&Nat.blt o l.length&&Nat.ble fl 1&&(c.get o).isSome&&bq v)=true:=by
  simp only[aaT,afV,ae2];exact⟨⟨⟨⟨by omega,ho⟩,hf⟩,hs⟩,hv⟩
 refine⟨{ H with h:=H.h.df i (.cells (c.df o v) 0 l.length el fl) },?_,⟨hi,c.df o v,?_,?_⟩,⟨aaU _,?_⟩,rfl⟩
 ·unfold setCell
  rw[hc]
  simp only[hb,cond_true]
 ·show (Tr.df H.h i _).get i=_
  rw[Tr.df,Tr.fH,if_pos rfl,adU]
 ·intro k u hk
  rw[Tr.df,Tr.fH]
  by_cases Rp:k=o
  ·subst Rp
   rw[ahC (by omega)] at hk
   rw[if_pos rfl]
   exact hk
  ·rw[aj5 (fun q=>Rp q.symm)] at hk
   rw[if_neg Rp]
   exact hg k u hk
 ·intro j hj hn
  show (Tr.df H.h i _).get j=_
  rw[Tr.df,Tr.fH,if_neg (by simpa using hn)]
theorem fP {H:Hp}{i:Nat}{l:List AV}{el fl:Nat}(h:Cs H i l el fl)(hf:fl<=1){o:Nat}(ho:o<l.length){v:AV}(hv:bq v=true) :
  ∃ H',st 1 (.ptr i o) v H=some H'/\Cs H' i (l.set o v) el fl/\Out [i] H H'/\H'.next=H.next:=by
 obtain⟨H',h1,h2,h3,h4⟩:=Qd h hf ho hv
 refine⟨H',?_,h2,h3,h4⟩
 have hc:rK v=some [v]:=by cases v<;>first | rfl | cases hv
 unfold st
 simp only[hc]
 show setCells H i o [v]=_
 simp only[setCells,h1,acy,acF]
theorem aab (H:Hp)(l:List AV)(el fl:Nat)(hl:l.length<=16777216):∃ H',aC H l el fl=some (H.next,H')/\Cs H' H.next l el fl/\Out [] H H'/\H'.next=H.next+1:=by
 refine⟨⟨H.h.put 34 H.next (.cells (Tr.cJ .nil 0 l) 0 l.length el fl),H.next+1⟩,?_,⟨ah3 _,Tr.cJ .nil 0 l,?_,?_⟩,⟨ahU _,?_⟩,rfl⟩
 ·unfold aC alloc
  have:Nat.ble l.length 16777216=true:=afV.mpr hl
  rw[this];rfl
 ·show (Tr.put 34 H.h H.next _).get H.next=_
  rw[Tr.put,Tr.fH,if_pos rfl]
 ·intro k v hk
  rw[yK]
  have:=(aaw.1 hk).1
  rw[if_pos (by omega)];exact hk
 ·intro j hj _
  show (Tr.put 34 H.h H.next _).get j=_
  rw[Tr.put,Tr.fH,if_neg (by omega)]
theorem NK (H:Hp):∃ H',zW H=some (H.next,H')/\Mp H' H.next [] 0/\Out [] H H'/\H'.next=H.next+1:=by
 refine⟨⟨H.h.put 34 H.next (.map [] 0),H.next+1⟩,rfl,⟨ah3 _,?_⟩,⟨ahU _,?_⟩,rfl⟩
 ·show (Tr.put 34 H.h H.next _).get H.next=_
  rw[Tr.put,Tr.fH,if_pos rfl]
 ·intro j hj _
  show (Tr.put 34 H.h H.next _).get j=_
  rw[Tr.put,Tr.fH,if_neg (by omega)]
def Ro (H:Hp)(i off:Nat)(l:List AV):Prop:=i<H.next/\∃ c lo hi el fl,H.h.get i=some (.cells c lo hi el fl)/\lo<=off/\off+l.length<=hi/\∀ k v,l[k]? = some v->c.get (off+k)=some v
theorem Cs.ro {H:Hp}{i:Nat}{l:List AV}{el fl:Nat}(h:Cs H i l el fl):Ro H i 0 l:=by
 obtain⟨hi,c,hc,hg⟩:=h
 exact⟨hi,c,0,l.length,el,fl,hc,aaU _,by omega,fun k v hk=>by rw[aeJ];exact hg k v hk⟩
theorem Ro.out {H H':Hp}{i off:Nat}{l:List AV}{S:List Nat}(h:Ro H i off l)(k:Out S H H')(hi:i∉S):Ro H' i off l:=
 ⟨aew h.1 k.1,by rw[k.2 i h.1 hi];exact h.2⟩
theorem Ro.cellAt {H:Hp}{i off:Nat}{l:List AV}(h:Ro H i off l){k:Nat}{v:AV}(hv:l[k]? = some v):cellAt H i (off+k)=some v:=by
 obtain⟨_,c,lo,hi,el,fl,hc,h1,h2,hg⟩:=h
 have hk:k<l.length:=(aaw.1 hv).1
 unfold Am.cellAt
 rw[hc]
 have hb:(Nat.ble lo (off+k)&&Nat.blt (off+k) hi)=true:=by
  rw[aaT,afV,ae2];omega
 simp only[hb,cond_true]
 exact hg k v hv
theorem Ro.ld {H:Hp}{i off:Nat}{l:List AV}(h:Ro H i off l){k:Nat}{v:AV}(hv:l[k]? = some v):ld (.ptr i (off+k)) H=some v:=h.cellAt hv
theorem Ro.drop {H:Hp}{i off:Nat}{l:List AV}(h:Ro H i off l)(n:Nat)(hn:n<=l.length):Ro H i (off+n) (l.drop n):=by
 obtain⟨hi,c,lo,jc,el,fl,hc,h1,h2,hg⟩:=h
 refine⟨hi,c,lo,jc,el,fl,hc,by omega,by rw[ahT];omega,fun k v hk => ?_⟩
 rw[ahj] at hk
 rw[ajG];exact hg _ v hk
theorem Ro.take {H:Hp}{i off:Nat}{l:List AV}(h:Ro H i off l)(n:Nat):Ro H i off (l.take n):=by
 obtain⟨hi,c,lo,jc,el,fl,hc,h1,h2,hg⟩:=h
 refine⟨hi,c,lo,jc,el,fl,hc,h1,by rw[afs];omega,fun k v hk => ?_⟩
 rw[aiC] at hk
 split at hk
 ·exact hg _ v hk
 ·cases hk
theorem Ro.aq {H:Hp}{i:Nat}:∀ {l:List AV} {off:Nat},Ro H i off l->Am.aq H i off l.length=some l
 | [],off,_=>rfl
 | v::l,off,h=>by
  have h1:=h.cellAt (k:=0) (v:=v) rfl
  have h2:=(h.drop 1 (by simp)).aq
  simp only[List.drop_succ_cons,abK] at h2
  rw[afF] at h1
  rw[aa1]
  unfold Am.aq
  rw[h1,h2]
  rfl
def ah:AV->List Nat
 | .slice i _ _ cap ex _=>bif ex&&Nat.beq cap 0 then [] else [i]
 | .ptr i _=>[i]
 | .map i=>[i]
 | _=>[]
theorem nF {i o n cap es:Nat}{ex:Bool}(h:(ex&&Nat.beq cap 0)=false):ah (.slice i o n cap ex es)=[i]:=by simp only[ah,h,cond_false]
inductive Rw (H:Hp) (es:Nat):AV->List AV->Prop
 | nil:Rw H es .ae []
 | emp {i off:Nat}:Rw H es (.slice i off 0 0 true es) []
 | mk {i off n cap:Nat} {ex:Bool} {l:List AV} (h:Ro H i off l) (hn:l.length=n*es) (hc:n<=cap) (he:(ex&&Nat.beq cap 0)=false):Rw H es (.slice i off n cap ex es) l
theorem Rw.out {H H':Hp}{es:Nat}{x:AV}{l:List AV}{S:List Nat}(h:Rw H es x l)(k:Out S H H')(hi:∀ j∈ah x,j∉S):Rw H' es x l:=by
 cases h with
 | nil=>exact .nil
 | emp=>exact .emp
 | mk h hn hc he=>exact .mk (h.out k (hi _ (by rw[nF he];exact .head _))) hn hc he
theorem Rw.lt {H:Hp}{es:Nat}{x:AV}{l:List AV}(h:Rw H es x l):∀ j∈ah x,j<H.next:=by
 cases h with
 | nil=>intro j hj;cases hj
 | emp=>intro j hj;cases hj
 | mk h hn hc he=>intro j hj;rw[nF he,No] at hj;subst hj;exact h.1
theorem Rw.len {H:Hp}{es:Nat}{x:AV}{l:List AV}(h:Rw H es x l):∃ n:Nat,aK x=some (.int .i64 n)/\l.length=n*es:=by
 cases h with
 | nil=>exact⟨0,rfl,by simp⟩
 | emp=>exact⟨0,rfl,by simp⟩
 | mk h hn hc he=>exact⟨_,rfl,hn⟩
theorem Rw.jn {H:Hp}{x:AV}{l:List AV}(h:Rw H 1 x l):aK x=some (.int .i64 l.length):=by
 obtain⟨n,h1,h2⟩:=h.len
 rw[h1,h2,ahD]
inductive Ow (H:Hp) (el es:Nat):AV->List AV->Prop
 | nil:Ow H el es .ae []
 | emp {i off:Nat}:Ow H el es (.slice i off 0 0 true es) []
 | mk {i off n cap:Nat} {ex:Bool} {l:List AV} {c:Tr AV} {lo hi fl:Nat} (jc:i<H.next) (hg:H.h.get i=some (.cells c lo hi el fl)) (hf:fl<=1) (ij:lo<=off) (jJ:off+cap*es<=hi) (iA:n<=cap) (hn:l.length=n*es)
   (hc:∀ k v,l[k]? = some v->c.get (off+k)=some v) (hs:∀ k,k<cap*es->(c.get (off+k)).isSome=true) (h1:∀ v∈l,bq v=true) (he:(ex&&Nat.beq cap 0)=false):Ow H el es (.slice i off n cap ex es) l
theorem Ow.rw {H:Hp}{el es:Nat}{x:AV}{l:List AV}(h:Ow H el es x l):Rw H es x l:=by
 cases h with
 | nil=>exact .nil
 | emp=>exact .emp
 | @mk i off n cap ex l c lo hi fl jc hg hf ij jJ iA hn hc hs h1 he=>
  exact .mk ⟨jc,c,lo,hi,el,fl,hg,ij,by rw[hn];exact ahS (Nat.add_le_add_left (agV _ iA) _) jJ,hc⟩ hn iA he
theorem Ow.out {H H':Hp}{el es:Nat}{x:AV}{l:List AV}{S:List Nat}(h:Ow H el es x l)(k:Out S H H')(hi:∀ j∈ah x,j∉S):Ow H' el es x l:=by
 cases h with
 | nil=>exact .nil
 | emp=>exact .emp
 | mk jc hg hf ij jJ iA hn hc hs h1 he=>exact .mk (aew jc k.1) (by rw[k.2 _ jc (hi _ (by rw[nF he];exact .head _))];exact hg) hf ij jJ iA hn hc hs h1 he
theorem Ow.one {H:Hp}{el es:Nat}{x:AV}{l:List AV}(h:Ow H el es x l):∀ v∈l,bq v=true:=by
 cases h with
 | nil=>intro v hv;cases hv
 | emp=>intro v hv;cases hv
 | mk _ _ _ _ _ _ _ _ _ h1 _=>exact h1
theorem Cs.ow {H:Hp}{i n:Nat}{l:List AV}{el es fl:Nat}(h:Cs H i l el fl)(hf:fl<=1)(hn:l.length=n*es)(h1:∀ v∈l,bq v=true)(ex:Bool):Ow H el es (.slice i 0 n n ex es) l:=by
 cases hex:(ex&&Nat.beq n 0) with
 | true=>
  rw[aaT] at hex
  obtain⟨rfl,mG⟩:=hex
  obtain rfl:=abI mG
  have:l=[]:=by simpa using hn
  subst this
  exact .emp
 | false=>
 obtain⟨hi,c,hc,hg⟩:=h
 refine .mk hi hc hf (aaU _) (by omega) (aaU _) hn (fun k v hk=>by rw[aeJ];exact hg k v hk) (fun k hk => ?_) h1 hex
 rw[aeJ,hg k l[k] (aaC (by omega))];rfl
theorem LC:∀ (l:List AV) (H:Hp) (i off:Nat) (c:Tr AV) (lo hi el fl:Nat),H.h.get i=some (.cells c lo hi el fl)->fl<=1->lo<=off->off+l.length<=hi->(∀ k,k<l.length->(c.get (off+k)).isSome=true)->(∀ v∈l,bq v=true)->
  ∃ H' c',setCells H i off l=some H'/\H'.next=H.next/\H'.h.get i=some (.cells c' lo hi el fl)/\(∀ j,j≠i->H'.h.get j=H.h.get j)/\∀ k,c'.get k=if off<=k/\k<off+l.length then l[k-off]? else c.get k
 | [],H,i,off,c,lo,hi,el,fl,hg,hf,h1,h2,hs,ho=>⟨H,c,rfl,rfl,hg,fun _ _=>rfl,fun k=>by rw[if_neg (by simp only[acG];omega)]⟩
 | v::l,H,i,off,c,lo,hi,el,fl,hg,hf,h1,h2,hs,ho=>by
  simp only[aa1] at h2
  have xe:=hs 0 (by simp)
  rw[afF] at xe
  have hb:(Nat.ble lo off&&Nat.blt off hi&&Nat.ble fl 1&&(c.get off).isSome&&bq v)=true:=by
   simp only[aaT,afV,ae2];exact⟨⟨⟨⟨h1,by omega⟩,hf⟩,xe⟩,ho v (.head _)⟩
  have e9:setCell H i off v=some { H with h:=H.h.df i (.cells (c.df off v) lo hi el fl) }:=by
   unfold setCell;rw[hg];simp only[hb,cond_true]
  obtain⟨H',c',q1,q2,q3,q4,q5⟩:=LC l { H with h:=H.h.df i (.cells (c.df off v) lo hi el fl) } i (off+1) (c.df off v) lo hi el fl (by
    show (Tr.df H.h i _).get i=_
    rw[Tr.df,Tr.fH,if_pos rfl]) hf (by omega) (by omega) (fun k hk=>by
    rw[Tr.df,Tr.fH]
    split
    ·rfl
    ·have:=hs (k+1) (by simp;omega)
     rw[show off+1+k=off+(k+1) by omega];exact this) (fun u hu=>ho u (.tail _ hu))
  refine⟨H',c',?_,q2,q3,fun j hj => ?_,fun k => ?_⟩
  ·simp only[setCells,e9,acy,acF];exact q1
  ·rw[q4 j hj]
   show (Tr.df H.h i _).get j=_
   rw[Tr.df,Tr.fH,if_neg hj]
  ·rw[q5 k,Tr.df,Tr.fH]
   by_cases hk:k=off
   ·subst hk
    rw[if_neg (by omega),if_pos rfl,if_pos (by simp),aiG];rfl
   ·rw[if_neg hk]
    by_cases gp:off+1<=k/\k<off+1+l.length
    ·rw[if_pos gp,if_pos (by simp;omega),show k-off=(k-(off+1))+1 by omega,adL]
    ·rw[if_neg gp,if_neg (by simp;omega)]
theorem MA {H:Hp}{el es n:Nat}{s:AV}{l new:List AV}(h:Ow H el es s l)(rN:new.length=n*es)(ho:∀ v∈new,bq v=true)(dK:0<es)(hlen:l.length+new.length<=16777216) :
  ∃ s' H',E9 el es n new s H=some (s',H')/\Ow H' el es s' (l++new)/\Out (ah s) H H'/\(∀ j∈ah s',j∈ah s\/H.next<=j):=by
 have lI:∀ v∈l++new,bq v=true:=fun v hv=>(abN.1 hv).elim (h.one v) (ho v)
 have abQ:∀ s0:List Nat,n≠0->l=[]->∃ H',aC H new el 0=some (H.next,H')/\Ow H' el es (.slice H.next 0 n n false es) (l++new)/\Out s0 H H'/\(∀ j∈ah (.slice H.next 0 n n false es),j∈s0\/H.next<=j):=by
  intro s0 hn hl
  subst hl
  obtain⟨H',h1,h2,h3,h4⟩:=aab H new el 0 (by simp only[acG] at hlen;omega)
  refine⟨H',h1,h2.ow (by omega) rN ho false,h3.mono (fun j hj=>by cases hj),fun j hj => ?_⟩
  simp only[ah,acL,cond_false,No] at hj
  exact .inr (by omega)
 cases h with
 | nil=>
  unfold E9
  simp only
  by_cases hn:n=0
  ·subst hn
   have:new=[]:=by simpa using rN
   subst this
   exact⟨.ae,H,rfl,.nil,Out.refl _ _,fun j hj=>by cases hj⟩
  ·rw[pq hn,cond_false]
   have hle:n<=16777216:=by
    have:=Nat.le_mul_of_pos_right n dK
    simp only[acG] at hlen
    omega
   have hb:Nat.ble n 16777216=true:=afV.mpr hle
   rw[hb,cond_true]
   obtain⟨H',h1,h2⟩:=abQ [] hn rfl
   exact⟨_,H',by rw[h1];rfl,h2⟩
 | @emp i off=>
  unfold E9
  have hle:n<=16777216:=by
   have:=Nat.le_mul_of_pos_right n dK
   simp only[acG] at hlen
   omega
  have hb:(Nat.ble (0+n) 16777216&&Nat.beq es es&&new.all bq)=true:=by
   simp only[aaT,afV,wb,aeO]
   exact⟨⟨by omega,trivial⟩,ho⟩
  simp only[hb,cond_true]
  by_cases hn:n=0
  ·subst hn
   have:new=[]:=by simpa using rN
   subst this
   exact⟨.slice i off 0 0 true es,H,rfl,.emp,Out.refl _ _,fun j hj=>by cases hj⟩
  ·have iP:Nat.ble (0+n) 0=false:=by rw[<-ah4,afV];omega
   rw[iP,cond_false]
   obtain⟨H',h1,h2⟩:=abQ (ah (.slice i off 0 0 true es)) hn rfl
   refine⟨.slice H.next 0 n n false es,H',?_,h2⟩
   simp only[aiA,Am.aq,acF,ai6,h1,ae6,aeJ]
 | @mk i off m cap ex l c lo hi fl jc hg hf ij jJ iA hn hc hs h1 he=>
  unfold E9
  have kB:n<=new.length:=by rw[rN];exact Nat.le_mul_of_pos_right n dK
  have EC:m<=l.length:=by rw[hn];exact Nat.le_mul_of_pos_right m dK
  have hb:(Nat.ble (m+n) 16777216&&Nat.beq es es&&new.all bq)=true:=by
   simp only[aaT,afV,wb,aeO]
   exact⟨⟨by omega,trivial⟩,ho⟩
  simp only[hb,cond_true]
  have lW:(l++new).length=(m+n)*es:=by rw[abj,hn,rN,ahJ]
  by_cases UC:m+n<=cap
  ·have iP:Nat.ble (m+n) cap=true:=afV.mpr UC
   rw[iP,cond_true]
   have hr:(m+n)*es<=cap*es:=agV _ UC
   rw[ahJ] at hr
   obtain⟨H',c',q1,q2,q3,q4,q5⟩:=LC new H i (off+m*es) c lo hi el fl hg hf (by omega) (by rw[rN];omega) (fun k hk=>by
    rw[ajG];exact hs _ (by rw[rN] at hk;omega)) ho
   refine⟨_,H',by rw[q1];rfl,.mk (by rw[q2];exact jc) q3 hf ij jJ UC lW (fun k v hk => ?_) (fun k hk => ?_) lI he,⟨by rw[q2];exact aaU _,fun j hj Bx=>q4 j (by rw[nF he] at Bx;simpa using Bx)⟩,fun j hj => .inl (by rw[nF he] at hj ⊢;exact hj)⟩
   ·rw[q5]
    by_cases kO:k<l.length
    ·rw[if_neg (by omega),hc k v (by rw[abX kO] at hk;exact hk)]
    ·rw[ack (by omega)] at hk
     have:=(aaw.1 hk).1
     rw[if_pos (by omega),<-hk];congr 1;omega
   ·rw[q5]
    split
    ·rename_i hq
     rw[aaC (by omega)];rfl
    ·exact hs k hk
  ·have iP:Nat.ble (m+n) cap=false:=by rw[<-ah4,afV];omega
   rw[iP,cond_false]
   cases ex with
   | true=>
    simp only[cond_true]
    have Gz:Ro H i off l:=⟨jc,c,lo,hi,el,fl,hg,ij,by rw[hn];exact ahS (Nat.add_le_add_left (agV _ iA) _) jJ,hc⟩
    have yV:=Gz.aq
    rw[hn] at yV
    rw[yV]
    obtain⟨H',r1,r2,r3,r4⟩:=aab H (l++new) el 0 (by rw[abj];omega)
    refine⟨_,H',by simp only[acF];rw[r1];rfl,r2.ow (by omega) lW lI false,r3.mono (fun j hj=>by cases hj),fun j hj => ?_⟩
    simp only[ah,acL,cond_false,No] at hj
    exact .inr (by omega)
   | false=>
    simp only[cond_false,hg]
    have hr:m*es<=cap*es:=agV _ iA
    have vQ:(Nat.ble fl 1&&Nat.ble lo off&&Nat.ble (off+m*es) hi&&Nat.beq el el)=true:=by
     simp only[aaT,afV,wb]
     exact⟨⟨⟨hf,ij⟩,by omega⟩,trivial⟩
    rw[vQ,cond_true]
    refine⟨_,_,rfl,.mk (c:=c.cJ (off+m*es) new) (lo:=off) (hi:=off+(m+n)*es) (fl:=1) ?_ ?_ (by omega) (aaU _) (aaU _) (aaU _) lW (fun k v hk => ?_) (fun k hk => ?_) lI rfl,⟨?_,fun j hj Bx => ?_⟩,fun j hj => ?_⟩
    ·exact ah3 _
    ·show (Tr.put 34 (H.h.del i) H.next _).get H.next=_
     rw[Tr.put,Tr.fH,if_pos rfl]
    ·rw[Tr.wZ]
     by_cases kO:k<l.length
     ·rw[if_neg (by omega),hc k v (by rw[abX kO] at hk;exact hk)]
     ·rw[ack (by omega)] at hk
      have:=(aaw.1 hk).1
      rw[if_pos (by omega),<-hk];congr 1;omega
    ·rw[Tr.wZ]
     rw[ahJ] at hk
     split
     ·rename_i hq
      rw[aaC (by omega)];rfl
     ·exact hs k (by omega)
    ·exact ahU _
    ·show (Tr.put 34 (H.h.del i) H.next _).get j=_
     rw[Tr.put,Tr.fH,if_neg (by omega),Tr.Sq,if_neg (by rw[nF he] at Bx;simpa using Bx)]
    ·simp only[ah,acL,cond_false,No] at hj
     subst hj
     exact .inr (aaU _)
theorem XW {H:Hp}{el es:Nat}{z:List AV}{s x:AV}{l new:List AV}(h:Ow H el es s l)(hx:Rw H es x new)(ho:∀ v∈new,bq v=true)(dK:0<es)(hlen:l.length+new.length<=16777216) :
  ∃ s' H',eV el es z false s x H=some (s',H')/\Ow H' el es s' (l++new)/\Out (ah s) H H'/\(∀ j∈ah s',j∈ah s\/H.next<=j):=by
 cases hx with
 | nil=>
  obtain⟨s',H',h1,h2⟩:=MA (n:=0) (new:=[]) h (by simp) ho dK hlen
  exact⟨s',H',h1,h2⟩
 | @emp i off=>
  obtain⟨s',H',h1,h2⟩:=MA (n:=0) (new:=[]) h (by simp) ho dK hlen
  refine⟨s',H',?_,h2⟩
  have:Cv es z false (.slice i off 0 0 true es) H=some (0,[]):=by
   show (Am.aq H i off (0*es)).map (fun l=>(0,l))=_
   rw[aiA];rfl
  unfold eV
  rw[this]
  exact h1
 | @mk i off n cap ex l' hr hn hc he=>
  obtain⟨s',H',h1,h2⟩:=MA h hn ho dK hlen
  refine⟨s',H',?_,h2⟩
  have:Cv es z false (.slice i off n cap ex es) H=some (n,new):=by
   show (Am.aq H i off (n*es)).map (fun l=>(n,l))=_
   rw[<-hn,hr.aq];rfl
  unfold eV
  rw[this]
  exact h1
def bs (l:List Nat):List AV:=l.map fun (b:Nat)=>AV.int .u8 b
theorem akI (l:List Nat):∀ v∈bs l,bq v=true:=by
 intro v hv
 obtain⟨b,_,rfl⟩:=adD.1 hv
 rfl
theorem ER (l:List Nat):(bs l).length=l.length:=by simp[bs]
theorem amU (a b:List Nat):bs (a++b)=bs a++bs b:=by simp[bs]
theorem T9:∀ (l:List Nat),(∀ b∈l,b<256)->wX (bs l)=some l
 | [],_=>rfl
 | b::l,h=>by
  have h1:=T9 l (fun x hx=>h x (.tail _ hx))
  have h2:=h b (.head _)
  have h3:(decide (0<=(b:Int))&&decide ((b:Int)<256))=true:=by simp;omega
  show wX (AV.int .u8 (b:Int)::bs l)=_
  unfold wX
  rw[h3,h1]
  simp
theorem aeY {H:Hp}{x:AV}{l:List Nat}(h:Rw H 1 x (bs l))(hl:∀ b∈l,b<256):D8 x H=some (.str l):=by
 generalize jQ:bs l=cs at h
 cases h with
 | nil=>
  have:l=[]:=by simpa[bs] using jQ
  subst this;rfl
 | @emp i off=>
  have:l=[]:=by simpa[bs] using jQ
  subst this;rfl
 | @mk i off n cap ex l' hr hn hc he=>
  rw[ahD] at hn
  unfold D8
  simp only
  by_cases h0:n=0
  ·subst h0
   have:l=[]:=by
    subst jQ
    simpa[bs] using hn
   subst this;rfl
  ·rw[pq h0,cond_false,<-hn,hr.aq,<-jQ]
   simp only[acF,T9 l hl]
   rfl
theorem Ln {k:IntKind}{n lo hi:Nat}(h1:lo<=n)(h2:n<=hi):bound lo hi (.int k n)=some n:=by
 unfold bound
 have:(decide ((lo:Int)<=(n:Int))&&decide ((n:Int)<=(hi:Int)))=true:=by simp;omega
 simp only[this,if_true,acB]
def Bd (o:Option AV)(n apZ:Nat):Prop:=(o=none/\n=apZ)\/∃ k,o=some (.int k n)
theorem Bd.no (n:Nat):Bd none n n := .inl ⟨rfl,rfl⟩
theorem Bd.yes (k:IntKind)(n d:Nat):Bd (some (.int k n)) n d := .inr ⟨k,rfl⟩
theorem Bd.amF (k:IntKind)(d:Nat):Bd (some (.int k 0)) 0 d := .inr ⟨k,rfl⟩
theorem Bo {len cap a b:Nat}{lo hi:Option AV}(xv:a<=b)(hb:b<=len)(hc:len<=cap)(ij:Bd lo a 0)(jJ:Bd hi b len):sC len cap lo hi none=some (a,b,cap):=by
 unfold sC
 rcases jJ with⟨rfl,rfl⟩ | ⟨k,rfl⟩<;>rcases ij with⟨rfl,rfl⟩ | ⟨j,rfl⟩
 ·rfl
 ·simp only[acy,acF,Ln (ace _) xv];rfl
 ·simp only[acy,acF,Ln (ace _) (ahS hb hc)];rfl
 ·simp only[acy,acF,Ln (ace _) (ahS hb hc),Ln (ace _) xv];rfl
theorem ET {H:Hp}{es n a b:Nat}{x:AV}{l:List AV}(h:Rw H es x l)(hl:l.length=n*es)(dK:0<es){lo hi:Option AV}(xv:a<=b)(hb:b<=n)(ij:Bd lo a 0)(jJ:Bd hi b n) :
  ∃ x',qE es x lo hi none=some x'/\Rw H es x' ((l.drop (a*es)).take ((b-a)*es))/\∀ j∈ah x',j∈ah x:=by
 cases h with
 | nil=>
  have hn:n=0:=by
   simp only[acG] at hl
   rcases Nat.mul_eq_zero.1 hl.symm with q | q<;>omega
  subst hn
  have pI:b=0:=by omega
  have TT:a=0:=by omega
  subst pI;subst TT
  refine⟨.ae,?_,by simpa using Rw.nil,fun j hj=>hj⟩
  unfold qE
  simp only[Bo (aaU 0) (aaU 0) (aaU 0) ij jJ];rfl
 | @emp i off=>
  have hn:n=0:=by
   simp only[acG] at hl
   rcases Nat.mul_eq_zero.1 hl.symm with q | q<;>omega
  subst hn
  have pI:b=0:=by omega
  have TT:a=0:=by omega
  subst pI;subst TT
  refine⟨.slice i (off+0*es) 0 0 true es,?_,by simpa using Rw.emp,fun j hj=>by cases hj⟩
  unfold qE
  simp only[Bo (aaU 0) (aaU 0) (aaU 0) ij jJ]
  simp
 | @mk i off m cap ex l hr hn hc he=>
  have hm:m=n:=Nat.eq_of_mul_eq_mul_right dK (hn.symm.trans hl)
  subst hm
  refine⟨.slice i (off+a*es) (b-a) (cap-a) ex es,?_,?_,?_⟩
  ·unfold qE
   simp only[Bo xv hb hc ij jJ,acF]
   simp
  ·cases hq:(ex&&Nat.beq (cap-a) 0) with
   | true=>
    rw[aaT] at hq
    obtain⟨rfl,h0⟩:=hq
    have h0:=abI h0
    have hba:b-a=0:=by omega
    rw[h0,hba,aiA,ai2]
    exact .emp
   | false=>
    have h1:a*es<=l.length:=by rw[hl];exact agV _ (by omega)
    refine .mk ((hr.drop (a*es) h1).take _) ?_ (by omega) hq
    rw[afs,ahT,hl,<-Nat.sub_mul]
    exact Nat.min_eq_left (agV _ (by omega))
  ·intro j hj
   rw[nF he]
   simp only[ah] at hj
   cases hq:(ex&&Nat.beq (cap-a) 0)<;>rw[hq] at hj
   ·exact hj
   ·cases hj
theorem QV {k:List Nat}:∀ (es:List ME) (i:Nat),(∀ e∈es,∃ q,e.key = .str q/\q≠k)->fk .str (.str k) es i=some none
 | [],i,_=>rfl
 | e::es,i,h=>by
  obtain⟨q,h1,h2⟩:=h e (.head _)
  have:zq .str (.str k) e.key=some false:=by
   rw[h1]
   show some (k==q)=some false
   rw[beq_false_of_ne (fun x=>h2 x.symm)]
  unfold fk
  rw[this]
  exact QV es (i+1) (fun e he=>h e (.tail _ he))
theorem abu {k:List Nat}:∀ es:List ME,(∀ e∈es,∃ q,e.key = .str q/\q≠k)->nk .str (.str k) es=true
 | [],h=>rfl
 | e::es,h=>by
  obtain⟨q,h1,h2⟩:=h e (.head _)
  have:zq .str (.str k) e.key=some false:=by
   rw[h1]
   show some (k==q)=some false
   rw[beq_false_of_ne (fun x=>h2 x.symm)]
  unfold nk
  rw[this]
  exact abu es (fun e he=>h e (.tail _ he))
theorem Vv {k:List Nat}{e:ME}{b:List ME}(hk:e.key = .str k)(hb:∀ e∈b,∃ q,e.key = .str q/\q≠k):∀ (a:List ME) (i:Nat),(∀ e∈a,∃ q,e.key = .str q/\q≠k)->fk .str (.str k) (a++e::b) i=some (some (i+a.length,e))
 | [],i,_=>by
  have:zq .str (.str k) e.key=some true:=by
   rw[hk]
   show some (k==k)=some true
   rw[beq_self_eq_true]
  show fk .str (.str k) (e::b) i=_
  unfold fk
  rw[this,abu b hb];rfl
 | x::a,i,h=>by
  obtain⟨q,h1,h2⟩:=h x (.head _)
  have:zq .str (.str k) x.key=some false:=by
   rw[h1]
   show some (k==q)=some false
   rw[beq_false_of_ne (fun x=>h2 x.symm)]
  show fk .str (.str k) (x::(a++e::b)) i=_
  unfold fk
  rw[this]
  simp only
  rw[Vv hk hb a (i+1) (fun e he=>h e (.tail _ he)),aa1]
  congr 3;omega
theorem Hm {H:Hp}{i:Nat}{es:List ME}{c:Nat}(h:Mp H i es c):mapOf H (.map i)=some (es,c):=by
 unfold mapOf
 simp only[h.2]
theorem XJ {H:Hp}{i:Nat}{es:List ME}{c:Nat}{k:List Nat}(h:Mp H i es c)(hk:∀ e∈es,∃ q,e.key = .str q/\q≠k)(z:AV)(ok:Bool):qI .str z ok (.map i) (.str k) H=some (bif ok then .tuple [z,.bool false] else z):=by
 unfold qI
 rw[Hm h]
 simp only[QV es 0 hk]
theorem aef {H:Hp}{i:Nat}{a b:List ME}{e:ME}{c:Nat}{k:List Nat}(h:Mp H i (a++e::b) c)(he:e.key = .str k)(hk:∀ e∈a,∃ q,e.key = .str q/\q≠k)(hb:∀ e∈b,∃ q,e.key = .str q/\q≠k)(z:AV)(ok:Bool) :
  qI .str z ok (.map i) (.str k) H=some (bif ok then .tuple [e.val,.bool true] else e.val):=by
 unfold qI
 rw[Hm h]
 simp only[Vv he hb a 0 hk]
theorem Mp.set {H:Hp}{i:Nat}{es:List ME}{c:Nat}(h:Mp H i es c)(aQ:List ME)(c':Nat):Mp (setObj H i (.map aQ c')) i aQ c'/\Out [i] H (setObj H i (.map aQ c')):=
 ⟨⟨h.1,by rw[M6,if_pos rfl]⟩,aaU _,fun j _ hn=>by rw[M6,if_neg (by simpa using hn)]⟩
theorem adz {H:Hp}{i:Nat}{es:List ME}{c:Nat}{k:List Nat}(h:Mp H i es c)(hk:∀ e∈es,∃ q,e.key = .str q/\q≠k)(v:AV) :
  ∃ H',wP .str (.map i) (.str k) v H=some H'/\Mp H' i (es++[⟨.str k,v,c⟩]) (c+1)/\Out [i] H H':=by
 refine⟨_,?_,h.set _ _⟩
 unfold wP
 simp only[h.2,QV es 0 hk]
theorem ak5 {H:Hp}{i:Nat}{a b:List ME}{e:ME}{c:Nat}{k:List Nat}(h:Mp H i (a++e::b) c)(he:e.key = .str k)(hk:∀ e∈a,∃ q,e.key = .str q/\q≠k)(hb:∀ e∈b,∃ q,e.key = .str q/\q≠k)(v:AV) :
  ∃ H',wP .str (.map i) (.str k) v H=some H'/\Mp H' i (a++{ e with key := .str k,val:=v }::b) c/\Out [i] H H':=by
 refine⟨_,?_,h.set _ _⟩
 unfold wP
 have hs:Dz e.key (.str k)=true:=by rw[he];simp[Dz,JG]
 simp only[h.2,Vv he hb a 0 hk,hs,cond_true]
 simp
theorem Ai {es i off n cap:Nat}{ex:Bool}{k:IntKind}{j:Nat}(h:j<n):ia es (.slice i off n cap ex es) (.int k j)=some (.ptr i (off+j*es)):=by
 unfold ia
 simp only
 rw[if_pos ⟨trivial,by omega,by omega⟩,acB]
theorem og (x:R):xc true x=x:=aaK rfl (id rfl)
theorem rZ (z:List AV):fl z []=some z:=aaK rfl (id rfl)
theorem M1 {P:Program}{T el:Nat}(hT:P.underlying T=some (.slice el))(H:Hp):fe P .eql T .ae .ae H=some (.bool true):=by
 unfold fe dX
 simp only[hT];rfl
theorem NT {P:Program}{T el:Nat}(hT:P.underlying T=some (.slice el))(i o n c:Nat)(ex:Bool)(es:Nat)(H:Hp):fe P .eql T (.slice i o n c ex es) .ae H=some (.bool false):=by
 unfold fe dX
 simp only[hT];rfl
theorem LK (P:Program)(T:Nat)(c:Bool):gA P .eql T c .ae .ae=true:=aaK rfl (id rfl)
theorem Og (P:Program)(T:Nat)(c:Bool)(i o n k:Nat)(ex:Bool)(es:Nat):gA P .eql T c (.slice i o n k ex es) .ae=true:=aaK rfl (id rfl)
theorem amO (P:Program)(t:Array TypeId)(k j:IntKind)(a b:Int)(H:Hp):gS P .max t [.int k a,.int j b] H=some (.int k (if a<b then b else a),H):=aaK rfl (id rfl)
theorem Kl (P:Program)(t:Array TypeId)(k j:IntKind)(a b:Int)(H:Hp):gS P .min t [.int k a,.int j b] H=some (.int k (if b<a then b else a),H):=aaK rfl (id rfl)
theorem Rw.gw {H:Hp}{x:AV}{l:List AV}(h:Rw H 1 x l){i:Nat}{v:AV}(hv:l[i]? = some v)(k:IntKind):∃ q,ia 1 x (.int k i)=some q/\ld q H=some v:=by
 cases h with
 | nil=>cases hv
 | emp=>cases hv
 | @mk j off n cap ex l hr hn hc he=>
  have hi:=(aaw.1 hv).1
  refine⟨.ptr j (off+i),?_,hr.ld hv⟩
  have lG:i<n:=by omega
  rw[Ai lG,ahD]
end K
end Go.Proofs.YtodfajmihkagnaaGreatDoor.Am
