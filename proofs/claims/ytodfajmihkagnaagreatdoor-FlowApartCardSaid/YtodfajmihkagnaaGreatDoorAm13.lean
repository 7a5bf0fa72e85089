/- Laws by which a plain form is run; rows and cells of the symbolic heap (of no program). -/
import Derived.Test.YtodfajmihkagnaaGreatDoorAm12
set_option linter.unusedVariables false
set_option linter.unusedSimpArgs false
namespace Go.Proofs.YtodfajmihkagnaaGreatDoor.Am
set_option linter.unusedVariables false
set_option linter.unusedSimpArgs false
namespace K
def nN (x:R) (Q:AV->Hp->Prop):Prop:=∃ v H,x=some (v,H)/\Q v H
theorem nN.mk {v:AV} {H:Hp} {Q:AV->Hp->Prop} (h:Q v H):nN (some (v,H)) Q:=⟨v,H,rfl,h⟩
theorem nN.mono {x:R} {Q Q':AV->Hp->Prop} (h:nN x Q) (k:∀ v H,Q v H->Q' v H):nN x Q':=by
 obtain⟨v,H,h1,h2⟩:=h;exact⟨v,H,h1,k v H h2⟩
theorem nN.b1 {α:Type} {o:Option α} {f:α->R} {Q:AV->Hp->Prop} {v:α} (h:o=some v) (k:nN (f v) Q):nN (B1 o f) Q:=by subst h;exact k
theorem nN.b2 {o:Option (AV × Hp)} {f:AV->Hp->R} {Q:AV->Hp->Prop} {v:AV} {H:Hp} (h:o=some (v,H)) (k:nN (f v H) Q):nN (B2 o f) Q:=by subst h;exact k
theorem nN.call {o:R} {f:AV->Hp->R} {Q Q':AV->Hp->Prop} (h:nN o Q') (k:∀ v H,Q' v H->nN (f v H) Q):nN (B2 o f) Q:=by
 obtain⟨v,H,h1,h2⟩:=h;subst h1;exact k v H h2
theorem nN.of {x y:R} {Q:AV->Hp->Prop} (h:x=y) (k:nN y Q):nN x Q:=h▸k
section
variable {α:Type}
theorem TN (v:α) (k:α->R):B1 (some v) k=k v:=aa0 rfl (id rfl)
theorem SP (v:AV) (H:Hp) (k:AV->Hp->R):B2 (some (v,H)) k=k v H:=aa0 rfl (id rfl)
theorem YG (v:Nat) (H:Hp) (k:Nat->Hp->R):BN (some (v,H)) k=k v H:=aa0 rfl (id rfl)
end
theorem XK (f:(Hp->R)->R) (k:Hp->R):JN 0 f k=f k:=aa0 rfl (id rfl)
theorem Uj (f:(AV->Hp->R)->R) (k:AV->Hp->R):JN 1 f k=f k:=aa0 rfl (id rfl)
theorem SH (f:(AV->AV->Hp->R)->R) (k:AV->AV->Hp->R):JN 2 f k=f k:=aa0 rfl (id rfl)
theorem VC (f:(AV->AV->AV->Hp->R)->R) (k:AV->AV->AV->Hp->R):JN 3 f k=f k:=aa0 rfl (id rfl)
theorem UL (f:(AV->AV->AV->AV->Hp->R)->R) (k:AV->AV->AV->AV->Hp->R):JN 4 f k=f k:=aa0 rfl (id rfl)
theorem aa8 (f:(AV->AV->AV->AV->AV->Hp->R)->R) (k:AV->AV->AV->AV->AV->Hp->R):JN 5 f k=f k:=aa0 rfl (id rfl)
theorem XJ (f:(AV->AV->AV->AV->AV->AV->Hp->R)->R) (k:AV->AV->AV->AV->AV->AV->Hp->R):JN 6 f k=f k:=aa0 rfl (id rfl)
theorem Wl (f:(AV->AV->AV->AV->AV->AV->AV->Hp->R)->R) (k:AV->AV->AV->AV->AV->AV->AV->Hp->R):JN 7 f k=f k:=aa0 rfl (id rfl)
theorem Se (f:(AV->AV->AV->AV->AV->AV->AV->AV->Hp->R)->R) (k:AV->AV->AV->AV->AV->AV->AV->AV->Hp->R):JN 8 f k=f k:=aa0 rfl (id rfl)
theorem Xa (f:(AV->AV->AV->AV->AV->AV->AV->AV->AV->Hp->R)->R) (k:AV->AV->AV->AV->AV->AV->AV->AV->AV->Hp->R):JN 9 f k=f k:=aa0 rfl (id rfl)
theorem aaq (f:(AV->AV->AV->AV->AV->AV->AV->AV->AV->AV->Hp->R)->R) (k:AV->AV->AV->AV->AV->AV->AV->AV->AV->AV->Hp->R):JN 10 f k=f k:=aa0 rfl (id rfl)
theorem UK (f:(AV->AV->AV->AV->AV->AV->AV->AV->AV->AV->AV->Hp->R)->R) (k:AV->AV->AV->AV->AV->AV->AV->AV->AV->AV->AV->Hp->R):JN 11 f k=f k:=aa0 rfl (id rfl)
theorem ZS (f:(AV->AV->AV->AV->AV->AV->AV->AV->AV->AV->AV->AV->Hp->R)->R) (k:AV->AV->AV->AV->AV->AV->AV->AV->AV->AV->AV->AV->Hp->R):JN 12 f k=f k:=aa0 rfl (id rfl)
theorem Vb (f:(AV->AV->AV->AV->AV->AV->AV->AV->AV->AV->AV->AV->AV->Hp->R)->R) (k:AV->AV->AV->AV->AV->AV->AV->AV->AV->AV->AV->AV->AV->Hp->R):JN 13 f k=f k:=aa0 rfl (id rfl)
theorem abd (f:(AV->AV->AV->AV->AV->AV->AV->AV->AV->AV->AV->AV->AV->AV->Hp->R)->R) (k:AV->AV->AV->AV->AV->AV->AV->AV->AV->AV->AV->AV->AV->AV->Hp->R):JN 14 f k=f k:=aa0 rfl (id rfl)
theorem Sw (f:(AV->AV->AV->AV->AV->AV->AV->AV->AV->AV->AV->AV->AV->AV->AV->Hp->R)->R) (k:AV->AV->AV->AV->AV->AV->AV->AV->AV->AV->AV->AV->AV->AV->AV->Hp->R):JN 15 f k=f k:=aa0 rfl (id rfl)
theorem Sv (f:(AV->AV->AV->AV->AV->AV->AV->AV->AV->AV->AV->AV->AV->AV->AV->AV->Hp->R)->R) (k:AV->AV->AV->AV->AV->AV->AV->AV->AV->AV->AV->AV->AV->AV->AV->AV->Hp->R):JN 16 f k=f k:=aa0 rfl (id rfl)
theorem Y7 (f:(AV->AV->AV->AV->AV->AV->AV->AV->AV->AV->AV->AV->AV->AV->AV->AV->AV->Hp->R)->R) (k:AV->AV->AV->AV->AV->AV->AV->AV->AV->AV->AV->AV->AV->AV->AV->AV->AV->Hp->R):JN 17 f k=f k:=aa0 rfl (id rfl)
theorem Wn (f:(AV->AV->AV->AV->AV->AV->AV->AV->AV->AV->AV->AV->AV->AV->AV->AV->AV->AV->Hp->R)->R) (k:AV->AV->AV->AV->AV->AV->AV->AV->AV->AV->AV->AV->AV->AV->AV->AV->AV->AV->Hp->R):JN 18 f k=f k:=aa0 rfl (id rfl)
theorem RG (f:(AV->AV->AV->AV->AV->AV->AV->AV->AV->AV->AV->AV->AV->AV->AV->AV->AV->AV->AV->Hp->R)->R) (k:AV->AV->AV->AV->AV->AV->AV->AV->AV->AV->AV->AV->AV->AV->AV->AV->AV->AV->AV->Hp->R):JN 19 f k=f k:=aa0 rfl (id rfl)
theorem Wq (f:(AV->AV->AV->AV->AV->AV->AV->AV->AV->AV->AV->AV->AV->AV->AV->AV->AV->AV->AV->AV->Hp->R)->R) (k:AV->AV->AV->AV->AV->AV->AV->AV->AV->AV->AV->AV->AV->AV->AV->AV->AV->AV->AV->AV->Hp->R):JN 20 f k=f k:=aa0 rfl (id rfl)
theorem aaG (f:(AV->AV->AV->AV->AV->AV->AV->AV->AV->AV->AV->AV->AV->AV->AV->AV->AV->AV->AV->AV->AV->Hp->R)->R) (k:AV->AV->AV->AV->AV->AV->AV->AV->AV->AV->AV->AV->AV->AV->AV->AV->AV->AV->AV->AV->AV->Hp->R):JN 21 f k=f k:=aa0 rfl (id rfl)
theorem R2 (f:(AV->AV->AV->AV->AV->AV->AV->AV->AV->AV->AV->AV->AV->AV->AV->AV->AV->AV->AV->AV->AV->AV->Hp->R)->R) (k:AV->AV->AV->AV->AV->AV->AV->AV->AV->AV->AV->AV->AV->AV->AV->AV->AV->AV->AV->AV->AV->AV->Hp->R):JN 22 f k=f k:=aa0 rfl (id rfl)
theorem Zt (f:(AV->AV->AV->AV->AV->AV->AV->AV->AV->AV->AV->AV->AV->AV->AV->AV->AV->AV->AV->AV->AV->AV->AV->Hp->R)->R) (k:AV->AV->AV->AV->AV->AV->AV->AV->AV->AV->AV->AV->AV->AV->AV->AV->AV->AV->AV->AV->AV->AV->AV->Hp->R):JN 23 f k=f k:=aa0 rfl (id rfl)
theorem VW (f:(AV->AV->AV->AV->AV->AV->AV->AV->AV->AV->AV->AV->AV->AV->AV->AV->AV->AV->AV->AV->AV->AV->AV->AV->Hp->R)->R) (k:AV->AV->AV->AV->AV->AV->AV->AV->AV->AV->AV->AV->AV->AV->AV->AV->AV->AV->AV->AV->AV->AV->AV->AV->Hp->R):JN 24 f k=f k:=aa0 rfl (id rfl)
theorem TH (x y:R):CD (.bool true) x y=x:=aa0 rfl (id rfl)
theorem U8 (x y:R):CD (.bool false) x y=y:=aa0 rfl (id rfl)
theorem FU (b:Bool) (x y:R):CD (.bool b) x y=if b then x else y:=by cases b<;>rfl
theorem aaw (f:(AV->Hp->R)->R) (k:AV->Hp->R) (H:Hp):GO (.bool true) true f k H=f k:=aa0 rfl (id rfl)
theorem aaY (f:(AV->Hp->R)->R) (k:AV->Hp->R) (H:Hp):GO (.bool false) true f k H=k bS H:=aa0 rfl (id rfl)
theorem UN (f:(AV->Hp->R)->R) (k:AV->Hp->R) (H:Hp):GO (.bool true) false f k H=k bS H:=aa0 rfl (id rfl)
theorem Zz (f:(AV->Hp->R)->R) (k:AV->Hp->R) (H:Hp):GO (.bool false) false f k H=f k:=aa0 rfl (id rfl)
theorem Z2 (f:(AV->Hp->R)->R) (k:AV->Hp->R) (H:Hp):GO bS true f k H=k bS H:=aa0 rfl (id rfl)
theorem ZY (f:(AV->Hp->R)->R) (k:AV->Hp->R) (H:Hp):GO bS false f k H=k bS H:=aa0 rfl (id rfl)
theorem UX (x y:R):n0 (.bool true) true x y=x:=aa0 rfl (id rfl)
theorem WC (x y:R):n0 (.bool false) true x y=y:=aa0 rfl (id rfl)
theorem ZB (x y:R):n0 (.bool true) false x y=y:=aa0 rfl (id rfl)
theorem R3 (x y:R):n0 (.bool false) false x y=x:=aa0 rfl (id rfl)
theorem Ze (a b:AV):pk (.bool true) a b=some a:=aa0 rfl (id rfl)
theorem XY (a b:AV):pk (.bool false) a b=some b:=aa0 rfl (id rfl)
theorem aaU (i o:Nat):aW (.ptr i o)=some (.ptr i o):=aa0 rfl (id rfl)
theorem aaL (t:TypeId) (v:AV):aW (.iface t v)=some (.iface t v):=aa0 rfl (id rfl)
theorem X3 (off i o:Nat):fa off (.ptr i o)=some (.ptr i (o+off)):=aa0 rfl (id rfl)
theorem Yk (off:Nat) (l:List AV):fd off (.agg l)=l[off]? := aa0 rfl (id rfl)
theorem TL (i:Nat) (l:List AV):ex i (.tuple l)=l[i]? := aa0 rfl (id rfl)
theorem ZU (k:IntKind) (a b:Int):bW (.int k a) (.int k b)=some (.int k (k.wrap (a+b))):=by simp[bW,ii]
theorem X0 (k:IntKind) (a b:Int):nG (.int k a) (.int k b)=some (.int k (k.wrap (a-b))):=by simp[nG,ii]
theorem Zb (k:IntKind) (a b:Int):vb (.int k a) (.int k b)=some (.int k (k.wrap (a*b))):=by simp[vb,ii]
theorem Z8 (k:IntKind) (a b:Int):bZ (.int k a) (.int k b)=some (.bool (a==b)):=by simp[bZ,ii]
theorem aaC (k:IntKind) (a b:Int):gy (.int k a) (.int k b)=some (.bool (a != b)):=by simp[gy,ii]
theorem ZE (k:IntKind) (a b:Int):cJ (.int k a) (.int k b)=some (.bool (a<b)):=by simp[cJ,ii]
theorem Sn (k:IntKind) (a b:Int):oN (.int k a) (.int k b)=some (.bool (a<=b)):=by simp[oN,ii]
theorem Yl (k:IntKind) (a b:Int):lQ (.int k a) (.int k b)=some (.bool (b<a)):=by simp[lQ,ii]
theorem ID (k:IntKind) (a b:Int):lY (.int k a) (.int k b)=some (.bool (b<=a)):=by simp[lY,ii]
theorem adF (k:IntKind) (a b:Int) (h:b≠0):AE (.int k a) (.int k b)=some (.int k (k.wrap (a.tdiv b))):=by simp[AE,ii,h]
theorem To (a b:List Nat):seq (.str a) (.str b)=some (.bool (a==b)):=aa0 rfl (id rfl)
theorem Wd (a b:List Nat):rK (.str a) (.str b)=some (.bool (!(a==b))):=aa0 rfl (id rfl)
theorem Ub (a b:List Nat):slt (.str a) (.str b)=some (.bool (qa a b)):=aa0 rfl (id rfl)
theorem ve {a b:List Nat} (h:a.length+b.length<=4294967296):qC (.str a) (.str b)=some (.str (a++b)):=by
 have:Nat.ble (a.length+b.length) 4294967296=true:=adH.mpr h
 simp[qC,ss,this]
theorem Z5 (s:List Nat):lens (.str s)=some (.int .i64 s.length):=aa0 rfl (id rfl)
theorem SN:aV .ah=some (.int .i64 0):=aa0 rfl (id rfl)
theorem X8 (i o n c:Nat) (x:Bool) (es:Nat):aV (.slice i o n c x es)=some (.int .i64 n):=aa0 rfl (id rfl)
theorem WH (a b:Bool):bb .eql (.bool a) (.bool b)=some (.bool (a==b)):=aa0 rfl (id rfl)
theorem Ve (a b:Bool):bb .neq (.bool a) (.bool b)=some (.bool (!(a==b))):=aa0 rfl (id rfl)
theorem Zw (b:Bool):fW .not (.bool b)=some (.bool !b):=aa0 rfl (id rfl)
theorem aar (k j:IntKind) (n:Int):cv k (.int j n)=some (.int k (k.wrap n)):=aa0 rfl (id rfl)
theorem S7 (H:Hp):pe .fB .fB H=some true:=aa0 rfl (id rfl)
theorem YP (i o:Nat) (H:Hp):pe .fB (.ptr i o) H=some false:=aa0 rfl (id rfl)
theorem V8 (i o:Nat) (H:Hp):pe (.ptr i o) .fB H=some false:=aa0 rfl (id rfl)
theorem TU (b:Bool):AJ .eql (some b)=some (.bool b):=aa0 rfl (id rfl)
theorem Um (b:Bool):AJ .neq (some b)=some (.bool !b):=aa0 rfl (id rfl)
theorem nH {a b:AV} {x:R} (h:same a b=true):SM a b x=x:=by simp[SM,h]
theorem wrap_i64 {a:Int} (h : -9223372036854775808<=a) (k:a<=9223372036854775807):IntKind.wrap .i64 a=a:=by
 simp only[IntKind.wrap,IntKind.bits,IntKind.signed]
 simp
 omega
theorem wS {P:Program} {ext:Nat->Option Ext} {aU:Nat->Option Prim} {an:Nat->An} {bf:Nat} {p:Prim} {args:List AV} {H:Hp} {r:AV × Hp} (hp:aU bf=some p) (h:p args H=some r) :
  CK P (qQ P) ext aU an (.func (.func bf) [] []) args H=some r:=by
 refine Qs JG ?_
 unfold vw
 simp only[hp,ahr,agh]
 exact h
def Cs (H:Hp) (i:Nat) (l:List AV) (el fl:Nat):Prop:=i<H.next/\∃ c,H.h.get i=some (.cells c 0 l.length el fl)/\∀ k v,l[k]? = some v->c.get k=some v
def Mp (H:Hp) (i:Nat) (es:List ME) (c:Nat):Prop:=i<H.next/\H.h.get i=some (.map es c)
def Out (S:List Nat) (H H':Hp):Prop:=H.next<=H'.next/\∀ j,j<H.next->j∉S->H'.h.get j=H.h.get j
theorem Out.refl (S:List Nat) (H:Hp):Out S H H:=⟨abe _,fun _ _ _=>rfl⟩
theorem Out.trans {S:List Nat} {H H' lX:Hp} (h:Out S H H') (k:Out S H' lX):Out S H lX:=
 ⟨afo h.1 k.1,fun j hj hs=>(k.2 j (ac8 hj h.1) hs).trans (h.2 j hj hs)⟩
theorem Out.mono {S S':List Nat} {H H':Hp} (h:Out S H H') (k:∀ j∈S,j∈S'):Out S' H H':=⟨h.1,fun j hj hs=>h.2 j hj fun q=>hs (k j q)⟩
theorem Out.then {S S':List Nat} {H H' lX:Hp} (h:Out S H H') (k:Out S' H' lX) (hs:∀ j∈S',j∈S\/H.next<=j):Out S H lX:=
 ⟨afo h.1 k.1,fun j hj hn=>(k.2 j (ac8 hj h.1) fun q=>(hs j q).elim hn (by omega)).trans (h.2 j hj hn)⟩
theorem Cs.out {H H':Hp} {i:Nat} {l:List AV} {el fl:Nat} {S:List Nat} (h:Cs H i l el fl) (k:Out S H H') (hi:i∉S):Cs H' i l el fl:=
 ⟨ac8 h.1 k.1,by rw[k.2 i h.1 hi];exact h.2⟩
theorem Mp.out {H H':Hp} {i:Nat} {es:List ME} {c:Nat} {S:List Nat} (h:Mp H i es c) (k:Out S H H') (hi:i∉S):Mp H' i es c:=
 ⟨ac8 h.1 k.1,by rw[k.2 i h.1 hi];exact h.2⟩
theorem Cs.cellAt {H:Hp} {i:Nat} {l:List AV} {el fl:Nat} (h:Cs H i l el fl) {o:Nat} {v:AV} (hv:l[o]? = some v):cellAt H i o=some v:=by
 obtain⟨_,c,hc,hg⟩:=h
 have ho:o<l.length:=(aaK.1 hv).1
 unfold Am.cellAt
 rw[hc]
 have hb:(Nat.ble 0 o&&Nat.blt o l.length)=true:=by
  rw[aa9,adH,adq];omega
 simp only[hb,cond_true]
 exact hg o v hv
theorem Cs.ld {H:Hp} {i:Nat} {l:List AV} {el fl:Nat} (h:Cs H i l el fl) {o:Nat} {v:AV} (hv:l[o]? = some v):ld (.ptr i o) H=some v:=h.cellAt hv
theorem Cs.av {H:Hp} {i:Nat} {l:List AV} {el fl:Nat} (h:Cs H i l el fl):∀ (n o:Nat),o+n<=l.length->av H i o n=some ((l.drop o).take n)
 | 0,o,_=>by simp[Am.av]
 | n+1,o,hn=>by
  have ho:o<l.length:=by omega
  have h1:=h.cellAt (o:=o) (v:=l[o]) (aaM ho)
  have h2:=h.av n (o+1) (by omega)
  unfold Am.av
  rw[h1,h2,afD ho]
  rfl
theorem Cs.aC {H:Hp} {i:Nat} {l:List AV} {el fl:Nat} (h:Cs H i l el fl) {n o:Nat} (hn:o+n<=l.length):aC n (.ptr i o) H=some (.agg ((l.drop o).take n)):=by
 show (Am.av H i o n).map AV.agg=_
 rw[h.av n o hn];rfl
theorem K8 (H:Hp) (i j:Nat) (o:AO):(setObj H i o).h.get j=if j=i then some o else H.h.get j:=Tr.fj _ _ _ _
theorem NO {H:Hp} {i:Nat} {l:List AV} {el fl:Nat} (h:Cs H i l el fl) (hf:fl<=1) {o:Nat} (ho:o<l.length) {v:AV} (hv:bq v=true) :
  ∃ H',setCell H i o v=some H'/\Cs H' i (l.set o v) el fl/\Out [i] H H'/\H'.next=H.next:=by
 obtain⟨hi,c,hc,hg⟩:=h
 have hs:(c.get o).isSome=true:=by rw[hg o l[o] (aaM ho)];rfl
 have hb:(Nat.ble 0 o&&Nat.blt o l.length&&Nat.ble fl 1&&(c.get o).isSome&&bq v)=true:=by
  simp only[aa9,adH,adq];exact⟨⟨⟨⟨by omega,ho⟩,hf⟩,hs⟩,hv⟩
 refine⟨{ H with h:=H.h.bX i (.cells (c.bX o v) 0 l.length el fl) },?_,⟨hi,c.bX o v,?_,?_⟩,⟨abe _,?_⟩,rfl⟩
 ·unfold setCell
  rw[hc]
  simp only[hb,cond_true]
 ·show (Tr.bX H.h i _).get i=_
  rw[Tr.bX,Tr.fj,if_pos rfl,acT]
 ·intro k u hk
  rw[Tr.bX,Tr.fj]
  by_cases Oj:k=o
  ·subst Oj
   rw[aeS (by omega)] at hk
   rw[if_pos rfl]
   exact hk
  ·rw[ahK (fun q=>Oj q.symm)] at hk
   rw[if_neg Oj]
   exact hg k u hk
 ·intro j hj hn
  show (Tr.bX H.h i _).get j=_
  rw[Tr.bX,Tr.fj,if_neg (by simpa using hn)]
theorem fR {H:Hp} {i:Nat} {l:List AV} {el fl:Nat} (h:Cs H i l el fl) (hf:fl<=1) {o:Nat} (ho:o<l.length) {v:AV} (hv:bq v=true) :
  ∃ H',st 1 (.ptr i o) v H=some H'/\Cs H' i (l.set o v) el fl/\Out [i] H H'/\H'.next=H.next:=by
 obtain⟨H',h1,h2,h3,h4⟩:=NO h hf ho hv
 refine⟨H',?_,h2,h3,h4⟩
 have hc:pY v=some [v]:=by cases v<;>first | rfl | cases hv
 unfold st
 simp only[hc]
 show setCells H i o [v]=_
 simp only[setCells,h1,aca,acx]
theorem XO (H:Hp) (l:List AV) (el fl:Nat) (hl:l.length<=16777216):∃ H',aL H l el fl=some (H.next,H')/\Cs H' H.next l el fl/\Out [] H H'/\H'.next=H.next+1:=by
 refine⟨⟨H.h.put 34 H.next (.cells (Tr.cC .nil 0 l) 0 l.length el fl),H.next+1⟩,?_,⟨agJ _,Tr.cC .nil 0 l,?_,?_⟩,⟨afe _,?_⟩,rfl⟩
 ·unfold aL alloc
  have:Nat.ble l.length 16777216=true:=adH.mpr hl
  rw[this];rfl
 ·show (Tr.put 34 H.h H.next _).get H.next=_
  rw[Tr.put,Tr.fj,if_pos rfl]
 ·intro k v hk
  rw[wT]
  have:=(aaK.1 hk).1
  rw[if_pos (by omega)];exact hk
 ·intro j hj _
  show (Tr.put 34 H.h H.next _).get j=_
  rw[Tr.put,Tr.fj,if_neg (by omega)]
theorem IT (H:Hp):∃ H',xi H=some (H.next,H')/\Mp H' H.next [] 0/\Out [] H H'/\H'.next=H.next+1:=by
 refine⟨⟨H.h.put 34 H.next (.map [] 0),H.next+1⟩,rfl,⟨agJ _,?_⟩,⟨afe _,?_⟩,rfl⟩
 ·show (Tr.put 34 H.h H.next _).get H.next=_
  rw[Tr.put,Tr.fj,if_pos rfl]
 ·intro j hj _
  show (Tr.put 34 H.h H.next _).get j=_
  rw[Tr.put,Tr.fj,if_neg (by omega)]
def Ro (H:Hp) (i off:Nat) (l:List AV):Prop:=i<H.next/\∃ c lo hi el fl,H.h.get i=some (.cells c lo hi el fl)/\lo<=off/\off+l.length<=hi/\∀ k v,l[k]? = some v->c.get (off+k)=some v
theorem Cs.ro {H:Hp} {i:Nat} {l:List AV} {el fl:Nat} (h:Cs H i l el fl):Ro H i 0 l:=by
 obtain⟨hi,c,hc,hg⟩:=h
 exact⟨hi,c,0,l.length,el,fl,hc,abe _,by omega,fun k v hk=>by rw[adt];exact hg k v hk⟩
theorem Ro.out {H H':Hp} {i off:Nat} {l:List AV} {S:List Nat} (h:Ro H i off l) (k:Out S H H') (hi:i∉S):Ro H' i off l:=
 ⟨ac8 h.1 k.1,by rw[k.2 i h.1 hi];exact h.2⟩
theorem Ro.cellAt {H:Hp} {i off:Nat} {l:List AV} (h:Ro H i off l) {k:Nat} {v:AV} (hv:l[k]? = some v):cellAt H i (off+k)=some v:=by
 obtain⟨_,c,lo,hi,el,fl,hc,h1,h2,hg⟩:=h
 have hk:k<l.length:=(aaK.1 hv).1
 unfold Am.cellAt
 rw[hc]
 have hb:(Nat.ble lo (off+k)&&Nat.blt (off+k) hi)=true:=by
  rw[aa9,adH,adq];omega
 simp only[hb,cond_true]
 exact hg k v hv
theorem Ro.ld {H:Hp} {i off:Nat} {l:List AV} (h:Ro H i off l) {k:Nat} {v:AV} (hv:l[k]? = some v):ld (.ptr i (off+k)) H=some v:=h.cellAt hv
theorem Ro.drop {H:Hp} {i off:Nat} {l:List AV} (h:Ro H i off l) (n:Nat) (hn:n<=l.length):Ro H i (off+n) (l.drop n):=by
 obtain⟨hi,c,lo,jh,el,fl,hc,h1,h2,hg⟩:=h
 refine⟨hi,c,lo,jh,el,fl,hc,by omega,by rw[ae1];omega,fun k v hk => ?_⟩
 rw[aeA] at hk
 rw[ag0];exact hg _ v hk
theorem Ro.take {H:Hp} {i off:Nat} {l:List AV} (h:Ro H i off l) (n:Nat):Ro H i off (l.take n):=by
 obtain⟨hi,c,lo,jh,el,fl,hc,h1,h2,hg⟩:=h
 refine⟨hi,c,lo,jh,el,fl,hc,h1,by rw[adA];omega,fun k v hk => ?_⟩
 rw[afW] at hk
 split at hk
 ·exact hg _ v hk
 ·cases hk
theorem Ro.av {H:Hp} {i:Nat}:∀ {l:List AV} {off:Nat},Ro H i off l->Am.av H i off l.length=some l
 | [],off,_=>rfl
 | v::l,off,h=>by
  have h1:=h.cellAt (k:=0) (v:=v) rfl
  have h2:=(h.drop 1 (by simp)).av
  simp only[List.drop_succ_cons,abJ] at h2
  rw[adx] at h1
  rw[abx]
  unfold Am.av
  rw[h1,h2]
  rfl
def ak:AV->List Nat
 | .slice i _ _ cap ex _=>bif ex&&Nat.beq cap 0 then [] else [i]
 | .ptr i _=>[i]
 | .map i=>[i]
 | _=>[]
theorem mr {i o n cap es:Nat} {ex:Bool} (h:(ex&&Nat.beq cap 0)=false):ak (.slice i o n cap ex es)=[i]:=by simp only[ak,h,cond_false]
inductive Rw (H:Hp) (es:Nat):AV->List AV->Prop
 | nil:Rw H es .ah []
 | emp {i off:Nat}:Rw H es (.slice i off 0 0 true es) []
 | mk {i off n cap:Nat} {ex:Bool} {l:List AV} (h:Ro H i off l) (hn:l.length=n*es) (hc:n<=cap) (he:(ex&&Nat.beq cap 0)=false):Rw H es (.slice i off n cap ex es) l
theorem Rw.out {H H':Hp} {es:Nat} {x:AV} {l:List AV} {S:List Nat} (h:Rw H es x l) (k:Out S H H') (hi:∀ j∈ak x,j∉S):Rw H' es x l:=by
 cases h with
 | nil=>exact .nil
 | emp=>exact .emp
 | mk h hn hc he=>exact .mk (h.out k (hi _ (by rw[mr he];exact .head _))) hn hc he
theorem Rw.lt {H:Hp} {es:Nat} {x:AV} {l:List AV} (h:Rw H es x l):∀ j∈ak x,j<H.next:=by
 cases h with
 | nil=>intro j hj;cases hj
 | emp=>intro j hj;cases hj
 | mk h hn hc he=>intro j hj;rw[mr he,aan] at hj;subst hj;exact h.1
theorem Rw.len {H:Hp} {es:Nat} {x:AV} {l:List AV} (h:Rw H es x l):∃ n:Nat,aV x=some (.int .i64 n)/\l.length=n*es:=by
 cases h with
 | nil=>exact⟨0,rfl,by simp⟩
 | emp=>exact⟨0,rfl,by simp⟩
 | mk h hn hc he=>exact⟨_,rfl,hn⟩
theorem Rw.kC {H:Hp} {x:AV} {l:List AV} (h:Rw H 1 x l):aV x=some (.int .i64 l.length):=by
 obtain⟨n,h1,h2⟩:=h.len
 rw[h1,h2,aeu]
inductive Ow (H:Hp) (el es:Nat):AV->List AV->Prop
 | nil:Ow H el es .ah []
 | emp {i off:Nat}:Ow H el es (.slice i off 0 0 true es) []
 | mk {i off n cap:Nat} {ex:Bool} {l:List AV} {c:Tr AV} {lo hi fl:Nat} (jh:i<H.next) (hg:H.h.get i=some (.cells c lo hi el fl)) (hf:fl<=1) (gY:lo<=off) (jA:off+cap*es<=hi) (ic:n<=cap) (hn:l.length=n*es)
   (hc:∀ k v,l[k]? = some v->c.get (off+k)=some v) (hs:∀ k,k<cap*es->(c.get (off+k)).isSome=true) (h1:∀ v∈l,bq v=true) (he:(ex&&Nat.beq cap 0)=false):Ow H el es (.slice i off n cap ex es) l
theorem Ow.rw {H:Hp} {el es:Nat} {x:AV} {l:List AV} (h:Ow H el es x l):Rw H es x l:=by
 cases h with
 | nil=>exact .nil
 | emp=>exact .emp
 | @mk i off n cap ex l c lo hi fl jh hg hf gY jA ic hn hc hs h1 he=>
  exact .mk ⟨jh,c,lo,hi,el,fl,hg,gY,by rw[hn];exact afo (Nat.add_le_add_left (adY _ ic) _) jA,hc⟩ hn ic he
theorem Ow.out {H H':Hp} {el es:Nat} {x:AV} {l:List AV} {S:List Nat} (h:Ow H el es x l) (k:Out S H H') (hi:∀ j∈ak x,j∉S):Ow H' el es x l:=by
 cases h with
 | nil=>exact .nil
 | emp=>exact .emp
 | mk jh hg hf gY jA ic hn hc hs h1 he=>exact .mk (ac8 jh k.1) (by rw[k.2 _ jh (hi _ (by rw[mr he];exact .head _))];exact hg) hf gY jA ic hn hc hs h1 he
theorem Ow.one {H:Hp} {el es:Nat} {x:AV} {l:List AV} (h:Ow H el es x l):∀ v∈l,bq v=true:=by
 cases h with
 | nil=>intro v hv;cases hv
 | emp=>intro v hv;cases hv
 | mk _ _ _ _ _ _ _ _ _ h1 _=>exact h1
theorem Cs.ow {H:Hp} {i n:Nat} {l:List AV} {el es fl:Nat} (h:Cs H i l el fl) (hf:fl<=1) (hn:l.length=n*es) (h1:∀ v∈l,bq v=true) (ex:Bool):Ow H el es (.slice i 0 n n ex es) l:=by
 cases hex:(ex&&Nat.beq n 0) with
 | true=>
  rw[aa9] at hex
  obtain⟨rfl,lq⟩:=hex
  obtain rfl:=abC lq
  have:l=[]:=by simpa using hn
  subst this
  exact .emp
 | false=>
 obtain⟨hi,c,hc,hg⟩:=h
 refine .mk hi hc hf (abe _) (by omega) (abe _) hn (fun k v hk=>by rw[adt];exact hg k v hk) (fun k hk => ?_) h1 hex
 rw[adt,hg k l[k] (aaM (by omega))];rfl
theorem IV:∀ (l:List AV) (H:Hp) (i off:Nat) (c:Tr AV) (lo hi el fl:Nat),H.h.get i=some (.cells c lo hi el fl)->fl<=1->lo<=off->off+l.length<=hi->(∀ k,k<l.length->(c.get (off+k)).isSome=true)->(∀ v∈l,bq v=true)->
  ∃ H' c',setCells H i off l=some H'/\H'.next=H.next/\H'.h.get i=some (.cells c' lo hi el fl)/\(∀ j,j≠i->H'.h.get j=H.h.get j)/\∀ k,c'.get k=if off<=k/\k<off+l.length then l[k-off]? else c.get k
 | [],H,i,off,c,lo,hi,el,fl,hg,hf,h1,h2,hs,ho=>⟨H,c,rfl,rfl,hg,fun _ _=>rfl,fun k=>by rw[if_neg (by simp only[acm];omega)]⟩
 | v::l,H,i,off,c,lo,hi,el,fl,hg,hf,h1,h2,hs,ho=>by
  simp only[abx] at h2
  have ud:=hs 0 (by simp)
  rw[adx] at ud
  have hb:(Nat.ble lo off&&Nat.blt off hi&&Nat.ble fl 1&&(c.get off).isSome&&bq v)=true:=by
   simp only[aa9,adH,adq];exact⟨⟨⟨⟨h1,by omega⟩,hf⟩,ud⟩,ho v (.head _)⟩
  have fg:setCell H i off v=some { H with h:=H.h.bX i (.cells (c.bX off v) lo hi el fl) }:=by
   unfold setCell;rw[hg];simp only[hb,cond_true]
  obtain⟨H',c',q1,q2,q3,q4,q5⟩:=IV l { H with h:=H.h.bX i (.cells (c.bX off v) lo hi el fl) } i (off+1) (c.bX off v) lo hi el fl (by
    show (Tr.bX H.h i _).get i=_
    rw[Tr.bX,Tr.fj,if_pos rfl]) hf (by omega) (by omega) (fun k hk=>by
    rw[Tr.bX,Tr.fj]
    split
    ·rfl
    ·have:=hs (k+1) (by simp;omega)
     rw[show off+1+k=off+(k+1) by omega];exact this) (fun u hu=>ho u (.tail _ hu))
  refine⟨H',c',?_,q2,q3,fun j hj => ?_,fun k => ?_⟩
  ·simp only[setCells,fg,aca,acx];exact q1
  ·rw[q4 j hj]
   show (Tr.bX H.h i _).get j=_
   rw[Tr.bX,Tr.fj,if_neg hj]
  ·rw[q5 k,Tr.bX,Tr.fj]
   by_cases hk:k=off
   ·subst hk
    rw[if_neg (by omega),if_pos rfl,if_pos (by simp),agi];rfl
   ·rw[if_neg hk]
    by_cases fV:off+1<=k/\k<off+1+l.length
    ·rw[if_pos fV,if_pos (by simp;omega),show k-off=(k-(off+1))+1 by omega,acM]
    ·rw[if_neg fV,if_neg (by simp;omega)]
theorem Jj {H:Hp} {el es n:Nat} {s:AV} {l new:List AV} (h:Ow H el es s l) (uy:new.length=n*es) (ho:∀ v∈new,bq v=true) (dK:0<es) (hlen:l.length+new.length<=16777216) :
  ∃ s' H',CJ el es n new s H=some (s',H')/\Ow H' el es s' (l++new)/\Out (ak s) H H'/\(∀ j∈ak s',j∈ak s\/H.next<=j):=by
 have kD:∀ v∈l++new,bq v=true:=fun v hv=>(abP.1 hv).elim (h.one v) (ho v)
 have X6:∀ s0:List Nat,n≠0->l=[]->∃ H',aL H new el 0=some (H.next,H')/\Ow H' el es (.slice H.next 0 n n false es) (l++new)/\Out s0 H H'/\(∀ j∈ak (.slice H.next 0 n n false es),j∈s0\/H.next<=j):=by
  intro s0 hn hl
  subst hl
  obtain⟨H',h1,h2,h3,h4⟩:=XO H new el 0 (by simp only[acm] at hlen;omega)
  refine⟨H',h1,h2.ow (by omega) uy ho false,h3.mono (fun j hj=>by cases hj),fun j hj => ?_⟩
  simp only[ak,ac5,cond_false,aan] at hj
  exact .inr (by omega)
 cases h with
 | nil=>
  unfold CJ
  simp only
  by_cases hn:n=0
  ·subst hn
   have:new=[]:=by simpa using uy
   subst this
   exact⟨.ah,H,rfl,.nil,Out.refl _ _,fun j hj=>by cases hj⟩
  ·rw[nY hn,cond_false]
   have hle:n<=16777216:=by
    have:=Nat.le_mul_of_pos_right n dK
    simp only[acm] at hlen
    omega
   have hb:Nat.ble n 16777216=true:=adH.mpr hle
   rw[hb,cond_true]
   obtain⟨H',h1,h2⟩:=X6 [] hn rfl
   exact⟨_,H',by rw[h1];rfl,h2⟩
 | @emp i off=>
  unfold CJ
  have hle:n<=16777216:=by
   have:=Nat.le_mul_of_pos_right n dK
   simp only[acm] at hlen
   omega
  have hb:(Nat.ble (0+n) 16777216&&Nat.beq es es&&new.all bq)=true:=by
   simp only[aa9,adH,uV,adn]
   exact⟨⟨by omega,trivial⟩,ho⟩
  simp only[hb,cond_true]
  by_cases hn:n=0
  ·subst hn
   have:new=[]:=by simpa using uy
   subst this
   exact⟨.slice i off 0 0 true es,H,rfl,.emp,Out.refl _ _,fun j hj=>by cases hj⟩
  ·have iz:Nat.ble (0+n) 0=false:=by rw[<-afq,adH];omega
   rw[iz,cond_false]
   obtain⟨H',h1,h2⟩:=X6 (ak (.slice i off 0 0 true es)) hn rfl
   refine⟨.slice H.next 0 n n false es,H',?_,h2⟩
   simp only[af4,Am.av,acx,ahr,h1,ady,adt]
 | @mk i off m cap ex l c lo hi fl jh hg hf gY jA ic hn hc hs h1 he=>
  unfold CJ
  have mO:n<=new.length:=by rw[uy];exact Nat.le_mul_of_pos_right n dK
  have B4:m<=l.length:=by rw[hn];exact Nat.le_mul_of_pos_right m dK
  have hb:(Nat.ble (m+n) 16777216&&Nat.beq es es&&new.all bq)=true:=by
   simp only[aa9,adH,uV,adn]
   exact⟨⟨by omega,trivial⟩,ho⟩
  simp only[hb,cond_true]
  have kK:(l++new).length=(m+n)*es:=by rw[aby,hn,uy,aeT]
  by_cases Oy:m+n<=cap
  ·have iz:Nat.ble (m+n) cap=true:=adH.mpr Oy
   rw[iz,cond_true]
   have hr:(m+n)*es<=cap*es:=adY _ Oy
   rw[aeT] at hr
   obtain⟨H',c',q1,q2,q3,q4,q5⟩:=IV new H i (off+m*es) c lo hi el fl hg hf (by omega) (by rw[uy];omega) (fun k hk=>by
    rw[ag0];exact hs _ (by rw[uy] at hk;omega)) ho
   refine⟨_,H',by rw[q1];rfl,.mk (by rw[q2];exact jh) q3 hf gY jA Oy kK (fun k v hk => ?_) (fun k hk => ?_) kD he,⟨by rw[q2];exact abe _,fun j hj yb=>q4 j (by rw[mr he] at yb;simpa using yb)⟩,fun j hj => .inl (by rw[mr he] at hj ⊢;exact hj)⟩
   ·rw[q5]
    by_cases jV:k<l.length
    ·rw[if_neg (by omega),hc k v (by rw[abN jV] at hk;exact hk)]
    ·rw[abQ (by omega)] at hk
     have:=(aaK.1 hk).1
     rw[if_pos (by omega),<-hk];congr 1;omega
   ·rw[q5]
    split
    ·rename_i hq
     rw[aaM (by omega)];rfl
    ·exact hs k hk
  ·have iz:Nat.ble (m+n) cap=false:=by rw[<-afq,adH];omega
   rw[iz,cond_false]
   cases ex with
   | true=>
    simp only[cond_true]
    have Gf:Ro H i off l:=⟨jh,c,lo,hi,el,fl,hg,gY,by rw[hn];exact afo (Nat.add_le_add_left (adY _ ic) _) jA,hc⟩
    have xE:=Gf.av
    rw[hn] at xE
    rw[xE]
    obtain⟨H',r1,r2,r3,r4⟩:=XO H (l++new) el 0 (by rw[aby];omega)
    refine⟨_,H',by simp only[acx];rw[r1];rfl,r2.ow (by omega) kK kD false,r3.mono (fun j hj=>by cases hj),fun j hj => ?_⟩
    simp only[ak,ac5,cond_false,aan] at hj
    exact .inr (by omega)
   | false=>
    simp only[cond_false,hg]
    have hr:m*es<=cap*es:=adY _ ic
    have qw:(Nat.ble fl 1&&Nat.ble lo off&&Nat.ble (off+m*es) hi&&Nat.beq el el)=true:=by
     simp only[aa9,adH,uV]
     exact⟨⟨⟨hf,gY⟩,by omega⟩,trivial⟩
    rw[qw,cond_true]
    refine⟨_,_,rfl,.mk (c:=c.cC (off+m*es) new) (lo:=off) (hi:=off+(m+n)*es) (fl:=1) ?_ ?_ (by omega) (abe _) (abe _) (abe _) kK (fun k v hk => ?_) (fun k hk => ?_) kD rfl,⟨?_,fun j hj yb => ?_⟩,fun j hj => ?_⟩
    ·exact agJ _
    ·show (Tr.put 34 (H.h.del i) H.next _).get H.next=_
     rw[Tr.put,Tr.fj,if_pos rfl]
    ·rw[Tr.uj]
     by_cases jV:k<l.length
     ·rw[if_neg (by omega),hc k v (by rw[abN jV] at hk;exact hk)]
     ·rw[abQ (by omega)] at hk
      have:=(aaK.1 hk).1
      rw[if_pos (by omega),<-hk];congr 1;omega
    ·rw[Tr.uj]
     rw[aeT] at hk
     split
     ·rename_i hq
      rw[aaM (by omega)];rfl
     ·exact hs k (by omega)
    ·exact afe _
    ·show (Tr.put 34 (H.h.del i) H.next _).get j=_
     rw[Tr.put,Tr.fj,if_neg (by omega),Tr.GZ,if_neg (by rw[mr he] at yb;simpa using yb)]
    ·simp only[ak,ac5,cond_false,aan] at hj
     subst hj
     exact .inr (abe _)
theorem U5 {H:Hp} {el es:Nat} {z:List AV} {s x:AV} {l new:List AV} (h:Ow H el es s l) (hx:Rw H es x new) (ho:∀ v∈new,bq v=true) (dK:0<es) (hlen:l.length+new.length<=16777216) :
  ∃ s' H',gC el es z false s x H=some (s',H')/\Ow H' el es s' (l++new)/\Out (ak s) H H'/\(∀ j∈ak s',j∈ak s\/H.next<=j):=by
 cases hx with
 | nil=>
  obtain⟨s',H',h1,h2⟩:=Jj (n:=0) (new:=[]) h (by simp) ho dK hlen
  exact⟨s',H',h1,h2⟩
 | @emp i off=>
  obtain⟨s',H',h1,h2⟩:=Jj (n:=0) (new:=[]) h (by simp) ho dK hlen
  refine⟨s',H',?_,h2⟩
  have:Bc es z false (.slice i off 0 0 true es) H=some (0,[]):=by
   show (Am.av H i off (0*es)).map (fun l=>(0,l))=_
   rw[af4];rfl
  unfold gC
  rw[this]
  exact h1
 | @mk i off n cap ex l' hr hn hc he=>
  obtain⟨s',H',h1,h2⟩:=Jj h hn ho dK hlen
  refine⟨s',H',?_,h2⟩
  have:Bc es z false (.slice i off n cap ex es) H=some (n,new):=by
   show (Am.av H i off (n*es)).map (fun l=>(n,l))=_
   rw[<-hn,hr.av];rfl
  unfold gC
  rw[this]
  exact h1
def bs (l:List Nat):List AV:=l.map fun (b:Nat)=>AV.int .u8 b
theorem amj (l:List Nat):∀ v∈bs l,bq v=true:=by
 intro v hv
 obtain⟨b,_,rfl⟩:=acI.1 hv
 rfl
theorem BE (l:List Nat):(bs l).length=l.length:=by simp[bs]
theorem aj6 (a b:List Nat):bs (a++b)=bs a++bs b:=by simp[bs]
theorem LL:∀ (l:List Nat),(∀ b∈l,b<256)->uE (bs l)=some l
 | [],_=>rfl
 | b::l,h=>by
  have h1:=LL l (fun x hx=>h x (.tail _ hx))
  have h2:=h b (.head _)
  have h3:(decide (0<=(b:Int))&&decide ((b:Int)<256))=true:=by simp;omega
  show uE (AV.int .u8 (b:Int)::bs l)=_
  unfold uE
  rw[h3,h1]
  simp
theorem XD {H:Hp} {x:AV} {l:List Nat} (h:Rw H 1 x (bs l)) (hl:∀ b∈l,b<256):BX x H=some (.str l):=by
 generalize hJ:bs l=cs at h
 cases h with
 | nil=>
  have:l=[]:=by simpa[bs] using hJ
  subst this;rfl
 | @emp i off=>
  have:l=[]:=by simpa[bs] using hJ
  subst this;rfl
 | @mk i off n cap ex l' hr hn hc he=>
  rw[aeu] at hn
  unfold BX
  simp only
  by_cases h0:n=0
  ·subst h0
   have:l=[]:=by
    subst hJ
    simpa[bs] using hn
   subst this;rfl
  ·rw[nY h0,cond_false,<-hn,hr.av,<-hJ]
   simp only[acx,LL l hl]
   rfl
theorem K0 {k:IntKind} {n lo hi:Nat} (h1:lo<=n) (h2:n<=hi):bound lo hi (.int k n)=some n:=by
 unfold bound
 have:(decide ((lo:Int)<=(n:Int))&&decide ((n:Int)<=(hi:Int)))=true:=by simp;omega
 simp only[this,if_true,ab9]
def Bd (o:Option AV) (n alI:Nat):Prop:=(o=none/\n=alI)\/∃ k,o=some (.int k n)
theorem Bd.no (n:Nat):Bd none n n := .inl ⟨rfl,rfl⟩
theorem Bd.yes (k:IntKind) (n d:Nat):Bd (some (.int k n)) n d := .inr ⟨k,rfl⟩
theorem Bd.ag9 (k:IntKind) (d:Nat):Bd (some (.int k 0)) 0 d := .inr ⟨k,rfl⟩
theorem yK {len cap a b:Nat} {lo hi:Option AV} (uY:a<=b) (hb:b<=len) (hc:len<=cap) (gY:Bd lo a 0) (jA:Bd hi b len):qA len cap lo hi none=some (a,b,cap):=by
 unfold qA
 rcases jA with⟨rfl,rfl⟩ | ⟨k,rfl⟩<;>rcases gY with⟨rfl,rfl⟩ | ⟨j,rfl⟩
 ·rfl
 ·simp only[aca,acx,K0 (ab2 _) uY];rfl
 ·simp only[aca,acx,K0 (ab2 _) (afo hb hc)];rfl
 ·simp only[aca,acx,K0 (ab2 _) (afo hb hc),K0 (ab2 _) uY];rfl
theorem Ft {H:Hp} {es n a b:Nat} {x:AV} {l:List AV} (h:Rw H es x l) (hl:l.length=n*es) (dK:0<es) {lo hi:Option AV} (uY:a<=b) (hb:b<=n) (gY:Bd lo a 0) (jA:Bd hi b n) :
  ∃ x',pM es x lo hi none=some x'/\Rw H es x' ((l.drop (a*es)).take ((b-a)*es))/\∀ j∈ak x',j∈ak x:=by
 cases h with
 | nil=>
  have hn:n=0:=by
   simp only[acm] at hl
   rcases Nat.mul_eq_zero.1 hl.symm with q | q<;>omega
  subst hn
  have mW:b=0:=by omega
  have Nf:a=0:=by omega
  subst mW;subst Nf
  refine⟨.ah,?_,by simpa using Rw.nil,fun j hj=>hj⟩
  unfold pM
  simp only[yK (abe 0) (abe 0) (abe 0) gY jA];rfl
 | @emp i off=>
  have hn:n=0:=by
   simp only[acm] at hl
   rcases Nat.mul_eq_zero.1 hl.symm with q | q<;>omega
  subst hn
  have mW:b=0:=by omega
  have Nf:a=0:=by omega
  subst mW;subst Nf
  refine⟨.slice i (off+0*es) 0 0 true es,?_,by simpa using Rw.emp,fun j hj=>by cases hj⟩
  unfold pM
  simp only[yK (abe 0) (abe 0) (abe 0) gY jA]
  simp
 | @mk i off m cap ex l hr hn hc he=>
  have hm:m=n:=Nat.eq_of_mul_eq_mul_right dK (hn.symm.trans hl)
  subst hm
  refine⟨.slice i (off+a*es) (b-a) (cap-a) ex es,?_,?_,?_⟩
  ·unfold pM
   simp only[yK uY hb hc gY jA,acx]
   simp
  ·cases hq:(ex&&Nat.beq (cap-a) 0) with
   | true=>
    rw[aa9] at hq
    obtain⟨rfl,h0⟩:=hq
    have h0:=abC h0
    have hba:b-a=0:=by omega
    rw[h0,hba,af4,agv]
    exact .emp
   | false=>
    have h1:a*es<=l.length:=by rw[hl];exact adY _ (by omega)
    refine .mk ((hr.drop (a*es) h1).take _) ?_ (by omega) hq
    rw[adA,ae1,hl,<-Nat.sub_mul]
    exact Nat.min_eq_left (adY _ (by omega))
  ·intro j hj
   rw[mr he]
   simp only[ak] at hj
   cases hq:(ex&&Nat.beq (cap-a) 0)<;>rw[hq] at hj
   ·exact hj
   ·cases hj
def ks (e:ME) (k:List Nat):Prop:=e.key = .str k
theorem Lo {k:List Nat}:∀ (es:List ME) (i:Nat),(∀ e∈es,∃ q,e.key = .str q/\q≠k)->fk .str (.str k) es i=some none
 | [],i,_=>rfl
 | e::es,i,h=>by
  obtain⟨q,h1,h2⟩:=h e (.head _)
  have:xw .str (.str k) e.key=some false:=by
   rw[h1]
   show some (k==q)=some false
   rw[beq_false_of_ne (fun x=>h2 x.symm)]
  unfold fk
  rw[this]
  exact Lo es (i+1) (fun e he=>h e (.tail _ he))
theorem aaH {k:List Nat}:∀ es:List ME,(∀ e∈es,∃ q,e.key = .str q/\q≠k)->nk .str (.str k) es=true
 | [],h=>rfl
 | e::es,h=>by
  obtain⟨q,h1,h2⟩:=h e (.head _)
  have:xw .str (.str k) e.key=some false:=by
   rw[h1]
   show some (k==q)=some false
   rw[beq_false_of_ne (fun x=>h2 x.symm)]
  unfold nk
  rw[this]
  exact aaH es (fun e he=>h e (.tail _ he))
theorem OV {k:List Nat} {e:ME} {b:List ME} (hk:e.key = .str k) (hb:∀ e∈b,∃ q,e.key = .str q/\q≠k):∀ (a:List ME) (i:Nat),(∀ e∈a,∃ q,e.key = .str q/\q≠k)->fk .str (.str k) (a++e::b) i=some (some (i+a.length,e))
 | [],i,_=>by
  have:xw .str (.str k) e.key=some true:=by
   rw[hk]
   show some (k==k)=some true
   rw[beq_self_eq_true]
  show fk .str (.str k) (e::b) i=_
  unfold fk
  rw[this,aaH b hb];rfl
 | x::a,i,h=>by
  obtain⟨q,h1,h2⟩:=h x (.head _)
  have:xw .str (.str k) x.key=some false:=by
   rw[h1]
   show some (k==q)=some false
   rw[beq_false_of_ne (fun x=>h2 x.symm)]
  show fk .str (.str k) (x::(a++e::b)) i=_
  unfold fk
  rw[this]
  simp only
  rw[OV hk hb a (i+1) (fun e he=>h e (.tail _ he)),abx]
  congr 3;omega
theorem F8 {H:Hp} {i:Nat} {es:List ME} {c:Nat} (h:Mp H i es c):mapOf H (.map i)=some (es,c):=by
 unfold mapOf
 simp only[h.2]
theorem aaj {H:Hp} {i:Nat} {es:List ME} {c:Nat} {k:List Nat} (h:Mp H i es c) (hk:∀ e∈es,∃ q,e.key = .str q/\q≠k) (z:AV) (ok:Bool):sG .str z ok (.map i) (.str k) H=some (bif ok then .tuple [z,.bool false] else z):=by
 unfold sG
 rw[F8 h]
 simp only[Lo es 0 hk]
theorem aax {H:Hp} {i:Nat} {a b:List ME} {e:ME} {c:Nat} {k:List Nat} (h:Mp H i (a++e::b) c) (he:e.key = .str k) (hk:∀ e∈a,∃ q,e.key = .str q/\q≠k) (hb:∀ e∈b,∃ q,e.key = .str q/\q≠k) (z:AV) (ok:Bool) :
  sG .str z ok (.map i) (.str k) H=some (bif ok then .tuple [e.val,.bool true] else e.val):=by
 unfold sG
 rw[F8 h]
 simp only[OV he hb a 0 hk]
theorem Mp.set {H:Hp} {i:Nat} {es:List ME} {c:Nat} (h:Mp H i es c) (aO:List ME) (c':Nat):Mp (setObj H i (.map aO c')) i aO c'/\Out [i] H (setObj H i (.map aO c')):=
 ⟨⟨h.1,by rw[K8,if_pos rfl]⟩,abe _,fun j _ hn=>by rw[K8,if_neg (by simpa using hn)]⟩
theorem aal {H:Hp} {i:Nat} {es:List ME} {c:Nat} {k:List Nat} (h:Mp H i es c) (hk:∀ e∈es,∃ q,e.key = .str q/\q≠k) (v:AV) :
  ∃ H',tn .str (.map i) (.str k) v H=some H'/\Mp H' i (es++[⟨.str k,v,c⟩]) (c+1)/\Out [i] H H':=by
 refine⟨_,?_,h.set _ _⟩
 unfold tn
 simp only[h.2,Lo es 0 hk]
theorem ahM {H:Hp} {i:Nat} {a b:List ME} {e:ME} {c:Nat} {k:List Nat} (h:Mp H i (a++e::b) c) (he:e.key = .str k) (hk:∀ e∈a,∃ q,e.key = .str q/\q≠k) (hb:∀ e∈b,∃ q,e.key = .str q/\q≠k) (v:AV) :
  ∃ H',tn .str (.map i) (.str k) v H=some H'/\Mp H' i (a++{ e with key := .str k,val:=v }::b) c/\Out [i] H H':=by
 refine⟨_,?_,h.set _ _⟩
 unfold tn
 have hs:A9 e.key (.str k)=true:=by rw[he];simp[A9,GG]
 simp only[h.2,OV he hb a 0 hk,hs,cond_true]
 simp
theorem yL {es i off n cap:Nat} {ex:Bool} {k:IntKind} {j:Nat} (h:j<n):ia es (.slice i off n cap ex es) (.int k j)=some (.ptr i (off+j*es)):=by
 unfold ia
 simp only
 rw[if_pos ⟨trivial,by omega,by omega⟩,ab9]
theorem lL (x:R):sS true x=x:=aa0 rfl (id rfl)
theorem tV (z:List AV):fl z []=some z:=aa0 rfl (id rfl)
theorem Gd {P:Program} {T el:Nat} (hT:P.underlying T=some (.slice el)) (H:Hp):eS P .eql T .ah .ah H=some (.bool true):=by
 unfold eS dZ
 simp only[hT];rfl
theorem G0 {P:Program} {T el:Nat} (hT:P.underlying T=some (.slice el)) (i o n c:Nat) (ex:Bool) (es:Nat) (H:Hp):eS P .eql T (.slice i o n c ex es) .ah H=some (.bool false):=by
 unfold eS dZ
 simp only[hT];rfl
theorem Hv (P:Program) (T:Nat) (c:Bool):gA P .eql T c .ah .ah=true:=aa0 rfl (id rfl)
theorem Ge (P:Program) (T:Nat) (c:Bool) (i o n k:Nat) (ex:Bool) (es:Nat):gA P .eql T c (.slice i o n k ex es) .ah=true:=aa0 rfl (id rfl)
theorem anX (P:Program) (t:Array TypeId) (k j:IntKind) (a b:Int) (H:Hp):gI P .max t [.int k a,.int j b] H=some (.int k (if a<b then b else a),H):=aa0 rfl (id rfl)
theorem Es (P:Program) (t:Array TypeId) (k j:IntKind) (a b:Int) (H:Hp):gI P .min t [.int k a,.int j b] H=some (.int k (if b<a then b else a),H):=aa0 rfl (id rfl)
theorem Rw.jy {H:Hp} {x:AV} {l:List AV} (h:Rw H 1 x l) {i:Nat} {v:AV} (hv:l[i]? = some v) (k:IntKind):∃ q,ia 1 x (.int k i)=some q/\ld q H=some v:=by
 cases h with
 | nil=>cases hv
 | emp=>cases hv
 | @mk j off n cap ex l hr hn hc he=>
  have hi:=(aaK.1 hv).1
  refine⟨.ptr j (off+i),?_,hr.ld hv⟩
  have gU:i<n:=by omega
  rw[yL gU,aeu]
end K
end Go.Proofs.YtodfajmihkagnaaGreatDoor.Am
