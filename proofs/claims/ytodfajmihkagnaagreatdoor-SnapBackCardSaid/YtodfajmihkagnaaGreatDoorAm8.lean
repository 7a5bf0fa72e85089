/- Laws that the proof uses. -/
import Derived.Test.YtodfajmihkagnaaGreatDoorAm7
import Derived.Lib.SlTrimSet
set_option linter.unusedVariables false
set_option linter.unusedSimpArgs false
namespace Go.Proofs.YtodfajmihkagnaaGreatDoor.Am
open Go.RowKit
section
section
variable {P:Program}{G:Nat}{F:Nat->Prop}{W:World}{e:Em}{H:Hp}{w:World}
theorem RH.below (h:RH G F W e H w){w':World}(hb:Below w.heap.size w w'):RH G F W e H w' :=
  ⟨h.N,λi o ho=>let ⟨a,ob,b,c,d⟩:=h.obj i o ho;⟨a,ob,(hb.block _ (acA.1 b).1).trans b,c,d⟩,h.inj,h.uH,
   λk hk=>⟨adi (h.frame k hk).1 hb.size,(hb.block k (h.frame k hk).1).trans (h.frame k hk).2⟩,hb.os.trans h.os,hb.tape.trans h.tape,hb.output.trans h.output,afz h.size hb.size,by obtain⟨g1,g2,g3⟩:=h.ou;have:=hb.size;omega⟩
def CY (P:Program)(aU:Nat)(p:Prim):Prop:=
 ∀(args:List AV) (H:Hp) (v:AV) (H':Hp),p args H=some (v,H')->
  ∀(F:Nat->Prop) (W:World) (e:Em) (w:World) (as':Array Value),RH P.globals.size F W e H w->aW e args as'.toList->
   (callFunc aU as').run P w=.ok (.enter aU as') w/\Calls P aU as' w (I5 P.globals.size F W e v H')
end
noncomputable section
def Tg (c:Nat)(l:List Nat):Bool:=List.rec false (λb _ ih=>Bool.rec ih true (Nat.beq b c)) l
def TX (cs:List Nat)(l:List Nat):List Nat:=List.rec [] (λb r ih=>Bool.rec (b::r) ih (Tg b cs)) l
def QJ (l:List Nat):List Nat->List Nat:=List.rec (motive:=λ_=>List Nat->List Nat) (λa=>a) (λb _ ih a=>ih (b::a)) l
def ES (s cs:List Nat):List Nat:=TX cs (QJ (TX cs (QJ s [])) [])
def Kf (l:List Nat):Bool:=List.rec true (λb _ ih=>Bool.rec false ih (Nat.blt b 128)) l
def Qi (H:Hp)(s c:List Nat):Option (AV×Hp):=Bool.rec none (some (.str (ES s c),H)) (F.LX (Kf c) (F.LX (Nat.ble (F.Ij s) 4294967296) (Nat.ble (F.Ij c) 4294967280)))
def L5:Prim:=λargs H=>match args with
 |[a,b]=>(match a with|.str s=>(match b with|.str c=>Qi H s c|_=>none)|_=>none)|_=>none
end
theorem ahv (c:Nat):∀l:List Nat,Tg c l=l.contains c
 |[]=>rfl|b::l=>by
  show @Bool.rec (λ_=>Bool) (Tg c l) true (Nat.beq b c)=_;rw[ahv c l,List.contains_cons];by_cases h:b=c;·subst h;rw[Ab];simp
  ·rw[rm h];have:(c==b)=false:=by simp;exactλq=>h q.symm
   rw[this];rfl
theorem Y7 (cs:List Nat):∀l:List Nat,TX cs l=l.dropWhile (cs.contains ·)
 |[]=>rfl|b::l=>by show @Bool.rec (λ_=>List Nat) (b::l) (TX cs l) (Tg b cs)=_;rw[ahv,Y7 cs l,List.dropWhile_cons];cases cs.contains b<;>rfl
theorem U9:∀(l a:List Nat),QJ l a=l.reverse++a
 |[],a=>rfl|b::l,a=>by show QJ l (b::a)=_;rw[U9 l];simp
theorem aeZ (s cs:List Nat):ES s cs=((s.reverse.dropWhile (cs.contains ·)).reverse).dropWhile (cs.contains ·):=by unfold ES;rw[Y7,Y7,U9,U9,acQ,acQ]
theorem contains_map (cs:List UInt8)(b:UInt8):(cs.map (·.toNat)).contains b.toNat=cs.contains b:=by
 induction cs with
 |nil=>rfl|cons c cs ih=>
  rw[aby,List.contains_cons,List.contains_cons,ih];congr 1;rw[ank];simp[UInt8.toNat_inj]
theorem dropWhile_map (cs l:List UInt8):(l.map (·.toNat)).dropWhile ((cs.map (·.toNat)).contains ·)=(l.dropWhile (cs.contains ·)).map (·.toNat):=by
 induction l with
 |nil=>rfl|cons b l ih=>
  rw[aby,List.dropWhile_cons,List.dropWhile_cons,contains_map,ih];cases cs.contains b<;>rfl
theorem aqa (s cs:List UInt8):ES (s.map (·.toNat)) (cs.map (·.toNat))=(Lib.trimS s cs).map (·.toNat):=by rw[aeZ,<-List.map_reverse,dropWhile_map,<-List.map_reverse,dropWhile_map];rfl
theorem air:∀l:List Nat,Kf l=true->∀x∈l,x<128
 |[],_,x,hx=>by cases hx
 |b::l,h,x,hx=>by
  have h':@Bool.rec (λ_=>Bool) false (Kf l) (Nat.blt b 128)=true:=h;cases hb:Nat.blt b 128 with
  |false=>rw[hb] at h';cases h'
  |true=>
   rw[hb] at h';rcases aaD.1 hx with rfl|q;·rw[adW] at hb;exact hb
   ·exact air l h' x q
theorem atn {P:Program}{f:Nat}(Iv:∀as' w,(callFunc f as').run P w=.ok (.enter f as') w)
  (hC:∀ (s c:ByteArray) (w:World),s.size<=9223372036854775807->c.size<4294967281->(∀ (j:Nat) b,c.data.toList[j]? = some b->b.toNat<128)->
   Calls P f #[.string s,.string c] w λe w'=>e=.returned (.string ⟨(Lib.trimS s.data.toList c.data.toList).toArray⟩)/\Below w.heap.size w w'):CY P f L5:=by
 intro args H v H' hp Fr W e w as' hR ha;unfold L5 at hp;split at hp
 ·rename_i a b;split at hp
  ·rename_i s;split at hp
   ·rename_i c;unfold Qi at hp;rw[F.S0,F.S0,F.Sp,F.Sp] at hp;cases hk:(Kf c&&(Nat.ble s.length 4294967296&&Nat.ble c.length 4294967280)) with
    |false=>rw[hk] at hp;cases hp
    |true=>
     rw[hk] at hp;cases hp;simp only[aaM,ae2] at hk;obtain⟨h1,h2,h3⟩:=hk;obtain⟨a',r1,e1,oV,jL⟩:=ha.cons_inv;obtain⟨b',r2,e2,vD,rI⟩:=jL.cons_inv;have e3:=rI.mh;subst e3;subst e2;obtain⟨s',rfl,rfl⟩:=oV.og;obtain⟨c',rfl,rfl⟩:=vD.og;obtain rfl:as'=#[.string s',.string c']:=adT.1 e1;refine⟨Iv _ _,(hC s' c' w ?_ ?_ ?_).mono ?_⟩
     ·have:s'.size=(bytes s').length:=by simp[bytes]
      omega
     ·have:c'.size=(bytes c').length:=by simp[bytes]
      omega
     ·intro j b hb;exact air _ h1 b.toNat (by unfold bytes;exact abT.2 ⟨b,aac hb,rfl⟩)
     ·rintro en w' ⟨rfl,kM⟩;refine⟨e,_,rfl,e.le_refl,hR.below kM,?_⟩;have:ES (bytes s') (bytes c')=bytes ⟨(Lib.trimS s'.data.toList c'.data.toList).toArray⟩:=by unfold bytes;rw[aqa]
      rw[this];exact .str _
   ·cases hp
  ·cases hp
 ·cases hp
end
inductive LO where
 |cells (lo:Nat) (el:TypeId) (fl:Nat) (vs:List AV)
 |bytes (lo:Nat) (el:TypeId) (fl:Nat) (bs:List Nat)
 |map (es:List ME) (clock:Nat)
noncomputable section
end
noncomputable section
end
end Go.Proofs.YtodfajmihkagnaaGreatDoor.Am
