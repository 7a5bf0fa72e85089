/- Laws that the proof uses. -/
import Derived.Test.YtodfajmihkagnaaGreatDoorAm7
import Derived.Lib.SlTrimSet
set_option linter.unusedVariables false
set_option linter.unusedSimpArgs false
namespace Go.Proofs.YtodfajmihkagnaaGreatDoor.Am
open Go.RowKit
section
section
variable {P:Program}{G:Nat}{F:Nat->Prop}{W:World}{e:Em}{H:Hp}{w:World}
theorem RH.below (h:RH G F W e H w){w':World}(hb:Below w.heap.size w w'):RH G F W e H w' :=
  ⟨h.N,λi o ho=>let ⟨a,ob,b,c,d⟩:=h.obj i o ho;⟨a,ob,(hb.block _ (abW.1 b).1).trans b,c,d⟩,h.inj,h.tI,
   λk hk=>⟨ac2 (h.frame k hk).1 hb.size,(hb.block k (h.frame k hk).1).trans (h.frame k hk).2⟩,hb.os.trans h.os,hb.tape.trans h.tape,hb.output.trans h.output,afi h.size hb.size,by obtain⟨g1,g2,g3⟩:=h.nK;have:=hb.size;omega⟩
def CZ (P:Program)(aV:Nat)(p:Prim):Prop:=
 ∀(args:List AV) (H:Hp) (v:AV) (H':Hp),p args H=some (v,H')->
  ∀(F:Nat->Prop) (W:World) (e:Em) (w:World) (as':Array Value),RH P.globals.size F W e H w->aR e args as'.toList->
   (callFunc aV as').run P w=.ok (.enter aV as') w/\Calls P aV as' w (IY P.globals.size F W e v H')
end
noncomputable section
def SI (c:Nat)(l:List Nat):Bool:=List.rec false (λb _ ih=>Bool.rec ih true (Nat.beq b c)) l
def Tp (cs:List Nat)(l:List Nat):List Nat:=List.rec [] (λb r ih=>Bool.rec (b::r) ih (SI b cs)) l
def Qq (l:List Nat):List Nat->List Nat:=List.rec (motive:=λ_=>List Nat->List Nat) (λa=>a) (λb _ ih a=>ih (b::a)) l
def EP (s cs:List Nat):List Nat:=Tp cs (Qq (Tp cs (Qq s [])) [])
def J6 (l:List Nat):Bool:=List.rec true (λb _ ih=>Bool.rec false ih (Nat.blt b 128)) l
def P1 (H:Hp)(s c:List Nat):Option (AV×Hp):=Bool.rec none (some (.str (EP s c),H)) (F.LQ (J6 c) (F.LQ (Nat.ble (F.HU s) 4294967296) (Nat.ble (F.HU c) 4294967280)))
def LY:Prim:=λargs H=>match args with
 |[a,b]=>(match a with|.str s=>(match b with|.str c=>P1 H s c|_=>none)|_=>none)|_=>none
end
theorem agI (c:Nat):∀l:List Nat,SI c l=l.contains c
 |[]=>rfl|b::l=>by
  show @Bool.rec (λ_=>Bool) (SI c l) true (Nat.beq b c)=_;rw[agI c l,List.contains_cons];by_cases h:b=c;·subst h;rw[zW];simp
  ·rw[rq h];have:(c==b)=false:=by simp;exactλq=>h q.symm
   rw[this];rfl
theorem Yk (cs:List Nat):∀l:List Nat,Tp cs l=l.dropWhile (cs.contains ·)
 |[]=>rfl|b::l=>by show @Bool.rec (λ_=>List Nat) (b::l) (Tp cs l) (SI b cs)=_;rw[agI,Yk cs l,List.dropWhile_cons];cases cs.contains b<;>rfl
theorem UA:∀(l a:List Nat),Qq l a=l.reverse++a
 |[],a=>rfl|b::l,a=>by show Qq l (b::a)=_;rw[UA l];simp
theorem aed (s cs:List Nat):EP s cs=((s.reverse.dropWhile (cs.contains ·)).reverse).dropWhile (cs.contains ·):=by unfold EP;rw[Yk,Yk,UA,UA,ac4,ac4]
theorem contains_map (cs:List UInt8)(b:UInt8):(cs.map (·.toNat)).contains b.toNat=cs.contains b:=by
 induction cs with
 |nil=>rfl|cons c cs ih=>
  rw[abo,List.contains_cons,List.contains_cons,ih];congr 1;rw[am6];simp[UInt8.toNat_inj]
theorem dropWhile_map (cs l:List UInt8):(l.map (·.toNat)).dropWhile ((cs.map (·.toNat)).contains ·)=(l.dropWhile (cs.contains ·)).map (·.toNat):=by
 induction l with
 |nil=>rfl|cons b l ih=>
  rw[abo,List.dropWhile_cons,List.dropWhile_cons,contains_map,ih];cases cs.contains b<;>rfl
theorem apr (s cs:List UInt8):EP (s.map (·.toNat)) (cs.map (·.toNat))=(Lib.trimS s cs).map (·.toNat):=by rw[aed,<-List.map_reverse,dropWhile_map,<-List.map_reverse,dropWhile_map];rfl
theorem ahC:∀l:List Nat,J6 l=true->∀x∈l,x<128
 |[],_,x,hx=>by cases hx
 |b::l,h,x,hx=>by
  have h':@Bool.rec (λ_=>Bool) false (J6 l) (Nat.blt b 128)=true:=h;cases hb:Nat.blt b 128 with
  |false=>rw[hb] at h';cases h'
  |true=>
   rw[hb] at h';rcases aal.1 hx with rfl|q;·rw[aeg] at hb;exact hb
   ·exact ahC l h' x q
theorem asx {P:Program}{f:Nat}(Ii:∀as' w,(callFunc f as').run P w=.ok (.enter f as') w)
  (hC:∀ (s c:ByteArray) (w:World),s.size<=9223372036854775807->c.size<4294967281->(∀ (j:Nat) b,c.data.toList[j]? = some b->b.toNat<128)->
   Calls P f #[.string s,.string c] w λe w'=>e=.returned (.string ⟨(Lib.trimS s.data.toList c.data.toList).toArray⟩)/\Below w.heap.size w w'):CZ P f LY:=by
 intro args H v H' hp Fr W e w as' hR ha;unfold LY at hp;split at hp
 ·rename_i a b;split at hp
  ·rename_i s;split at hp
   ·rename_i c;unfold P1 at hp;rw[F.St,F.St,F.RY,F.RY] at hp;cases hk:(J6 c&&(Nat.ble s.length 4294967296&&Nat.ble c.length 4294967280)) with
    |false=>rw[hk] at hp;cases hp
    |true=>
     rw[hk] at hp;cases hp;simp only[aam,aeF] at hk;obtain⟨h1,h2,h3⟩:=hk;obtain⟨a',r1,e1,oL,jX⟩:=ha.cons_inv;obtain⟨b',r2,e2,vY,rJ⟩:=jX.cons_inv;have e3:=rJ.mc;subst e3;subst e2;obtain⟨s',rfl,rfl⟩:=oL.oc;obtain⟨c',rfl,rfl⟩:=vY.oc;obtain rfl:as'=#[.string s',.string c']:=aee.1 e1;refine⟨Ii _ _,(hC s' c' w ?_ ?_ ?_).mono ?_⟩
     ·have:s'.size=(bytes s').length:=by simp[bytes]
      omega
     ·have:c'.size=(bytes c').length:=by simp[bytes]
      omega
     ·intro j b hb;exact ahC _ h1 b.toNat (by unfold bytes;exact abN.2 ⟨b,aab hb,rfl⟩)
     ·rintro en w' ⟨rfl,jj⟩;refine⟨e,_,rfl,e.le_refl,hR.below jj,?_⟩;have:EP (bytes s') (bytes c')=bytes ⟨(Lib.trimS s'.data.toList c'.data.toList).toArray⟩:=by unfold bytes;rw[apr]
      rw[this];exact .str _
   ·cases hp
  ·cases hp
 ·cases hp
end
inductive LO where
 |cells (lo:Nat) (el:TypeId) (fl:Nat) (vs:List AV)
 |bytes (lo:Nat) (el:TypeId) (fl:Nat) (bs:List Nat)
 |map (es:List ME) (clock:Nat)
noncomputable section
end
noncomputable section
end
end Go.Proofs.YtodfajmihkagnaaGreatDoor.Am
