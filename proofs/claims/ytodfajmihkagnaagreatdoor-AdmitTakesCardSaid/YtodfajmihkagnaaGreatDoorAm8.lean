/- Laws that the proof uses. -/
import Derived.Test.YtodfajmihkagnaaGreatDoorAm7
import Derived.Lib.SlTrimSet
set_option linter.unusedVariables false
set_option linter.unusedSimpArgs false
namespace Go.Proofs.YtodfajmihkagnaaGreatDoor.Am
open Go.RowKit
section
section
variable {P:Program}{G:Nat}{F:Nat->Prop}{W:World}{e:Em}{H:Hp}{w:World}
theorem RH.below (h : RH G F W e H w){w' : World}(hb : Below w.heap.size w w') : RH G F W e H w' :=
  ⟨h.N, fun i o ho => let ⟨a, ob, b, c, d⟩ := h.obj i o ho;⟨a, ob, (hb.block _ (acH.1 b).1).trans b, c, d⟩, h.inj, h.pY,
   fun k hk => ⟨adW (h.frame k hk).1 hb.size, (hb.block k (h.frame k hk).1).trans (h.frame k hk).2⟩, hb.os.trans h.os, hb.tape.trans h.tape, hb.output.trans h.output, agr h.size hb.size, by obtain⟨g1, g2, g3⟩ := h.lA;have := hb.size;omega⟩
def xr (P:Program)(aY:Nat)(p:Prim):Prop:=
 ∀ (args:List AV) (H:Hp) (v:AV) (H':Hp),p args H=some (v,H')->
  ∀ (F:Nat->Prop) (W:World) (e:Em) (w:World) (aS:Array Value),RH P.globals.size F W e H w->aQ e args aS.toList->
   (callFunc aY aS).run P w = .ok (.enter aY aS) w/\Calls P aY aS w (Bv P.globals.size F W e v H')
end
noncomputable section
def ID (c:Nat)(l:List Nat):Bool:=List.rec false (fun b _ ih=>Bool.rec ih true (Nat.beq b c)) l
def IV (cs:List Nat)(l:List Nat):List Nat:=List.rec [] (fun b r ih=>Bool.rec (b::r) ih (ID b cs)) l
def J4 (l:List Nat):List Nat->List Nat:=List.rec (motive:=fun _=>List Nat->List Nat) (fun a=>a) (fun b _ ih a=>ih (b::a)) l
def yR (s cs:List Nat):List Nat:=IV cs (J4 (IV cs (J4 s [])) [])
def Bz (l:List Nat):Bool:=List.rec true (fun b _ ih=>Bool.rec false ih (Nat.blt b 128)) l
def Jo (H:Hp)(s c:List Nat):Option (AV × Hp):=Bool.rec none (some (.str (yR s c),H)) (F.GW (Bz c) (F.GW (Nat.ble (F.Cd s) 4294967296) (Nat.ble (F.Cd c) 4294967280)))
def Ec:Prim:=fun args H=>match args with
 | [a,b]=>(match a with | .str s=>(match b with | .str c=>Jo H s c | _=>none) | _=>none)
 | _=>none
end
theorem Vn (c:Nat):∀ l:List Nat,ID c l=l.contains c
 | []=>rfl
 | b::l=>by
  show @Bool.rec (fun _=>Bool) (ID c l) true (Nat.beq b c)=_
  rw[Vn c l,List.contains_cons]
  by_cases h:b=c
  ·subst h;rw[ui];simp
  ·rw[nW h]
   have:(c==b)=false:=by simp;exact fun q=>h q.symm
   rw[this];rfl
theorem PM (cs:List Nat):∀ l:List Nat,IV cs l=l.dropWhile (cs.contains ·)
 | []=>rfl
 | b::l=>by
  show @Bool.rec (fun _=>List Nat) (b::l) (IV cs l) (ID b cs)=_
  rw[Vn,PM cs l,List.dropWhile_cons]
  cases cs.contains b<;>rfl
theorem OU:∀ (l a:List Nat),J4 l a=l.reverse++a
 | [],a=>rfl
 | b::l,a=>by
  show J4 l (b::a)=_
  rw[OU l];simp
theorem Uk (s cs:List Nat):yR s cs=((s.reverse.dropWhile (cs.contains ·)).reverse).dropWhile (cs.contains ·):=by
 unfold yR
 rw[PM,PM,OU,OU,ahD,ahD]
theorem contains_map (cs:List UInt8)(b:UInt8):(cs.map (·.toNat)).contains b.toNat=cs.contains b:=by
 induction cs with
 | nil=>rfl
 | cons c cs ih=>
  rw[adK,List.contains_cons,List.contains_cons,ih]
  congr 1
  rw[Bool.eq_iff_iff];simp[UInt8.toNat_inj]
theorem dropWhile_map (cs l:List UInt8):(l.map (·.toNat)).dropWhile ((cs.map (·.toNat)).contains ·)=(l.dropWhile (cs.contains ·)).map (·.toNat):=by
 induction l with
 | nil=>rfl
 | cons b l ih=>
  rw[adK,List.dropWhile_cons,List.dropWhile_cons,contains_map,ih]
  cases cs.contains b<;>rfl
theorem adk (s cs:List UInt8):yR (s.map (·.toNat)) (cs.map (·.toNat))=(Lib.trimS s cs).map (·.toNat):=by
 rw[Uk,<-List.map_reverse,dropWhile_map,<-List.map_reverse,dropWhile_map]
 rfl
theorem Vj:∀ l:List Nat,Bz l=true->∀ x∈l,x<128
 | [],_,x,hx=>by cases hx
 | b::l,h,x,hx=>by
  have h':@Bool.rec (fun _=>Bool) false (Bz l) (Nat.blt b 128)=true:=h
  cases hb:Nat.blt b 128 with
  | false=>rw[hb] at h';cases h'
  | true=>
   rw[hb] at h'
   rcases aaY.1 hx with rfl | q
   ·rw[ad5] at hb;exact hb
   ·exact Vj l h' x q
theorem aoN {P:Program}{f:Nat}(CQ:∀ aS w,(callFunc f aS).run P w = .ok (.enter f aS) w)
  (hC:∀ (s c:ByteArray) (w:World),s.size<=9223372036854775807->c.size<4294967281->(∀ (j:Nat) b,c.data.toList[j]? = some b->b.toNat<128)->
   Calls P f #[.string s,.string c] w fun e w'=>e = .returned (.string ⟨(Lib.trimS s.data.toList c.data.toList).toArray⟩)/\Below w.heap.size w w'):xr P f Ec:=by
 intro args H v H' hp Fr W e w aS hR ha
 unfold Ec at hp
 split at hp
 ·rename_i a b
  split at hp
  ·rename_i s
   split at hp
   ·rename_i c
    unfold Jo at hp
    rw[F.Im,F.Im,F.Ji,F.Ji] at hp
    cases hk:(Bz c&&(Nat.ble s.length 4294967296&&Nat.ble c.length 4294967280)) with
    | false=>rw[hk] at hp;cases hp
    | true=>
     rw[hk] at hp
     cases hp
     simp only[aaG,aez] at hk
     obtain⟨h1,h2,h3⟩:=hk
     obtain⟨a',r1,e1,lF,iq⟩:=ha.cons_inv
     obtain⟨b',r2,e2,vb,nM⟩:=iq.cons_inv
     have e3:=nM.jP
     subst e3
     subst e2
     obtain⟨s',rfl,rfl⟩:=lF.lP
     obtain⟨c',rfl,rfl⟩:=vb.lP
     obtain rfl:aS = #[.string s',.string c']:=adZ.1 e1
     refine⟨CQ _ _,(hC s' c' w ?_ ?_ ?_).mono ?_⟩
     ·have:s'.size=(bytes s').length:=by simp[bytes]
      omega
     ·have:c'.size=(bytes c').length:=by simp[bytes]
      omega
     ·intro j b hb
      exact Vj _ h1 b.toNat (by unfold bytes;exact adD.2 ⟨b,aaF hb,rfl⟩)
     ·rintro en w' ⟨rfl,gj⟩
      refine⟨e,_,rfl,e.le_refl,hR.below gj,?_⟩
      have:yR (bytes s') (bytes c')=bytes ⟨(Lib.trimS s'.data.toList c'.data.toList).toArray⟩:=by
       unfold bytes
       rw[adk]
      rw[this]
      exact .str _
   ·cases hp
  ·cases hp
 ·cases hp
end
inductive LO where
 | cells (lo:Nat) (el:TypeId) (fl:Nat) (vs:List AV)
 | bytes (lo:Nat) (el:TypeId) (fl:Nat) (bs:List Nat)
 | map (es:List ME) (clock:Nat)
noncomputable section
end
noncomputable section
end
end Go.Proofs.YtodfajmihkagnaaGreatDoor.Am
