/- Calls that are taken by a contract of their own; strings.Trim; calls that are run apart (of no program). -/
import Derived.Test.YtodfajmihkagnaaGreatDoorAm7
import Derived.Lib.SlTrimSet
set_option linter.unusedVariables false
set_option linter.unusedSimpArgs false
namespace Go.Proofs.YtodfajmihkagnaaGreatDoor.Am
open Go.RowKit
section
variable {P:Program} {G:Nat} {F:Nat->Prop} {W:World} {e:Em} {H:Hp} {w:World}
theorem RH.below (h : RH G F W e H w) {w' : World} (hb : Below w.heap.size w w') : RH G F W e H w' :=
  ⟨h.N, fun i o ho => let ⟨a, ob, b, c, d⟩ := h.obj i o ho;⟨a, ob, (hb.block _ (ab6.1 b).1).trans b, c, d⟩, h.inj, h.pf,
   fun k hk => ⟨ac8 (h.frame k hk).1 hb.size, (hb.block k (h.frame k hk).1).trans (h.frame k hk).2⟩, hb.os.trans h.os, hb.tape.trans h.tape, hb.output.trans h.output, afo h.size hb.size, by obtain⟨g1, g2, g3⟩ := h.kE;have := hb.size;omega⟩
def xA (P:Program) (bf:Nat) (p:Prim):Prop:=
 ∀ (args:List AV) (H:Hp) (v:AV) (H':Hp),p args H=some (v,H')->
  ∀ (F:Nat->Prop) (W:World) (e:Em) (w:World) (aY:Array Value),RH P.globals.size F W e H w->aP e args aY.toList->
   (callFunc bf aY).run P w = .ok (.enter bf aY) w/\Calls P bf aY w (De P.globals.size F W e v H')
end
noncomputable section
def KB (c:Nat) (l:List Nat):Bool:=List.rec false (fun b _ ih=>Bool.rec ih true (Nat.beq b c)) l
def Il (cs:List Nat) (l:List Nat):List Nat:=List.rec [] (fun b r ih=>Bool.rec (b::r) ih (KB b cs)) l
def Iz (l:List Nat):List Nat->List Nat:=List.rec (motive:=fun _=>List Nat->List Nat) (fun a=>a) (fun b _ ih a=>ih (b::a)) l
def yh (s cs:List Nat):List Nat:=Il cs (Iz (Il cs (Iz s [])) [])
def Dq (l:List Nat):Bool:=List.rec true (fun b _ ih=>Bool.rec false ih (Nat.blt b 128)) l
def Jx (H:Hp) (s c:List Nat):Option (AV × Hp):=Bool.rec none (some (.str (yh s c),H)) (F.Fh (Dq c) (F.Fh (Nat.ble (F.BU s) 4294967296) (Nat.ble (F.BU c) 4294967280)))
def Ee:Prim:=fun args H=>match args with
 | [a,b]=>(match a with | .str s=>(match b with | .str c=>Jx H s c | _=>none) | _=>none)
 | _=>none
end
theorem W5 (c:Nat):∀ l:List Nat,KB c l=l.contains c
 | []=>rfl
 | b::l=>by
  show @Bool.rec (fun _=>Bool) (KB c l) true (Nat.beq b c)=_
  rw[W5 c l,List.contains_cons]
  by_cases h:b=c
  ·subst h;rw[uV];simp
  ·rw[nY h]
   have:(c==b)=false:=by simp;exact fun q=>h q.symm
   rw[this];rfl
theorem OD (cs:List Nat):∀ l:List Nat,Il cs l=l.dropWhile (cs.contains ·)
 | []=>rfl
 | b::l=>by
  show @Bool.rec (fun _=>List Nat) (b::l) (Il cs l) (KB b cs)=_
  rw[W5,OD cs l,List.dropWhile_cons]
  cases cs.contains b<;>rfl
theorem Rq:∀ (l a:List Nat),Iz l a=l.reverse++a
 | [],a=>rfl
 | b::l,a=>by
  show Iz l (b::a)=_
  rw[Rq l];simp
theorem ZL (s cs:List Nat):yh s cs=((s.reverse.dropWhile (cs.contains ·)).reverse).dropWhile (cs.contains ·):=by
 unfold yh
 rw[OD,OD,Rq,Rq,agh,agh]
theorem contains_map (cs:List UInt8) (b:UInt8):(cs.map (·.toNat)).contains b.toNat=cs.contains b:=by
 induction cs with
 | nil=>rfl
 | cons c cs ih=>
  rw[acJ,List.contains_cons,List.contains_cons,ih]
  congr 1
  rw[aii];simp[UInt8.toNat_inj]
theorem dropWhile_map (cs l:List UInt8):(l.map (·.toNat)).dropWhile ((cs.map (·.toNat)).contains ·)=(l.dropWhile (cs.contains ·)).map (·.toNat):=by
 induction l with
 | nil=>rfl
 | cons b l ih=>
  rw[acJ,List.dropWhile_cons,List.dropWhile_cons,contains_map,ih]
  cases cs.contains b<;>rfl
theorem aid (s cs:List UInt8):yh (s.map (·.toNat)) (cs.map (·.toNat))=(Lib.trimS s cs).map (·.toNat):=by
 rw[ZL,<-List.map_reverse,dropWhile_map,<-List.map_reverse,dropWhile_map]
 rfl
theorem UR:∀ l:List Nat,Dq l=true->∀ x∈l,x<128
 | [],_,x,hx=>by cases hx
 | b::l,h,x,hx=>by
  have h':@Bool.rec (fun _=>Bool) false (Dq l) (Nat.blt b 128)=true:=h
  cases hb:Nat.blt b 128 with
  | false=>rw[hb] at h';cases h'
  | true=>
   rw[hb] at h'
   rcases abn.1 hx with rfl | q
   ·rw[adq] at hb;exact hb
   ·exact UR l h' x q
theorem anu {P:Program} {f:Nat} (BI:∀ aY w,(callFunc f aY).run P w = .ok (.enter f aY) w)
  (hC:∀ (s c:ByteArray) (w:World),s.size<=9223372036854775807->c.size<4294967281->(∀ (j:Nat) b,c.data.toList[j]? = some b->b.toNat<128)->
   Calls P f #[.string s,.string c] w fun e w'=>e = .returned (.string ⟨(Lib.trimS s.data.toList c.data.toList).toArray⟩)/\Below w.heap.size w w'):xA P f Ee:=by
 intro args H v H' hp Fr W e w aY hR ha
 unfold Ee at hp
 split at hp
 ·rename_i a b
  split at hp
  ·rename_i s
   split at hp
   ·rename_i c
    unfold Jx at hp
    rw[F.Iu,F.Iu,F.Jl,F.Jl] at hp
    cases hk:(Dq c&&(Nat.ble s.length 4294967296&&Nat.ble c.length 4294967280)) with
    | false=>rw[hk] at hp;cases hp
    | true=>
     rw[hk] at hp
     cases hp
     simp only[aa9,adH] at hk
     obtain⟨h1,h2,h3⟩:=hk
     obtain⟨a',r1,e1,mh,iG⟩:=ha.cons_inv
     obtain⟨b',r2,e2,wu,nZ⟩:=iG.cons_inv
     have e3:=nZ.jQ
     subst e3
     subst e2
     obtain⟨s',rfl,rfl⟩:=mh.lR
     obtain⟨c',rfl,rfl⟩:=wu.lR
     obtain rfl:aY = #[.string s',.string c']:=ado.1 e1
     refine⟨BI _ _,(hC s' c' w ?_ ?_ ?_).mono ?_⟩
     ·have:s'.size=(bytes s').length:=by simp[bytes]
      omega
     ·have:c'.size=(bytes c').length:=by simp[bytes]
      omega
     ·intro j b hb
      exact UR _ h1 b.toNat (by unfold bytes;exact acI.2 ⟨b,aa2 hb,rfl⟩)
     ·rintro en w' ⟨rfl,hJ⟩
      refine⟨e,_,rfl,e.le_refl,hR.below hJ,?_⟩
      have:yh (bytes s') (bytes c')=bytes ⟨(Lib.trimS s'.data.toList c'.data.toList).toArray⟩:=by
       unfold bytes
       rw[aid]
      rw[this]
      exact .str _
   ·cases hp
  ·cases hp
 ·cases hp
end Go.Proofs.YtodfajmihkagnaaGreatDoor.Am
namespace Go.Proofs.YtodfajmihkagnaaGreatDoor.Am
inductive LO where
 | cells (lo:Nat) (el:TypeId) (fl:Nat) (vs:List AV)
 | bytes (lo:Nat) (el:TypeId) (fl:Nat) (bs:List Nat)
 | map (es:List ME) (clock:Nat)
noncomputable section
end
noncomputable section
end
end Go.Proofs.YtodfajmihkagnaaGreatDoor.Am
