/- Laws that the proof uses. -/
import Derived.Test.YtodfajmihkagnaaGreatDoorAm7
import Derived.Lib.SlTrimSet
set_option linter.unusedVariables false
set_option linter.unusedSimpArgs false
namespace Go.Proofs.YtodfajmihkagnaaGreatDoor.Am
open Go.RowKit
section
section
variable {P:Program}{G:Nat}{F:Nat->Prop}{W:World}{e:Em}{H:Hp}{w:World}
theorem RH.below (h : RH G F W e H w){w' : World}(hb : Below w.heap.size w w') : RH G F W e H w' :=
  ⟨h.N, fun i o ho => let ⟨a, ob, b, c, d⟩ := h.obj i o ho;⟨a, ob, (hb.block _ (adt.1 b).1).trans b, c, d⟩, h.inj, h.si,
   fun k hk => ⟨aew (h.frame k hk).1 hb.size, (hb.block k (h.frame k hk).1).trans (h.frame k hk).2⟩, hb.os.trans h.os, hb.tape.trans h.tape, hb.output.trans h.output, ahS h.size hb.size, by obtain⟨g1, g2, g3⟩ := h.mL;have := hb.size;omega⟩
def yT (P:Program)(bg:Nat)(p:Prim):Prop:=
 ∀ (args:List AV) (H:Hp) (v:AV) (H':Hp),p args H=some (v,H')->
  ∀ (F:Nat->Prop) (W:World) (e:Em) (w:World) (aW:Array Value),RH P.globals.size F W e H w->bh e args aW.toList->
   (callFunc bg aW).run P w = .ok (.enter bg aW) w/\Calls P bg aW w (Fv P.globals.size F W e v H')
end
noncomputable section
def MJ (c:Nat)(l:List Nat):Bool:=List.rec false (fun b _ ih=>Bool.rec ih true (Nat.beq b c)) l
def OD (cs:List Nat)(l:List Nat):List Nat:=List.rec [] (fun b r ih=>Bool.rec (b::r) ih (MJ b cs)) l
def MI (l:List Nat):List Nat->List Nat:=List.rec (motive:=fun _=>List Nat->List Nat) (fun a=>a) (fun b _ ih a=>ih (b::a)) l
def Bm (s cs:List Nat):List Nat:=OD cs (MI (OD cs (MI s [])) [])
def Fc (l:List Nat):Bool:=List.rec true (fun b _ ih=>Bool.rec false ih (Nat.blt b 128)) l
def K8 (H:Hp)(s c:List Nat):Option (AV × Hp):=Bool.rec none (some (.str (Bm s c),H)) (F.HX (Fc c) (F.HX (Nat.ble (F.Ge s) 4294967296) (Nat.ble (F.Ge c) 4294967280)))
def GW:Prim:=fun args H=>match args with
 | [a,b]=>(match a with | .str s=>(match b with | .str c=>K8 H s c | _=>none) | _=>none)
 | _=>none
end
theorem abd (c:Nat):∀ l:List Nat,MJ c l=l.contains c
 | []=>rfl
 | b::l=>by
  show @Bool.rec (fun _=>Bool) (MJ c l) true (Nat.beq b c)=_
  rw[abd c l,List.contains_cons]
  by_cases h:b=c
  ·subst h;rw[wb];simp
  ·rw[pq h]
   have:(c==b)=false:=by simp;exact fun q=>h q.symm
   rw[this];rfl
theorem UD (cs:List Nat):∀ l:List Nat,OD cs l=l.dropWhile (cs.contains ·)
 | []=>rfl
 | b::l=>by
  show @Bool.rec (fun _=>List Nat) (b::l) (OD cs l) (MJ b cs)=_
  rw[abd,UD cs l,List.dropWhile_cons]
  cases cs.contains b<;>rfl
theorem PG:∀ (l a:List Nat),MI l a=l.reverse++a
 | [],a=>rfl
 | b::l,a=>by
  show MI l (b::a)=_
  rw[PG l];simp
theorem afR (s cs:List Nat):Bm s cs=((s.reverse.dropWhile (cs.contains ·)).reverse).dropWhile (cs.contains ·):=by
 unfold Bm
 rw[UD,UD,PG,PG,af9,af9]
theorem contains_map (cs:List UInt8)(b:UInt8):(cs.map (·.toNat)).contains b.toNat=cs.contains b:=by
 induction cs with
 | nil=>rfl
 | cons c cs ih=>
  rw[ac4,List.contains_cons,List.contains_cons,ih]
  congr 1
  rw[aku];simp[UInt8.toNat_inj]
theorem dropWhile_map (cs l:List UInt8):(l.map (·.toNat)).dropWhile ((cs.map (·.toNat)).contains ·)=(l.dropWhile (cs.contains ·)).map (·.toNat):=by
 induction l with
 | nil=>rfl
 | cons b l ih=>
  rw[ac4,List.dropWhile_cons,List.dropWhile_cons,contains_map,ih]
  cases cs.contains b<;>rfl
theorem alU (s cs:List UInt8):Bm (s.map (·.toNat)) (cs.map (·.toNat))=(Lib.trimS s cs).map (·.toNat):=by
 rw[afR,<-List.map_reverse,dropWhile_map,<-List.map_reverse,dropWhile_map]
 rfl
theorem WB:∀ l:List Nat,Fc l=true->∀ x∈l,x<128
 | [],_,x,hx=>by cases hx
 | b::l,h,x,hx=>by
  have h':@Bool.rec (fun _=>Bool) false (Fc l) (Nat.blt b 128)=true:=h
  cases hb:Nat.blt b 128 with
  | false=>rw[hb] at h';cases h'
  | true=>
   rw[hb] at h'
   rcases aa7.1 hx with rfl | q
   ·rw[ae2] at hb;exact hb
   ·exact WB l h' x q
theorem ao7 {P:Program}{f:Nat}(EN:∀ aW w,(callFunc f aW).run P w = .ok (.enter f aW) w)
  (hC:∀ (s c:ByteArray) (w:World),s.size<=9223372036854775807->c.size<4294967281->(∀ (j:Nat) b,c.data.toList[j]? = some b->b.toNat<128)->
   Calls P f #[.string s,.string c] w fun e w'=>e = .returned (.string ⟨(Lib.trimS s.data.toList c.data.toList).toArray⟩)/\Below w.heap.size w w'):yT P f GW:=by
 intro args H v H' hp Fr W e w aW hR ha
 unfold GW at hp
 split at hp
 ·rename_i a b
  split at hp
  ·rename_i s
   split at hp
   ·rename_i c
    unfold K8 at hp
    rw[F.Nu,F.Nu,F.Lu,F.Lu] at hp
    cases hk:(Fc c&&(Nat.ble s.length 4294967296&&Nat.ble c.length 4294967280)) with
    | false=>rw[hk] at hp;cases hp
    | true=>
     rw[hk] at hp
     cases hp
     simp only[aaT,afV] at hk
     obtain⟨h1,h2,h3⟩:=hk
     obtain⟨a',r1,e1,mN,ja⟩:=ha.cons_inv
     obtain⟨b',r2,e2,yB,pH⟩:=ja.cons_inv
     have e3:=pH.kX
     subst e3
     subst e2
     obtain⟨s',rfl,rfl⟩:=mN.mO
     obtain⟨c',rfl,rfl⟩:=yB.mO
     obtain rfl:aW = #[.string s',.string c']:=aeU.1 e1
     refine⟨EN _ _,(hC s' c' w ?_ ?_ ?_).mono ?_⟩
     ·have:s'.size=(bytes s').length:=by simp[bytes]
      omega
     ·have:c'.size=(bytes c').length:=by simp[bytes]
      omega
     ·intro j b hb
      exact WB _ h1 b.toNat (by unfold bytes;exact adD.2 ⟨b,aaO hb,rfl⟩)
     ·rintro en w' ⟨rfl,jQ⟩
      refine⟨e,_,rfl,e.le_refl,hR.below jQ,?_⟩
      have:Bm (bytes s') (bytes c')=bytes ⟨(Lib.trimS s'.data.toList c'.data.toList).toArray⟩:=by
       unfold bytes
       rw[alU]
      rw[this]
      exact .str _
   ·cases hp
  ·cases hp
 ·cases hp
end
inductive LO where
 | cells (lo:Nat) (el:TypeId) (fl:Nat) (vs:List AV)
 | bytes (lo:Nat) (el:TypeId) (fl:Nat) (bs:List Nat)
 | map (es:List ME) (clock:Nat)
noncomputable section
end
noncomputable section
end
end Go.Proofs.YtodfajmihkagnaaGreatDoor.Am
