/- Laws that the proof uses. -/
import Derived.Test.YtodfajmihkagnaaGreatDoorAm7
import Derived.Lib.SlTrimSet
set_option linter.unusedVariables false
set_option linter.unusedSimpArgs false
namespace Go.Proofs.YtodfajmihkagnaaGreatDoor.Am
open Go.RowKit
section
section
variable {P:Program}{G:Nat}{F:Nat->Prop}{W:World}{e:Em}{H:Hp}{w:World}
theorem RH.below (h : RH G F W e H w){w' : World}(hb : Below w.heap.size w w') : RH G F W e H w' :=
  ⟨h.N, fun i o ho => let ⟨a, ob, b, c, d⟩ := h.obj i o ho;⟨a, ob, (hb.block _ (abZ.1 b).1).trans b, c, d⟩, h.inj, h.pK,
   fun k hk => ⟨adm (h.frame k hk).1 hb.size, (hb.block k (h.frame k hk).1).trans (h.frame k hk).2⟩, hb.os.trans h.os, hb.tape.trans h.tape, hb.output.trans h.output, af2 h.size hb.size, by obtain⟨g1, g2, g3⟩ := h.lC;have := hb.size;omega⟩
def xn (P:Program)(aX:Nat)(p:Prim):Prop:=
 ∀ (args:List AV) (H:Hp) (v:AV) (H':Hp),p args H=some (v,H')->
  ∀ (F:Nat->Prop) (W:World) (e:Em) (w:World) (aR:Array Value),RH P.globals.size F W e H w->aP e args aR.toList->
   (callFunc aX aR).run P w = .ok (.enter aX aR) w/\Calls P aX aR w (DH P.globals.size F W e v H')
end
noncomputable section
def IJ (c:Nat)(l:List Nat):Bool:=List.rec false (fun b _ ih=>Bool.rec ih true (Nat.beq b c)) l
def JZ (cs:List Nat)(l:List Nat):List Nat:=List.rec [] (fun b r ih=>Bool.rec (b::r) ih (IJ b cs)) l
def LC (l:List Nat):List Nat->List Nat:=List.rec (motive:=fun _=>List Nat->List Nat) (fun a=>a) (fun b _ ih a=>ih (b::a)) l
def yB (s cs:List Nat):List Nat:=JZ cs (LC (JZ cs (LC s [])) [])
def DS (l:List Nat):Bool:=List.rec true (fun b _ ih=>Bool.rec false ih (Nat.blt b 128)) l
def Kx (H:Hp)(s c:List Nat):Option (AV × Hp):=Bool.rec none (some (.str (yB s c),H)) (F.HU (DS c) (F.HU (Nat.ble (F.BM s) 4294967296) (Nat.ble (F.BM c) 4294967280)))
def Fs:Prim:=fun args H=>match args with
 | [a,b]=>(match a with | .str s=>(match b with | .str c=>Kx H s c | _=>none) | _=>none)
 | _=>none
end
theorem Zn (c:Nat):∀ l:List Nat,IJ c l=l.contains c
 | []=>rfl
 | b::l=>by
  show @Bool.rec (fun _=>Bool) (IJ c l) true (Nat.beq b c)=_
  rw[Zn c l,List.contains_cons]
  by_cases h:b=c
  ·subst h;rw[uz];simp
  ·rw[oC h]
   have:(c==b)=false:=by simp;exact fun q=>h q.symm
   rw[this];rfl
theorem Og (cs:List Nat):∀ l:List Nat,JZ cs l=l.dropWhile (cs.contains ·)
 | []=>rfl
 | b::l=>by
  show @Bool.rec (fun _=>List Nat) (b::l) (JZ cs l) (IJ b cs)=_
  rw[Zn,Og cs l,List.dropWhile_cons]
  cases cs.contains b<;>rfl
theorem NQ:∀ (l a:List Nat),LC l a=l.reverse++a
 | [],a=>rfl
 | b::l,a=>by
  show LC l (b::a)=_
  rw[NQ l];simp
theorem S5 (s cs:List Nat):yB s cs=((s.reverse.dropWhile (cs.contains ·)).reverse).dropWhile (cs.contains ·):=by
 unfold yB
 rw[Og,Og,NQ,NQ,ag8,ag8]
theorem contains_map (cs:List UInt8)(b:UInt8):(cs.map (·.toNat)).contains b.toNat=cs.contains b:=by
 induction cs with
 | nil=>rfl
 | cons c cs ih=>
  rw[acW,List.contains_cons,List.contains_cons,ih]
  congr 1
  rw[Bool.eq_iff_iff];simp[UInt8.toNat_inj]
theorem dropWhile_map (cs l:List UInt8):(l.map (·.toNat)).dropWhile ((cs.map (·.toNat)).contains ·)=(l.dropWhile (cs.contains ·)).map (·.toNat):=by
 induction l with
 | nil=>rfl
 | cons b l ih=>
  rw[acW,List.dropWhile_cons,List.dropWhile_cons,contains_map,ih]
  cases cs.contains b<;>rfl
theorem ad0 (s cs:List UInt8):yB (s.map (·.toNat)) (cs.map (·.toNat))=(Lib.trimS s cs).map (·.toNat):=by
 rw[S5,<-List.map_reverse,dropWhile_map,<-List.map_reverse,dropWhile_map]
 rfl
theorem Xq:∀ l:List Nat,DS l=true->∀ x∈l,x<128
 | [],_,x,hx=>by cases hx
 | b::l,h,x,hx=>by
  have h':@Bool.rec (fun _=>Bool) false (DS l) (Nat.blt b 128)=true:=h
  cases hb:Nat.blt b 128 with
  | false=>rw[hb] at h';cases h'
  | true=>
   rw[hb] at h'
   rcases aaD.1 hx with rfl | q
   ·rw[adE] at hb;exact hb
   ·exact Xq l h' x q
theorem aeB {P:Program}{f:Nat}(CP:∀ aR w,(callFunc f aR).run P w = .ok (.enter f aR) w)
  (hC:∀ (s c:ByteArray) (w:World),s.size<=9223372036854775807->c.size<4294967281->(∀ (j:Nat) b,c.data.toList[j]? = some b->b.toNat<128)->
   Calls P f #[.string s,.string c] w fun e w'=>e = .returned (.string ⟨(Lib.trimS s.data.toList c.data.toList).toArray⟩)/\Below w.heap.size w w'):xn P f Fs:=by
 intro args H v H' hp Fr W e w aR hR ha
 unfold Fs at hp
 split at hp
 ·rename_i a b
  split at hp
  ·rename_i s
   split at hp
   ·rename_i c
    unfold Kx at hp
    rw[F.Kp,F.Kp,F.Ik,F.Ik] at hp
    cases hk:(DS c&&(Nat.ble s.length 4294967296&&Nat.ble c.length 4294967280)) with
    | false=>rw[hk] at hp;cases hp
    | true=>
     rw[hk] at hp
     cases hp
     simp only[aau,aer] at hk
     obtain⟨h1,h2,h3⟩:=hk
     obtain⟨a',r1,e1,lP,iB⟩:=ha.cons_inv
     obtain⟨b',r2,e2,vS,oy⟩:=iB.cons_inv
     have e3:=oy.jE
     subst e3
     subst e2
     obtain⟨s',rfl,rfl⟩:=lP.lU
     obtain⟨c',rfl,rfl⟩:=vS.lU
     obtain rfl:aR = #[.string s',.string c']:=adB.1 e1
     refine⟨CP _ _,(hC s' c' w ?_ ?_ ?_).mono ?_⟩
     ·have:s'.size=(bytes s').length:=by simp[bytes]
      omega
     ·have:c'.size=(bytes c').length:=by simp[bytes]
      omega
     ·intro j b hb
      exact Xq _ h1 b.toNat (by unfold bytes;exact acS.2 ⟨b,aao hb,rfl⟩)
     ·rintro en w' ⟨rfl,fT⟩
      refine⟨e,_,rfl,e.le_refl,hR.below fT,?_⟩
      have:yB (bytes s') (bytes c')=bytes ⟨(Lib.trimS s'.data.toList c'.data.toList).toArray⟩:=by
       unfold bytes
       rw[ad0]
      rw[this]
      exact .str _
   ·cases hp
  ·cases hp
 ·cases hp
end
inductive LO where
 | cells (lo:Nat) (el:TypeId) (fl:Nat) (vs:List AV)
 | bytes (lo:Nat) (el:TypeId) (fl:Nat) (bs:List Nat)
 | map (es:List ME) (clock:Nat)
noncomputable section
end
noncomputable section
end
end Go.Proofs.YtodfajmihkagnaaGreatDoor.Am
