/- Laws that the proof uses. -/
import Derived.Test.YtbdlbhlhnpblpaaGreatDoorAm7
import Derived.Lib.SlTrimSet
set_option linter.unusedVariables false
set_option linter.unusedSimpArgs false
namespace Go.Proofs.YtbdlbhlhnpblpaaGreatDoor.Am
open Go.RowKit
section
section
variable {P:Program}{G:Nat}{F:Nat->Prop}{W:World}{e:Em}{H:Hp}{w:World}
theorem RH.below (h : RH G F W e H w){w' : World}(hb : Below w.heap.size w w') : RH G F W e H w' :=
  ⟨h.N, fun i o ho => let ⟨a, ob, b, c, d⟩ := h.obj i o ho;⟨a, ob, (hb.block _ (abH.1 b).1).trans b, c, d⟩, h.inj, h.mG,
   fun k hk => ⟨aci (h.frame k hk).1 hb.size, (hb.block k (h.frame k hk).1).trans (h.frame k hk).2⟩, hb.os.trans h.os, hb.tape.trans h.tape, hb.output.trans h.output, abl h.size hb.size, by obtain⟨g1, g2, g3⟩ := h.iw;have := hb.size;omega⟩
def od (P:Program)(cl:Nat)(p:Prim):Prop:=
 ∀ (args:List AV) (H:Hp) (v:AV) (H':Hp),p args H=some (v,H')->
  ∀ (F:Nat->Prop) (W:World) (e:Em) (w:World) (bV:Array Value),RH P.globals.size F W e H w->cj e args bV.toList->
   (callFunc cl bV).run P w = .ok (.enter cl bV) w/\Calls P cl bV w (xF P.globals.size F W e v H')
end
noncomputable section
def Kx (c:Nat)(l:List Nat):Bool:=List.rec false (fun b _ ih=>Bool.rec ih true (Nat.beq b c)) l
def K0 (cs:List Nat)(l:List Nat):List Nat:=List.rec [] (fun b r ih=>Bool.rec (b::r) ih (Kx b cs)) l
def IY (l:List Nat):List Nat->List Nat:=List.rec (motive:=fun _=>List Nat->List Nat) (fun a=>a) (fun b _ ih a=>ih (b::a)) l
def Ba (s cs:List Nat):List Nat:=K0 cs (IY (K0 cs (IY s [])) [])
def Dc (l:List Nat):Bool:=List.rec true (fun b _ ih=>Bool.rec false ih (Nat.blt b 128)) l
def IG (H:Hp)(s c:List Nat):Option (AV × Hp):=Bool.rec none (some (.str (Ba s c),H)) (F.lW (Dc c) (F.lW (Nat.ble (F.lP s) 4294967296) (Nat.ble (F.lP c) 4294967280)))
def E8:Prim:=fun args H=>match args with
 | [a,b]=>(match a with | .str s=>(match b with | .str c=>IG H s c | _=>none) | _=>none)
 | _=>none
end
theorem Xa (c:Nat):∀ l:List Nat,Kx c l=l.contains c
 | []=>rfl
 | b::l=>by
  show @Bool.rec (fun _=>Bool) (Kx c l) true (Nat.beq b c)=_
  rw[Xa c l,List.contains_cons]
  by_cases h:b=c
  ·subst h;rw[qt];simp
  ·rw[lY h]
   have:(c==b)=false:=by simp;exact fun q=>h q.symm
   rw[this];rfl
theorem P6 (cs:List Nat):∀ l:List Nat,K0 cs l=l.dropWhile (cs.contains ·)
 | []=>rfl
 | b::l=>by
  show @Bool.rec (fun _=>List Nat) (b::l) (K0 cs l) (Kx b cs)=_
  rw[Xa,P6 cs l,List.dropWhile_cons]
  cases cs.contains b<;>rfl
theorem Md:∀ (l a:List Nat),IY l a=l.reverse++a
 | [],a=>rfl
 | b::l,a=>by
  show IY l (b::a)=_
  rw[Md l];simp
theorem adB (s cs:List Nat):Ba s cs=((s.reverse.dropWhile (cs.contains ·)).reverse).dropWhile (cs.contains ·):=by
 unfold Ba
 rw[P6,P6,Md,Md,aeD,aeD]
theorem contains_map (cs:List UInt8)(b:UInt8):(cs.map (·.toNat)).contains b.toNat=cs.contains b:=by
 induction cs with
 | nil=>rfl
 | cons c cs ih=>
  rw[abc,List.contains_cons,List.contains_cons,ih]
  congr 1
  rw[Bool.eq_iff_iff];simp[UInt8.toNat_inj]
theorem dropWhile_map (cs l:List UInt8):(l.map (·.toNat)).dropWhile ((cs.map (·.toNat)).contains ·)=(l.dropWhile (cs.contains ·)).map (·.toNat):=by
 induction l with
 | nil=>rfl
 | cons b l ih=>
  rw[abc,List.dropWhile_cons,List.dropWhile_cons,contains_map,ih]
  cases cs.contains b<;>rfl
theorem abS (s cs:List UInt8):Ba (s.map (·.toNat)) (cs.map (·.toNat))=(Lib.trimS s cs).map (·.toNat):=by
 rw[adB,<-List.map_reverse,dropWhile_map,<-List.map_reverse,dropWhile_map]
 rfl
theorem XD:∀ l:List Nat,Dc l=true->∀ x∈l,x<128
 | [],_,x,hx=>by cases hx
 | b::l,h,x,hx=>by
  have h':@Bool.rec (fun _=>Bool) false (Dc l) (Nat.blt b 128)=true:=h
  cases hb:Nat.blt b 128 with
  | false=>rw[hb] at h';cases h'
  | true=>
   rw[hb] at h'
   rcases aap.1 hx with rfl | q
   ·rw[acY] at hb;exact hb
   ·exact XD l h' x q
theorem adx {P:Program}{f:Nat}(nA:∀ bV w,(callFunc f bV).run P w = .ok (.enter f bV) w)
  (hC:∀ (s c:ByteArray) (w:World),s.size<=9223372036854775807->c.size<4294967281->(∀ (j:Nat) b,c.data.toList[j]? = some b->b.toNat<128)->
   Calls P f #[.string s,.string c] w fun e w'=>e = .returned (.string ⟨(Lib.trimS s.data.toList c.data.toList).toArray⟩)/\Below w.heap.size w w'):od P f E8:=by
 intro args H v H' hp Fr W e w bV hR ha
 unfold E8 at hp
 split at hp
 ·rename_i a b
  split at hp
  ·rename_i s
   split at hp
   ·rename_i c
    unfold IG at hp
    rw[F.pA,F.pA,F.rz,F.rz] at hp
    cases hk:(Dc c&&(Nat.ble s.length 4294967296&&Nat.ble c.length 4294967280)) with
    | false=>rw[hk] at hp;cases hp
    | true=>
     rw[hk] at hp
     cases hp
     simp only[aaK,acN] at hk
     obtain⟨h1,h2,h3⟩:=hk
     obtain⟨a',r1,e1,fu,ei⟩:=ha.cons_inv
     obtain⟨b',r2,e2,nF,pG⟩:=ei.cons_inv
     have e3:=pG.gg
     subst e3
     subst e2
     obtain⟨s',rfl,rfl⟩:=fu.iS
     obtain⟨c',rfl,rfl⟩:=nF.iS
     obtain rfl:bV = #[.string s',.string c']:=acB.1 e1
     refine⟨nA _ _,(hC s' c' w ?_ ?_ ?_).mono ?_⟩
     ·have:s'.size=(bytes s').length:=by simp[bytes]
      omega
     ·have:c'.size=(bytes c').length:=by simp[bytes]
      omega
     ·intro j b hb
      exact XD _ h1 b.toNat (by unfold bytes;exact abn.2 ⟨b,abY hb,rfl⟩)
     ·rintro en w' ⟨rfl,jr⟩
      refine⟨e,_,rfl,e.le_refl,hR.below jr,?_⟩
      have:Ba (bytes s') (bytes c')=bytes ⟨(Lib.trimS s'.data.toList c'.data.toList).toArray⟩:=by
       unfold bytes
       rw[abS]
      rw[this]
      exact .str _
   ·cases hp
  ·cases hp
 ·cases hp
end
inductive LO where
 | cells (lo:Nat) (el:TypeId) (fl:Nat) (vs:List AV)
 | bytes (lo:Nat) (el:TypeId) (fl:Nat) (bs:List Nat)
 | map (es:List ME) (clock:Nat)
noncomputable section
end
theorem Kq {α:Type}:∀ (l:List α) (t:Tr α) (n m:Nat),(t.cR n l).get m=if n<=m/\m<n+l.length then l[m-n]? else t.get m
 | [],t,n,m=>by
  rw[if_neg (by simp only[abQ];omega)];rfl
 | x::l,t,n,m=>by
  rw[Tr.cR,Kq l,Tr.put,Tr.eS]
  by_cases h1:m=n
  ·subst h1
   rw[if_neg (by omega),if_pos rfl,if_pos (by simp)];simp
  ·by_cases h2:n+1<=m/\m<n+1+l.length
   ·rw[if_pos h2,if_pos (by simp;omega)]
    have:m-n=(m-(n+1))+1:=by omega
    rw[this,gk]
   ·rw[if_neg h2,if_neg h1,if_neg (by simp;omega)]
noncomputable section
end
end Go.Proofs.YtbdlbhlhnpblpaaGreatDoor.Am
