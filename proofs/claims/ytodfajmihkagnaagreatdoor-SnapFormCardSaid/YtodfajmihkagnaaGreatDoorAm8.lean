/- Laws that the proof uses. -/
import Derived.Test.YtodfajmihkagnaaGreatDoorAm7
import Derived.Lib.SlTrimSet
set_option linter.unusedVariables false
set_option linter.unusedSimpArgs false
namespace Go.Proofs.YtodfajmihkagnaaGreatDoor.Am
open Go.RowKit
section
section
variable {P:Program}{G:Nat}{F:Nat->Prop}{W:World}{e:Em}{H:Hp}{w:World}
theorem RH.below (h:RH G F W e H w){w':World}(hb:Below w.heap.size w w'):RH G F W e H w' :=
  ⟨h.N,λi o ho=>let ⟨a,ob,b,c,d⟩:=h.obj i o ho;⟨a,ob,(hb.block _ (adh.1 b).1).trans b,c,d⟩,h.inj,h.ub,
   λk hk=>⟨aec (h.frame k hk).1 hb.size,(hb.block k (h.frame k hk).1).trans (h.frame k hk).2⟩,hb.os.trans h.os,hb.tape.trans h.tape,hb.output.trans h.output,ahc h.size hb.size,by obtain⟨g1,g2,g3⟩:=h.nL;have:=hb.size;omega⟩
def Cf (P:Program)(aU:Nat)(p:Prim):Prop:=
 ∀(args:List AV) (H:Hp) (v:AV) (H':Hp),p args H=some (v,H')->
  ∀(F:Nat->Prop) (W:World) (e:Em) (w:World) (as':Array Value),RH P.globals.size F W e H w->aV e args as'.toList->
   (callFunc aU as').run P w=.ok (.enter aU as') w/\Calls P aU as' w (HP P.globals.size F W e v H')
end
noncomputable section
def QZ (c:Nat)(l:List Nat):Bool:=List.rec false (λb _ ih=>Bool.rec ih true (Nat.beq b c)) l
def RE (cs:List Nat)(l:List Nat):List Nat:=List.rec [] (λb r ih=>Bool.rec (b::r) ih (QZ b cs)) l
def O0 (l:List Nat):List Nat->List Nat:=List.rec (motive:=λ_=>List Nat->List Nat) (λa=>a) (λb _ ih a=>ih (b::a)) l
def DW (s cs:List Nat):List Nat:=RE cs (O0 (RE cs (O0 s [])) [])
def I8 (l:List Nat):Bool:=List.rec true (λb _ ih=>Bool.rec false ih (Nat.blt b 128)) l
def Ox (H:Hp)(s c:List Nat):Option (AV×Hp):=Bool.rec none (some (.str (DW s c),H)) (F.KE (I8 c) (F.KE (Nat.ble (F.GX s) 4294967296) (Nat.ble (F.GX c) 4294967280)))
def KL:Prim:=λargs H=>match args with
 |[a,b]=>(match a with|.str s=>(match b with|.str c=>Ox H s c|_=>none)|_=>none)|_=>none
end
theorem aeT (c:Nat):∀l:List Nat,QZ c l=l.contains c
 |[]=>rfl|b::l=>by
  show @Bool.rec (λ_=>Bool) (QZ c l) true (Nat.beq b c)=_;rw[aeT c l,List.contains_cons];by_cases h:b=c;·subst h;rw[zq];simp
  ·rw[qz h];have:(c==b)=false:=by simp;exactλq=>h q.symm
   rw[this];rfl
theorem WH (cs:List Nat):∀l:List Nat,RE cs l=l.dropWhile (cs.contains ·)
 |[]=>rfl|b::l=>by show @Bool.rec (λ_=>List Nat) (b::l) (RE cs l) (QZ b cs)=_;rw[aeT,WH cs l,List.dropWhile_cons];cases cs.contains b<;>rfl
theorem SN:∀(l a:List Nat),O0 l a=l.reverse++a
 |[],a=>rfl|b::l,a=>by show O0 l (b::a)=_;rw[SN l];simp
theorem acu (s cs:List Nat):DW s cs=((s.reverse.dropWhile (cs.contains ·)).reverse).dropWhile (cs.contains ·):=by unfold DW;rw[WH,WH,SN,SN,adz,adz]
theorem contains_map (cs:List UInt8)(b:UInt8):(cs.map (·.toNat)).contains b.toNat=cs.contains b:=by
 induction cs with
 |nil=>rfl|cons c cs ih=>
  rw[ab9,List.contains_cons,List.contains_cons,ih];congr 1;rw[an3];simp[UInt8.toNat_inj]
theorem dropWhile_map (cs l:List UInt8):(l.map (·.toNat)).dropWhile ((cs.map (·.toNat)).contains ·)=(l.dropWhile (cs.contains ·)).map (·.toNat):=by
 induction l with
 |nil=>rfl|cons b l ih=>
  rw[ab9,List.dropWhile_cons,List.dropWhile_cons,contains_map,ih];cases cs.contains b<;>rfl
theorem ani (s cs:List UInt8):DW (s.map (·.toNat)) (cs.map (·.toNat))=(Lib.trimS s cs).map (·.toNat):=by rw[acu,<-List.map_reverse,dropWhile_map,<-List.map_reverse,dropWhile_map];rfl
theorem afO:∀l:List Nat,I8 l=true->∀x∈l,x<128
 |[],_,x,hx=>by cases hx
 |b::l,h,x,hx=>by
  have h':@Bool.rec (λ_=>Bool) false (I8 l) (Nat.blt b 128)=true:=h;cases hb:Nat.blt b 128 with
  |false=>rw[hb] at h';cases h'
  |true=>
   rw[hb] at h';rcases aar.1 hx with rfl|q;·rw[aeI] at hb;exact hb
   ·exact afO l h' x q
theorem aqj {P:Program}{f:Nat}(Hc:∀as' w,(callFunc f as').run P w=.ok (.enter f as') w)
  (hC:∀ (s c:ByteArray) (w:World),s.size<=9223372036854775807->c.size<4294967281->(∀ (j:Nat) b,c.data.toList[j]? = some b->b.toNat<128)->
   Calls P f #[.string s,.string c] w λe w'=>e=.returned (.string ⟨(Lib.trimS s.data.toList c.data.toList).toArray⟩)/\Below w.heap.size w w'):Cf P f KL:=by
 intro args H v H' hp Fr W e w as' hR ha;unfold KL at hp;split at hp
 ·rename_i a b;split at hp
  ·rename_i s;split at hp
   ·rename_i c;unfold Ox at hp;rw[F.QN,F.QN,F.Qp,F.Qp] at hp;cases hk:(I8 c&&(Nat.ble s.length 4294967296&&Nat.ble c.length 4294967280)) with
    |false=>rw[hk] at hp;cases hp
    |true=>
     rw[hk] at hp;cases hp;simp only[aaA,af1] at hk;obtain⟨h1,h2,h3⟩:=hk;obtain⟨a',r1,e1,nZ,jC⟩:=ha.cons_inv;obtain⟨b',r2,e2,vi,qK⟩:=jC.cons_inv;have e3:=qK.lH;subst e3;subst e2;obtain⟨s',rfl,rfl⟩:=nZ.nD;obtain⟨c',rfl,rfl⟩:=vi.nD;obtain rfl:as'=#[.string s',.string c']:=aes.1 e1;refine⟨Hc _ _,(hC s' c' w ?_ ?_ ?_).mono ?_⟩
     ·have:s'.size=(bytes s').length:=by simp[bytes]
      omega
     ·have:c'.size=(bytes c').length:=by simp[bytes]
      omega
     ·intro j b hb;exact afO _ h1 b.toNat (by unfold bytes;exact acx.2 ⟨b,aad hb,rfl⟩)
     ·rintro en w' ⟨rfl,jY⟩;refine⟨e,_,rfl,e.le_refl,hR.below jY,?_⟩;have:DW (bytes s') (bytes c')=bytes ⟨(Lib.trimS s'.data.toList c'.data.toList).toArray⟩:=by unfold bytes;rw[ani]
      rw[this];exact .str _
   ·cases hp
  ·cases hp
 ·cases hp
end
inductive LO where
 |cells (lo:Nat) (el:TypeId) (fl:Nat) (vs:List AV)
 |bytes (lo:Nat) (el:TypeId) (fl:Nat) (bs:List Nat)
 |map (es:List ME) (clock:Nat)
noncomputable section
end
noncomputable section
end
end Go.Proofs.YtodfajmihkagnaaGreatDoor.Am
