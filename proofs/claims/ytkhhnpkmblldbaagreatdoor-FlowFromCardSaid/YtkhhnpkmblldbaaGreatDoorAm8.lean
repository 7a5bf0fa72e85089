/- Calls that are taken by a contract of their own; strings.Trim; calls that are run apart (of no program). -/
import Derived.Test.YtkhhnpkmblldbaaGreatDoorAm7
import Derived.Lib.SlTrimSet
set_option linter.unusedVariables false
set_option linter.unusedSimpArgs false
namespace Go.Proofs.YtkhhnpkmblldbaaGreatDoor.Am
open Go.RowKit
set_option linter.unusedVariables false
set_option linter.unusedSimpArgs false
section
variable {P:Program} {G:Nat} {F:Nat→Prop} {W:World} {e:Em} {H:Hp} {w:World}
theorem RH.below (h : RH G F W e H w) {w' : World} (hb : Below w.heap.size w w') : RH G F W e H w' :=
  ⟨h.N, fun i o ho => let ⟨a, ob, b, c, d⟩ := h.obj i o ho; ⟨a, ob, (hb.block _ (Array.getElem?_eq_some_iff.1 b).1).trans b, c, d⟩, h.inj, h.glob,
   fun k hk => ⟨Nat.lt_of_lt_of_le (h.frame k hk).1 hb.size, (hb.block k (h.frame k hk).1).trans (h.frame k hk).2⟩, hb.os.trans h.os, hb.tape.trans h.tape, hb.output.trans h.output, Nat.le_trans h.size hb.size, by obtain ⟨g1, g2, g3⟩ := h.gsz; have := hb.size; omega⟩
def PrimOne (P:Program) (fid:Nat) (p:Prim):Prop:=
 ∀ (args:List AV) (H:Hp) (v:AV) (H':Hp),p args H=some (v,H')→
  ∀ (F:Nat→Prop) (W:World) (e:Em) (w:World) (as':Array Value),RH P.globals.size F W e H w→VRL e args as'.toList→
   (callFunc fid as').run P w = .ok (.enter fid as') w∧Calls P fid as' w (CallPost P.globals.size F W e v H')
end
noncomputable section
def memC (c:Nat) (l:List Nat):Bool:=List.rec false (fun b _ ih=>Bool.rec ih true (Nat.beq b c)) l
def dropC (cs:List Nat) (l:List Nat):List Nat:=List.rec [] (fun b r ih=>Bool.rec (b::r) ih (memC b cs)) l
def revC (l:List Nat):List Nat→List Nat:=List.rec (motive:=fun _=>List Nat→List Nat) (fun a=>a) (fun b _ ih a=>ih (b::a)) l
def trimN (s cs:List Nat):List Nat:=dropC cs (revC (dropC cs (revC s [])) [])
def lowC (l:List Nat):Bool:=List.rec true (fun b _ ih=>Bool.rec false ih (Nat.blt b 128)) l
def trim2 (H:Hp) (s c:List Nat):Option (AV × Hp):=Bool.rec none (some (.str (trimN s c),H)) (F.bothB (lowC c) (F.bothB (Nat.ble (F.lenL s) 4294967296) (Nat.ble (F.lenL c) 4294967280)))
def trimP:Prim:=fun args H=>match args with
 | [a,b]=>(match a with | .str s=>(match b with | .str c=>trim2 H s c | _=>none) | _=>none)
 | _=>none
end
theorem memC_eq (c:Nat):∀ l:List Nat,memC c l=l.contains c
 | []=>rfl
 | b::l=>by
  show @Bool.rec (fun _=>Bool) (memC c l) true (Nat.beq b c)=_
  rw [memC_eq c l,List.contains_cons]
  by_cases h:b=c
  ·subst h; rw [beq_t]; simp
  ·rw [beq_f h]
   have:(c == b)=false:=by simp; exact fun q=>h q.symm
   rw [this]; rfl
theorem dropC_eq (cs:List Nat):∀ l:List Nat,dropC cs l=l.dropWhile (cs.contains ·)
 | []=>rfl
 | b::l=>by
  show @Bool.rec (fun _=>List Nat) (b::l) (dropC cs l) (memC b cs)=_
  rw [memC_eq,dropC_eq cs l,List.dropWhile_cons]
  cases cs.contains b <;> rfl
theorem revC_eq:∀ (l a:List Nat),revC l a=l.reverse++a
 | [],a=>rfl
 | b::l,a=>by
  show revC l (b::a)=_
  rw [revC_eq l]; simp
theorem trimN_eq (s cs:List Nat):trimN s cs=((s.reverse.dropWhile (cs.contains ·)).reverse).dropWhile (cs.contains ·):=by
 unfold trimN
 rw [dropC_eq,dropC_eq,revC_eq,revC_eq,List.append_nil,List.append_nil]
theorem contains_map (cs:List UInt8) (b:UInt8):(cs.map (·.toNat)).contains b.toNat=cs.contains b:=by
 induction cs with
 | nil=>rfl
 | cons c cs ih=>
  rw [List.map_cons,List.contains_cons,List.contains_cons,ih]
  congr 1
  rw [Bool.eq_iff_iff]; simp [UInt8.toNat_inj]
theorem dropWhile_map (cs l:List UInt8):(l.map (·.toNat)).dropWhile ((cs.map (·.toNat)).contains ·)=(l.dropWhile (cs.contains ·)).map (·.toNat):=by
 induction l with
 | nil=>rfl
 | cons b l ih=>
  rw [List.map_cons,List.dropWhile_cons,List.dropWhile_cons,contains_map,ih]
  cases cs.contains b <;> rfl
theorem trimN_map (s cs:List UInt8):trimN (s.map (·.toNat)) (cs.map (·.toNat))=(Lib.trimS s cs).map (·.toNat):=by
 rw [trimN_eq,← List.map_reverse,dropWhile_map,← List.map_reverse,dropWhile_map]
 rfl
theorem lowC_all:∀ l:List Nat,lowC l=true→∀ x∈l,x < 128
 | [],_,x,hx=>by cases hx
 | b::l,h,x,hx=>by
  have h':@Bool.rec (fun _=>Bool) false (lowC l) (Nat.blt b 128)=true:=h
  cases hb:Nat.blt b 128 with
  | false=>rw [hb] at h'; cases h'
  | true=>
   rw [hb] at h'
   rcases List.mem_cons.1 hx with rfl | q
   ·rw [Nat.blt_eq] at hb; exact hb
   ·exact lowC_all l h' x q
theorem trim_ok {P:Program} {f:Nat} (hen:∀ as' w,(callFunc f as').run P w = .ok (.enter f as') w)
  (hC:∀ (s c:ByteArray) (w:World),s.size≤9223372036854775807→c.size < 4294967281→(∀ (j:Nat) b,c.data.toList[j]? = some b→b.toNat < 128)→
   Calls P f #[.string s,.string c] w fun e w'=>e = .returned (.string ⟨(Lib.trimS s.data.toList c.data.toList).toArray⟩)∧Below w.heap.size w w'):PrimOne P f trimP:=by
 intro args H v H' hp Fr W e w as' hR ha
 unfold trimP at hp
 split at hp
 ·rename_i a b
  split at hp
  ·rename_i s
   split at hp
   ·rename_i c
    unfold trim2 at hp
    rw [F.bothB_eq,F.bothB_eq,F.lenL_eq,F.lenL_eq] at hp
    cases hk:(lowC c && (Nat.ble s.length 4294967296 && Nat.ble c.length 4294967280)) with
    | false=>rw [hk] at hp; cases hp
    | true=>
     rw [hk] at hp
     cases hp
     simp only [Bool.and_eq_true,Nat.ble_eq] at hk
     obtain ⟨h1,h2,h3⟩:=hk
     obtain ⟨a',r1,e1,hv1,hr1⟩:=ha.cons_inv
     obtain ⟨b',r2,e2,hv2,hr2⟩:=hr1.cons_inv
     have e3:=hr2.nil_inv
     subst e3
     subst e2
     obtain ⟨s',rfl,rfl⟩:=hv1.str_inv
     obtain ⟨c',rfl,rfl⟩:=hv2.str_inv
     obtain rfl:as' = #[.string s',.string c']:=Array.toList_inj.1 e1
     refine ⟨hen _ _,(hC s' c' w ?_ ?_ ?_).mono ?_⟩
     ·have:s'.size=(bytes s').length:=by simp [bytes]
      omega
     ·have:c'.size=(bytes c').length:=by simp [bytes]
      omega
     ·intro j b hb
      exact lowC_all _ h1 b.toNat (by unfold bytes; exact List.mem_map.2 ⟨b,List.mem_of_getElem? hb,rfl⟩)
     ·rintro en w' ⟨rfl,hbl⟩
      refine ⟨e,_,rfl,e.le_refl,hR.below hbl,?_⟩
      have:trimN (bytes s') (bytes c')=bytes ⟨(Lib.trimS s'.data.toList c'.data.toList).toArray⟩:=by
       unfold bytes
       rw [trimN_map]
      rw [this]
      exact .str _
   ·cases hp
  ·cases hp
 ·cases hp
end Go.Proofs.YtkhhnpkmblldbaaGreatDoor.Am
namespace Go.Proofs.YtkhhnpkmblldbaaGreatDoor.Am
set_option linter.unusedVariables false
set_option linter.unusedSimpArgs false
inductive LO where
 | cells (lo:Nat) (el:TypeId) (fl:Nat) (vs:List AV)
 | bytes (lo:Nat) (el:TypeId) (fl:Nat) (bs:List Nat)
 | map (es:List ME) (clock:Nat)
noncomputable section
end
noncomputable section
end
end Go.Proofs.YtkhhnpkmblldbaaGreatDoor.Am
