/- A small library on memory, over any program: what may have changed ('Only'), maps as association lists ('MapAt'), slices that are read ('RdS') and owned ('OwnS'), append onto an owned slice. -/
import Derived.WalkKit
import Derived.WalkLawsBesides
import Derived.Deep.AppendSrc
import Derived.Deep.Upon
import Derived.Deep.MidRow
import Derived.Lib.Hide
import Derived.Test.YtbdlbhlhnpblpaaGreatDoorRows
import Derived.Deep.QuietTactic
import Derived.BigQuiet
import Derived.StillTailTactics
import Derived.Deep.RegionHeld3
import Derived.Deep.RegionLaw
import Derived.Deep.AppendLies
import Derived.Outline
import Derived.KernelRfl
import Derived.Lib.VarintBits
import Derived.Lib.ConvBytes
import Derived.Lib.AtoiErrMem
import Derived.Lib.IfaceEq
import Derived.Test.YtbdlbhlhnpblpaaGreatDoorShelf
import Derived.Shelf.Strconv.ToError
import Derived.Shelf.Strconv.ToErrorRange
import Derived.Shelf.Strings.Prefix
import Derived.Test.YtbdlbhlhnpblpaaGreatDoorAm15
import Derived.Test.YtbdlbhlhnpblpaaGreatDoorAm9
import Derived.Shelf.SortM.Plain
import Derived.Shelf.SortM.SortNone
import Derived.Test.YtbdlbhlhnpblpaaGreatDoorProg
import Derived.ProofKit
import Derived.Deep.LoopGhost
import Derived.Lib.Walk
import Derived.Lib.SliceRun
import Derived.Test.YtbdlbhlhnpblpaaGreatDoorAm14
import Derived.Test.YtbdlbhlhnpblpaaGreatDoorFreeWalk
import Derived.Test.YtbdlbhlhnpblpaaGreatDoorNamesWalk
import Derived.ChangeMade
set_option linter.unusedVariables false
set_option linter.unusedSimpArgs false
set_option linter.unusedSectionVars false
namespace Go.Proofs.YtbdlbhlhnpblpaaGreatDoor.Hp
open Go Go.RowKit
theorem str_beq (a b:ByteArray):(a == b)=decide (a=b):=by
 cases a with | mk a=>
 cases b with | mk b=>
 rw [Bool.eq_iff_iff]
 constructor
 ·intro h
  have h2:(a == b)=true:=h
  simp at h2
  simp [h2]
 ·intro h
  simp at h
  subst h
  show (a == a)=true
  simp
theorem str_tl (a b:ByteArray):(a.toList == b.toList)=decide (a=b):=by rw [← beq_toListBytes,str_beq]
theorem str_tl_iff (a b:ByteArray):a.toList=b.toList ↔ a=b:=by
 have:=str_tl a b
 rw [Bool.eq_iff_iff] at this
 simpa using this
theorem cell_same {w:World} {a:Addr} {u v:Value} (h:w.cell? a=some u):(w.setCell a v).cell? a=some v:=World.cell?_setCell_same w a v h
theorem cell_other {w:World} {a b:Addr} {v:Value} (h:a≠b):(w.setCell a v).cell? b=w.cell? b:=World.cell?_setCell_other w a b v h
structure Only (S:Nat→Prop) (w w':World):Prop where
 os:w'.os=w.os
 tape:w'.tape=w.tape
 output:w'.output=w.output
 size:w.heap.size≤w'.heap.size
 block:∀ k,k < w.heap.size→¬ S k→w'.heap[k]? = w.heap[k]?
theorem Only.refl (S:Nat→Prop) (w:World):Only S w w:=⟨rfl,rfl,rfl,Nat.le_refl _,fun _ _ _=>rfl⟩
theorem Only.trans {S T:Nat→Prop} {a b c:World} (h:Only S a b) (k:Only T b c) (hT:∀ x,x < a.heap.size→T x→S x):Only S a c:=
 ⟨k.os.trans h.os,k.tape.trans h.tape,k.output.trans h.output,Nat.le_trans h.size k.size,
  fun i hi hn=>(k.block i (Nat.lt_of_lt_of_le hi h.size) (fun ht=>hn (hT i hi ht))).trans (h.block i hi hn)⟩
theorem Only.mono {S T:Nat→Prop} {a b:World} (h:Only S a b) (hS:∀ x,x < a.heap.size→S x→T x):Only T a b:=
 ⟨h.os,h.tape,h.output,h.size,fun i hi hn=>h.block i hi (fun hs=>hn (hS i hi hs))⟩
theorem Only.alloc {S:Nat→Prop} {a w:World} (h:Only S a w) (o:Obj):Only S a (w.alloc o):=
 ⟨h.os,h.tape,h.output,by simp; have:=h.size; omega,fun i hi hn=>by
  rw [Below.heap_alloc w o i (Nat.lt_of_lt_of_le hi h.size)]; exact h.block i hi hn⟩
theorem Only.setCell {S:Nat→Prop} {a w:World} (h:Only S a w) (p:Addr) (hp:a.heap.size≤p.block∨S p.block) (u:Value):Only S a (w.setCell p u):=
 ⟨h.os,h.tape,h.output,by simpa using h.size,fun i hi hn=>by
  rw [Below.heap_setCell w p u i (fun e=>by subst e; rcases hp with hp | hp; omega; exact hn hp)]; exact h.block i hi hn⟩
theorem Only.cell {S:Nat→Prop} {w w':World} (h:Only S w w') {p:Addr} (hp:p.block < w.heap.size) (hn:¬ S p.block):w'.cell? p=w.cell? p:=World.cell?_of_block (h.block p.block hp hn)
theorem Only.frozen {S:Nat→Prop} {w w':World} (h:Only S w w') {p:Addr} (hp:p.block < w.heap.size) (hn:¬ S p.block):w'.frozen? p=w.frozen? p:=World.frozen?_of_block (h.block p.block hp hn)
theorem Only.cellv {S:Nat→Prop} {w w':World} (h:Only S w w') {p:Addr} {v:Value} (hc:w.cell? p=some v) (hn:¬ S p.block):w'.cell? p=some v:=
 (h.cell (World.block_lt_of_cell? w p hc) hn).trans hc
theorem Only.below {S:Nat→Prop} {w w':World} (h:Only S w w') (B:Nat) (hB:B≤w.heap.size) (hS:∀ x,S x→B≤x):Below B w w':=
 ⟨h.os,h.tape,h.output,h.size,fun k hk=>h.block k (by omega) (fun hs=>by have:=hS k hs; omega)⟩
theorem Only.of_below {w w':World} (h:Below w.heap.size w w') (S:Nat→Prop):Only S w w':=⟨h.os,h.tape,h.output,h.size,fun k hk _=>h.block k hk⟩
structure KeyOK (P:Program) (kt:TypeId) {κ:Type} [DecidableEq κ] (ek:κ→Value):Prop where
 check:∀ em k w,(Instr.checkKey em 10000 kt (ek k)).run P w = .ok () w
 find:∀ k (es:List MapEntry) (ks:List κ) w,es.map (·.key)=ks.map ek→
  (Instr.findKey kt (ek k) es).run P w = .ok ((ks.findIdx? (fun x=>decide (x=k))).bind fun i=>(es[i]?).map fun e=>(i,e.val)) w
 stays:∀ k w,(Instr.keyThatStays (ek k) (ek k)).run P w = .ok (ek k) w
section keys
variable {P:Program} {kt:TypeId} {κ:Type} [DecidableEq κ] {ek:κ→Value}
theorem findAsking_of (h:∀ a b w,(Op.equal kt (ek a) (ek b)).run P w = .ok (decide (a=b)) w) (k:κ):∀ (es:List MapEntry) (ks:List κ) (n:Nat) (w:World),es.map (·.key)=ks.map ek→
  (Instr.findAsking kt (ek k) es n).run P w = .ok ((ks.findIdx? (fun x=>decide (x=k))).bind fun i=>(es[i]?).map fun e=>(n + i,e.val)) w
 | [],ks,n,w,hk=>by
  have:ks=[]:=by simpa using hk.symm
  subst this
  simp [Instr.findAsking]
 | e::es,[],n,w,hk=>by simp at hk
 | e::es,x::ks,n,w,hk=>by
  simp only [List.map_cons,List.cons.injEq] at hk
  obtain ⟨h1,h2⟩:=hk
  have ih:=findAsking_of h k es ks (n + 1) w h2
  unfold Instr.findAsking
  simp only [Sem.run_bind,h1,h k x w,Result.andThen]
  by_cases hx:k=x
  ·subst hx
   simp [List.findIdx?_cons]
  ·have hx':¬ x=k:=fun e=>hx e.symm
   simp only [hx,decide_false,ih,List.findIdx?_cons,hx',Bool.false_eq_true,if_false]
   cases ks.findIdx? (fun x=>decide (x=k)) with
   | none=>simp
   | some j=>simp [Nat.add_comm,Nat.add_left_comm]
theorem KeyOK.asked {d:TypeDesc} (hd:P.underlying kt=some d) (hc:∀ em k w,(Instr.checkKey em 10000 kt (ek k)).run P w = .ok () w) (hn:∀ a b,Instr.sameNow d (ek a) (ek b)=none)
  (h:∀ a b w,(Op.equal kt (ek a) (ek b)).run P w = .ok (decide (a=b)) w) (hs:∀ k,Instr.sameBits 10000 (ek k) (ek k)=true):KeyOK P kt ek where
 check:=hc
 find:=fun k es ks w hk=>by
  cases es with
  | nil=>
   have:ks=[]:=by simpa using hk.symm
   subst this
   simp [Instr.findKey,run_underlying hd,Result.andThen,Instr.findNow]
  | cons e es=>
   cases ks with
   | nil=>simp at hk
   | cons x ks=>
    have h1:=findAsking_of h k (e::es) (x::ks) 0 w hk
    simp only [List.map_cons,List.cons.injEq] at hk
    simp only [Nat.zero_add] at h1
    simp [Instr.findKey,run_underlying hd,Result.andThen,Instr.findNow,hk.1,hn]
    simpa using h1
 stays:=fun k w=>by simp [Instr.keyThatStays,hs k]
end keys
section maps
variable {κ:Type} [DecidableEq κ]
def MapAt (ek:κ→Value) (w:World) (b:Nat) (m:List (κ × Value)):Prop:=
 ∃ es clock,w.heap[b]? = some (.map es clock)∧es.toList.map (fun e=>(e.key,e.val))=m.map (fun p=>(ek p.1,p.2))∧(m.map (·.1)).Nodup∧
  es.toList.Pairwise (fun x y=>x.born < y.born)∧∀ e∈es.toList,e.born < clock
theorem MapAt.lt {ek:κ→Value} {w:World} {b:Nat} {m:List (κ × Value)} (h:MapAt ek w b m):b < w.heap.size:=by
 obtain ⟨es,clock,hb,_⟩:=h
 exact (Array.getElem?_eq_some_iff.1 hb).1
theorem MapAt.kept {ek:κ→Value} {w w':World} {b:Nat} {m:List (κ × Value)} (h:MapAt ek w b m) (hb:w'.heap[b]? = w.heap[b]?):MapAt ek w' b m:=by
 obtain ⟨es,clock,h1,h2⟩:=h
 exact ⟨es,clock,hb.trans h1,h2⟩
theorem MapAt.only {ek:κ→Value} {S:Nat→Prop} {w w':World} {b:Nat} {m:List (κ × Value)} (h:MapAt ek w b m) (ho:Only S w w') (hn:¬ S b):MapAt ek w' b m:=
 h.kept (ho.block b h.lt hn)
theorem MapAt.alloc {ek:κ→Value} {w:World} {b:Nat} {m:List (κ × Value)} (h:MapAt ek w b m) (o:Obj):MapAt ek (w.alloc o) b m:=h.kept (Below.heap_alloc w o b h.lt)
theorem MapAt.setCell {ek:κ→Value} {w:World} {b:Nat} {m:List (κ × Value)} (h:MapAt ek w b m) (p:Addr) (v:Value) (hp:b≠p.block):MapAt ek (w.setCell p v) b m:=h.kept (Below.heap_setCell w p v b hp)
theorem MapAt.made (ek:κ→Value) (w:World):MapAt ek (w.alloc (.map #[] 0)) w.heap.size []:=
 ⟨#[],0,heap_alloc_new w _,by simp,by simp,by simp,by simp⟩
section runs
variable {P:Program} {kt et mt:TypeId} {ek:κ→Value}
section ops
variable {ops:Array Oper} {rest:List Oper} {o:Oper} {a:Act} {w:World} {Q:Exit→Act→World→Prop} {Kc:Act→World→Prop}
end ops
end runs
end maps
def CellsAt (w:World) (b o:Nat) (xs:List Value):Prop:=∀ j u,xs[j]? = some u→w.cell? ⟨b,o + j,none⟩=some u
def FreeAt (w:World) (b o n:Nat):Prop:=∀ j,j < n→(w.cell? ⟨b,o + j,none⟩).isSome=true∧w.frozen? ⟨b,o + j,none⟩=false
def RdS (w:World) (sz:Nat) (v:Value) (n:Nat) (xs:List Value):Prop:=
 xs.length=n * sz∧∃ ad cap,v = .slice ad n cap∧n≤cap∧cap≤maxLen∧(0 < n→∃ b off,ad=some ⟨b,off,none⟩∧b < w.heap.size∧CellsAt w b off xs)
def OwnS (w:World) (sz:Nat) (v:Value) (n:Nat) (xs:List Value):Prop:=
 xs.length=n * sz∧((v = .slice none 0 0∧n=0)∨∃ b off cap,v = .slice (some ⟨b,off,none⟩) n cap∧n≤cap∧cap≤maxLen∧b < w.heap.size∧CellsAt w b off xs∧FreeAt w b off (cap * sz))
theorem CellsAt.only {S:Nat→Prop} {w w':World} {b o:Nat} {xs:List Value} (h:CellsAt w b o xs) (ho:Only S w w') (hb:b < w.heap.size) (hn:¬ S b):CellsAt w' b o xs:=
 fun j u hj=>(ho.cell (p:=⟨b,o + j,none⟩) hb hn).trans (h j u hj)
theorem FreeAt.only {S:Nat→Prop} {w w':World} {b o n:Nat} (h:FreeAt w b o n) (ho:Only S w w') (hb:b < w.heap.size) (hn:¬ S b):FreeAt w' b o n:=
 fun j hj=>by rw [ho.cell (p:=⟨b,o + j,none⟩) hb hn,ho.frozen (p:=⟨b,o + j,none⟩) hb hn]; exact h j hj
theorem RdS.only {S:Nat→Prop} {w w':World} {sz:Nat} {v:Value} {n:Nat} {xs:List Value} (h:RdS w sz v n xs) (ho:Only S w w') (hn:∀ b,v.ownBlock=some b→¬ S b):RdS w' sz v n xs:=by
 obtain ⟨h1,ad,cap,rfl,h2,h3,h4⟩:=h
 refine ⟨h1,ad,cap,rfl,h2,h3,fun h0 => ?_⟩
 obtain ⟨b,off,rfl,hb,hc⟩:=h4 h0
 exact ⟨b,off,rfl,Nat.lt_of_lt_of_le hb ho.size,hc.only ho hb (hn b rfl)⟩
theorem OwnS.only {S:Nat→Prop} {w w':World} {sz:Nat} {v:Value} {n:Nat} {xs:List Value} (h:OwnS w sz v n xs) (ho:Only S w w') (hn:∀ b,v.ownBlock=some b→¬ S b):OwnS w' sz v n xs:=by
 refine ⟨h.1,?_⟩
 rcases h.2 with h | ⟨b,off,cap,rfl,h2,h3,h4,h5,h6⟩
 ·exact .inl h
 ·exact .inr ⟨b,off,cap,rfl,h2,h3,Nat.lt_of_lt_of_le h4 ho.size,h5.only ho h4 (hn b rfl),h6.only ho h4 (hn b rfl)⟩
theorem OwnS.alloc {w:World} {sz:Nat} {v:Value} {n:Nat} {xs:List Value} (h:OwnS w sz v n xs) (o:Obj):OwnS (w.alloc o) sz v n xs:=h.only ((Only.refl (fun _=>False) w).alloc o) (fun _ _ h=>h)
theorem RdS.alloc {w:World} {sz:Nat} {v:Value} {n:Nat} {xs:List Value} (h:RdS w sz v n xs) (o:Obj):RdS (w.alloc o) sz v n xs:=h.only ((Only.refl (fun _=>False) w).alloc o) (fun _ _ h=>h)
theorem OwnS.lt {w:World} {sz:Nat} {v:Value} {n:Nat} {xs:List Value} (h:OwnS w sz v n xs):∀ b,v.ownBlock=some b→b < w.heap.size:=by
 intro b hb
 rcases h.2 with ⟨rfl,_⟩ | ⟨b',off,cap,rfl,_,_,h4,_⟩
 ·simp [Value.ownBlock] at hb
 ·simp [Value.ownBlock] at hb; subst hb; exact h4
theorem OwnS.nil (w:World) (sz:Nat):OwnS w sz (.slice none 0 0) 0 []:=⟨by simp,.inl ⟨rfl,rfl⟩⟩
theorem RdS.nil (w:World) (sz:Nat):RdS w sz (.slice none 0 0) 0 []:=⟨by simp,none,0,rfl,Nat.le_refl _,Nat.zero_le _,fun h=>by omega⟩
theorem OwnS.form {w:World} {sz:Nat} {v:Value} {n:Nat} {xs:List Value} (h:OwnS w sz v n xs) (hn:0 < n) :
  ∃ b off cap,v = .slice (some ⟨b,off,none⟩) n cap∧n≤cap∧cap≤maxLen∧b < w.heap.size∧CellsAt w b off xs∧FreeAt w b off (cap * sz):=by
 rcases h.2 with ⟨_,h0⟩ | h
 ·omega
 ·exact h
theorem RdS.form {w:World} {sz:Nat} {v:Value} {n:Nat} {xs:List Value} (h:RdS w sz v n xs) (hn:0 < n) :
  ∃ b off cap,v = .slice (some ⟨b,off,none⟩) n cap∧n≤cap∧cap≤maxLen∧b < w.heap.size∧CellsAt w b off xs:=by
 obtain ⟨h1,ad,cap,rfl,h2,h3,h4⟩:=h
 obtain ⟨b,off,rfl,hb,hc⟩:=h4 hn
 exact ⟨b,off,cap,rfl,h2,h3,hb,hc⟩
theorem RdS.val {w:World} {sz:Nat} {v:Value} {n:Nat} {xs:List Value} (h:RdS w sz v n xs):∃ ad cap,v = .slice ad n cap∧n≤cap∧cap≤maxLen:=by
 obtain ⟨h1,ad,cap,rfl,h2,h3,h4⟩:=h
 exact ⟨ad,cap,rfl,h2,h3⟩
theorem OwnS.tail {w:World} {sz b off n cap:Nat} {xs:List Value} (h:OwnS w sz (.slice (some ⟨b,off,none⟩) (n + 1) cap) (n + 1) xs) :
  OwnS w sz (.slice (some ⟨b,if cap=1 then off else off + sz,none⟩) n (cap - 1)) n (xs.drop sz):=by
 refine ⟨by rw [List.length_drop,h.1,Nat.succ_mul]; omega,?_⟩
 rcases h.2 with ⟨h0,_⟩ | ⟨b',off',cap',h1,h2,h3,h4,h5,h6⟩
 ·cases h0
 ·cases h1
  refine .inr ⟨b,_,cap - 1,rfl,by omega,by omega,h4,?_,?_⟩
  ·by_cases e:cap=1
   ·have hn:n=0:=by omega
    subst hn
    have:xs.drop sz=[]:=by rw [List.drop_eq_nil_iff,h.1]; omega
    rw [this]
    intro j u hj
    simp at hj
   ·rw [if_neg e]
    intro j u hj
    rw [List.getElem?_drop] at hj
    have:=h5 _ u hj
    rwa [← Nat.add_assoc] at this
  ·by_cases e:cap=1
   ·subst e
    intro j hj
    simp at hj
   ·rw [if_neg e]
    intro j hj
    have hle:sz + j < cap * sz:=by
     have:(cap - 1) * sz + sz=cap * sz:=by rw [← Nat.succ_mul]; congr 1; omega
     omega
    have:=h6 (sz + j) hle
    rwa [← Nat.add_assoc] at this
theorem addr_add (b off j:Nat):(⟨b,off,none⟩:Addr).add j=⟨b,off + j,none⟩:=by unfold Addr.add; split <;> simp_all
theorem frozen_new (w:World) (c:Array Value) (t:TypeId) (n i:Nat) (h:n=w.heap.size):(w.alloc (.cells c t)).frozen? ⟨n,i,none⟩=false:=by
 subst h; simp
theorem RdS.src {P:Program} {w:World} {sz:Nat} {v:Value} {n:Nat} {xs:List Value} (h:RdS w sz v n xs) {tx e':TypeId} (hk:P.underlying tx=some (.slice e')) (h1:∀ u∈xs,u.oneCell'=true):Src P sz tx v n xs w:=by
 obtain ⟨hl,ad,cap,rfl,h2,h3,h4⟩:=h
 rcases Nat.eq_zero_or_pos n with rfl | hn
 ·have:xs=[]:=List.eq_nil_of_length_eq_zero (by simpa using hl)
  subst this
  cases ad with
  | none=>exact Src.ofNil w hk cap
  | some a=>exact Src.ofSlice w hk a 0 cap [] (by simp) (fun j u hj=>by simp at hj) h1
 ·obtain ⟨b,off,rfl,hb,hc⟩:=h4 hn
  exact Src.ofSlice w hk ⟨b,off,none⟩ n cap xs hl (fun j u hj=>by rw [addr_add]; exact hc j u hj) h1
theorem OwnS.empty (w:World) (sz:Nat) (b:Nat) (h:b < w.heap.size):OwnS w sz (.slice (some ⟨b,0,none⟩) 0 0) 0 []:=
 ⟨by simp,.inr ⟨b,0,0,rfl,Nat.le_refl _,Nat.zero_le _,h,fun j u hj=>by simp at hj,fun j hj=>by simp at hj⟩⟩
section appendOps
variable {P:Program} {ops:Array Oper} {rest:List Oper} {o:Oper} {a:Act} {w:World} {Q:Exit→Act→World→Prop} {Kc:Act→World→Prop}
end appendOps
end Go.Proofs.YtbdlbhlhnpblpaaGreatDoor.Hp
set_option linter.unusedVariables false
namespace Go.Proofs.YtbdlbhlhnpblpaaGreatDoor.Hp
open Go Go.RowKit
def bys (l:List UInt8):List Value:=l.map fun b => .int .u8 b.toNat
theorem bys_length (l:List UInt8):(bys l).length=l.length:=by simp [bys]
theorem run_str {P:Program} {w:World} (src dst e:TypeId) (hs:P.underlying src=some (.slice e)) (he:P.underlying e=some (.int .u8)) (hd:P.underlying dst=some .string) {v:Value} {n:Nat} {l:List UInt8} (h:RdS w 1 v n (bys l)) :
  (convert src dst v).run P w = .ok (.string ⟨l.toArray⟩) w:=by
 obtain ⟨hl,ad,cap,rfl,h2,h3,h4⟩:=h
 rw [bys_length,Nat.mul_one] at hl
 rcases Nat.eq_zero_or_pos n with h0 | hn
 ·subst h0
  have:l=[]:=List.eq_nil_of_length_eq_zero hl
  subst this
  cases ad with
  | none=>exact run_convert_bytes_nil (P:=P) (w:=w) src e hs he 0 cap dst hd
  | some a=>exact run_convert_bytes_back w src dst e a cap [] hs he hd (fun j hj=>by simp at hj)
 ·obtain ⟨b,off,rfl,hb,hc⟩:=h4 hn
  rw [← hl]
  refine run_convert_bytes_back w src dst e ⟨b,off,none⟩ cap l hs he hd (fun j hj => ?_)
  rw [addr_add]
  exact hc j _ (by simp [bys,hj])
end Go.Proofs.YtbdlbhlhnpblpaaGreatDoor.Hp
set_option linter.unusedVariables false
set_option linter.unusedSimpArgs false
namespace Go.Proofs.YtbdlbhlhnpblpaaGreatDoor.Sg
def hd (n:Nat):UInt8:=UInt8.ofNat (if n < 10 then 48 + n else 87 + n)
def pad:Nat→Nat→List UInt8
 | 0,_=>[]
 | k + 1,n=>pad k (n / 16)++[hd (n % 16)]
def nm (n:Nat):List UInt8:=119::45::pad 12 n
theorem pad_length:∀ (k n:Nat),(pad k n).length=k
 | 0,_=>rfl
 | k + 1,n=>by simp [pad,pad_length k]
theorem nm_length (n:Nat):(nm n).length=14:=by simp [nm,pad_length]
theorem pad_cons:∀ (j n:Nat),pad (j + 1) n=hd (n / 16 ^ j % 16)::pad j n
 | 0,n=>by simp [pad]
 | j + 1,n=>by
  have h:=pad_cons j (n / 16)
  have hd2:n / 16 / 16 ^ j=n / 16 ^ (j + 1):=by
   rw [Nat.div_div_eq_div_mul,Nat.pow_succ,Nat.mul_comm]
  calc pad (j + 2) n=pad (j + 1) (n / 16)++[hd (n % 16)]:=rfl
   _=(hd (n / 16 / 16 ^ j % 16)::pad j (n / 16))++[hd (n % 16)]:=by rw [h]
   _=hd (n / 16 ^ (j + 1) % 16)::pad (j + 1) n:=by rw [hd2]; rfl
theorem pad_zero:∀ (k:Nat),pad k 0=List.replicate k 48
 | 0=>rfl
 | k + 1=>by
  rw [List.replicate_succ',← pad_zero k]
  rfl
theorem pad_more:∀ (m k n:Nat),n < 16 ^ m→pad (m + k) n=List.replicate k 48++pad m n
 | 0,k,n,h=>by
  have:n=0:=by simpa using h
  subst this
  simp [pad_zero,pad]
 | m + 1,k,n,h=>by
  have h2:n / 16 < 16 ^ m:=by
   rw [Nat.div_lt_iff_lt_mul (by omega)]
   rw [Nat.pow_succ] at h
   exact h
  have:=pad_more m k (n / 16) h2
  rw [show m + 1 + k=(m + k) + 1 by omega]
  show pad (m + k) (n / 16)++[hd (n % 16)]=List.replicate k 48++(pad m (n / 16)++[hd (n % 16)])
  rw [this,List.append_assoc]
def dgo (c:UInt8):Option Nat:=
 if 97≤c.toNat then (if c.toNat≤102 then some (c.toNat - 87) else none)
 else if 48≤c.toNat∧c.toNat≤63 then some (c.toNat - 48) else none
def dec (m:Nat):List UInt8→Option Nat
 | []=>some m
 | c::cs=>match dgo c with
  | none=>none
  | some d=>dec (m * 16 + d) cs
theorem dec_append:∀ (a b:List UInt8) (m:Nat),dec m (a++b)=(dec m a).bind (fun x=>dec x b)
 | [],b,m=>by simp [dec]
 | c::cs,b,m=>by
  simp only [List.cons_append,dec]
  cases dgo c with
  | none=>rfl
  | some d=>exact dec_append cs b _
theorem dgo_hd (d:Nat) (h:d < 16):dgo (hd d)=some d:=by
 have k:∀ d:Fin 16,dgo (hd d)=some (d:Nat):=by decide
 exact k ⟨d,h⟩
theorem mod_step (n k:Nat):n / 16 % 16 ^ k * 16 + n % 16=n % 16 ^ (k + 1):=by
 have h1:n % 16 ^ (k + 1)=n % (16 * 16 ^ k):=by rw [Nat.pow_succ,Nat.mul_comm]
 rw [h1,Nat.mod_mul]
 omega
theorem dec_pad:∀ (k n m:Nat),dec m (pad k n)=some (m * 16 ^ k + n % 16 ^ k)
 | 0,n,m=>by simp [pad,dec,Nat.mod_one]
 | k + 1,n,m=>by
  show dec m (pad k (n / 16)++[hd (n % 16)])=_
  rw [dec_append,dec_pad k (n / 16) m]
  simp only [Option.bind_some,dec,dgo_hd (n % 16) (by omega)]
  rw [← mod_step,Nat.pow_succ]
  congr 1
  have:m * (16 ^ k * 16)=m * 16 ^ k * 16:=by rw [Nat.mul_assoc]
  omega
def sp (l:List UInt8):Nat × Bool:=
 if l.length=14 then
  match dec 0 (l.drop 2) with
  | none=>(0,false)
  | some n=>if n < 2 ^ 44∧nm n=l then (n,true) else (0,false)
 else (0,false)
theorem sp_nm (n:Nat) (h:n < 2 ^ 44):sp (nm n)=(n,true):=by
 have h2:(nm n).drop 2=pad 12 n:=rfl
 have h3:n % 16 ^ 12=n:=Nat.mod_eq_of_lt (by omega)
 rw [sp,if_pos (nm_length n),h2,dec_pad]
 simp only [Nat.zero_mul,Nat.zero_add,h3]
 simp [h]
theorem sp_not (l:List UInt8) (h:∀ n,n < 2 ^ 44→nm n≠l):sp l=(0,false):=by
 rw [sp]
 split
 ·split
  ·rfl
  ·rename_i n _
   rw [if_neg (fun k=>h n k.1 k.2)]
 ·rfl
def lo (c:UInt8):Nat:=c.toNat ||| 32
def dl (c:UInt8):Option Nat:=
 if 48≤c.toNat∧c.toNat≤57 then some (c.toNat - 48)
 else if 97≤lo c∧lo c≤122 then some (lo c - 87) else none
def pug (m:Nat):List UInt8→Nat × Nat
 | []=>(m,0)
 | c::cs=>match dl c with
  | none=>(0,2)
  | some d=>if 16≤d then (0,2) else if 2 ^ 60≤m then (2 ^ 64 - 1,1) else pug (m * 16 + d) cs
theorem dl_hd (d:Nat) (h:d < 16):dl (hd d)=some d:=by
 have k:∀ d:Fin 16,dl (hd d)=some (d:Nat):=by decide
 exact k ⟨d,h⟩
theorem pug_append:∀ (a b:List UInt8) (m x:Nat),pug m a=(x,0)→pug m (a++b)=pug x b
 | [],b,m,x,h=>by
  simp only [pug,Prod.mk.injEq] at h
  rw [← h.1]; rfl
 | c::cs,b,m,x,h=>by
  simp only [List.cons_append,pug] at h ⊢
  revert h
  cases dl c with
  | none=>intro h; simp at h
  | some d=>
   simp only
   split
   ·intro h; simp at h
   ·split
    ·intro h; simp at h
    ·intro h; exact pug_append cs b _ x h
theorem pug_pad:∀ (k n m:Nat),(m + 1) * 16 ^ k≤2 ^ 60→pug m (pad k n)=(m * 16 ^ k + n % 16 ^ k,0)
 | 0,n,m,h=>by simp [pad,pug,Nat.mod_one]
 | k + 1,n,m,h=>by
  have hp:(m + 1) * 16 ^ k * 16≤2 ^ 60:=by rw [Nat.pow_succ,← Nat.mul_assoc] at h; exact h
  have h2:=pug_pad k (n / 16) m (by omega)
  show pug m (pad k (n / 16)++[hd (n % 16)])=_
  rw [pug_append _ _ _ _ h2]
  have hb:n / 16 % 16 ^ k < 16 ^ k:=Nat.mod_lt _ (Nat.pow_pos (by omega))
  have he:(m + 1) * 16 ^ k=m * 16 ^ k + 16 ^ k:=by rw [Nat.add_mul,Nat.one_mul]
  simp only [pug,dl_hd (n % 16) (by omega)]
  rw [if_neg (by omega),if_neg (by omega),← mod_step,Nat.pow_succ]
  congr 1
  have:m * (16 ^ k * 16)=m * 16 ^ k * 16:=by rw [Nat.mul_assoc]
  omega
theorem pug_code (l:List UInt8) (m:Nat):(pug m l).2=0∨(pug m l=(2 ^ 64 - 1,1))∨(pug m l=(0,2)):=by
 induction l generalizing m with
 | nil=>exact .inl rfl
 | cons c cs ih=>
  simp only [pug]
  split
  ·exact .inr (.inr rfl)
  ·split
   ·exact .inr (.inr rfl)
   ·split
    ·exact .inr (.inl rfl)
    ·exact ih _
theorem pug_lt (l:List UInt8) (m:Nat) (h:m < 2 ^ 64):(pug m l).1 < 2 ^ 64:=by
 induction l generalizing m with
 | nil=>exact h
 | cons c cs ih=>
  simp only [pug]
  split
  ·show 0 < 2 ^ 64; omega
  ·split
   ·show 0 < 2 ^ 64; omega
   ·split
    ·show 2 ^ 64 - 1 < 2 ^ 64; omega
    ·exact ih _ (by omega)
end Go.Proofs.YtbdlbhlhnpblpaaGreatDoor.Sg
set_option linter.unusedVariables false
set_option linter.unusedSimpArgs false
namespace Go.Proofs.YtbdlbhlhnpblpaaGreatDoor.SgW
open Go.RowKit Hp Sg
set_option maxRecDepth 100000 in
theorem tz (w:World) (h:w.cell? ⟨7,15,none⟩=some (.int .u8 4)) :
  Calls Tryz.prog 142 #[.int .u64 16] w fun e w'=>e = .returned (.int .i64 4)∧w'=w:=by
 have h0:IntKind.u64.wrap (bits BinOp.and IntKind.u64 16 (IntKind.u64.wrap (-16)) * 285870213051353865) / 288230376151711744=15:=by kernel_rfl
 go_enter Tryz.func142,Tryz.ntmps142
 go_wp2
 go_ret
 exact ⟨rfl,rfl⟩
theorem pw2 (w:World) :
  Calls Tryz.prog 141 #[.int .i64 16] w fun e w'=>e = .returned (.bool true)∧w'=w:=by
 go_enter Tryz.func141,Tryz.ntmps141
 go_wp2
 go_ret
 exact ⟨by kernel_rfl,rfl⟩
theorem mul1 (k:Nat) (h1:2≤k) (h2:k < 12) (w:World) :
  Calls Tryz.prog 75 #[.int .u64 1,.int .u64 k] w fun e w'=>e = .returned (.tuple #[.int .u64 0,.int .u64 k])∧w'=w:=by
 obtain rfl | rfl | rfl | rfl | rfl | rfl | rfl | rfl | rfl | rfl:k=2∨k=3∨k=4∨k=5∨k=6∨k=7∨k=8∨k=9∨k=10∨k=11:=by omega
 all_goals
  go_enter Tryz.func75,Tryz.ntmps75
  go_wp2
  go_ret2
  exact ⟨by kernel_rfl,rfl⟩
theorem hp0 (s:ByteArray) (b:Bool) (h1:1≤s.size) (h:((s.extract 0 1).toList == [48])=b) (w:World) :
  Calls Tryz.prog 76 #[.string s,.string ⟨#[48]⟩] w fun e w'=>e = .returned (.bool b)∧w'=w:=by
 have g1:(1:Int)≤(s.size:Int):=by omega
 go_enter Tryz.func76,Tryz.ntmps76
 go_wp2
 go_ret
 exact ⟨by simp [h],rfl⟩
set_option maxRecDepth 100000 in
theorem rep (k:Nat) (h1:1≤k) (h2:k < 12) (w:World) :
  Calls Tryz.prog 62 #[.string ⟨#[48]⟩,.int .i64 k] w fun e w'=>e = .returned (.string ⟨(List.replicate k 48).toArray⟩)∧w'=w:=by
 by_cases hk:k=1
 ·subst hk
  go_enter Tryz.func62,Tryz.ntmps62
  go_wp2
  go_ret
  exact ⟨rfl,rfl⟩
 ·have t0:((k:Int) == 0)=false:=by simp; omega
  have t1:((k:Int) == 1)=false:=by simp; omega
  have t2:¬ ((k:Int) < 0):=by omega
  have t3:¬ (9223372036854775807 < (k:Int)):=by omega
  have t4:(k:Int)≤128:=by omega
  have t5:(k:Int)≤64:=by omega
  have t6:IntKind.u64.wrap (k:Int)=k:=IntWalk.u64_in _ (by omega)
  have t7:IntKind.i64.wrap (k:Int)=k:=IntWalk.i64_in _ (by omega)
  go_enter Tryz.func62,Tryz.ntmps62
  go_wp2_with fail
  refine (mul1 k (by omega) h2 _).mono ?_
  rintro e w' ⟨rfl,rfl⟩
  go_wp2_with fail
  refine (hp0 _ false (by decide) (by kernel_rfl) _).mono ?_
  rintro e w' ⟨rfl,rfl⟩
  go_wp2_with fail
  refine (hp0 _ false (by decide) (by kernel_rfl) _).mono ?_
  rintro e w' ⟨rfl,rfl⟩
  go_wp2_with fail
  refine (hp0 _ true (by decide) (by kernel_rfl) _).mono ?_
  rintro e w' ⟨rfl,rfl⟩
  go_wp2_with fail
  go_ret
  refine ⟨?_,rfl⟩
  obtain rfl | rfl | rfl | rfl | rfl | rfl | rfl | rfl | rfl | rfl:k=2∨k=3∨k=4∨k=5∨k=6∨k=7∨k=8∨k=9∨k=10∨k=11:=by omega
  all_goals kernel_rfl
end Go.Proofs.YtbdlbhlhnpblpaaGreatDoor.SgW
set_option linter.unusedVariables false
set_option linter.unusedSimpArgs false
namespace Go.Proofs.YtbdlbhlhnpblpaaGreatDoor.SgW
open Go.RowKit Hp Sg
theorem and15 (u:Nat) (hu:u < 2 ^ 64):bits BinOp.and IntKind.u64 (u:Int) 15=((u % 16:Nat):Int):=by
 have h:=bits_mask .u64 64 (by decide) wraps_u64 4 (by decide) (u:Int) (by omega) (by omega)
 simpa using h
theorem dig_lt (u:Nat) (h:u < 16):u < (ByteArray.mk #[48,49,50,51,52,53,54,55,56,57,97,98,99,100,101,102,103,104,105,106,107,108,109,110,111,112,113,114,115,116,117,118,119,120,121,122]).size:=by
 show u < 36
 omega
theorem dig (u:Nat) (h:u < 16):((ByteArray.mk #[48,49,50,51,52,53,54,55,56,57,97,98,99,100,101,102,103,104,105,106,107,108,109,110,111,112,113,114,115,116,117,118,119,120,121,122])[u]'(dig_lt u h)).toNat=(hd u).toNat:=by
 have k:∀ u:Fin 16,((ByteArray.mk #[48,49,50,51,52,53,54,55,56,57,97,98,99,100,101,102,103,104,105,106,107,108,109,110,111,112,113,114,115,116,117,118,119,120,121,122])[u.val]'(dig_lt u u.isLt)).toNat=(hd u.val).toNat:=by decide
 exact k ⟨u,h⟩
theorem arr65:Tryz.prog.arrayLen 198=65:=by kernel_rfl
theorem arr65u:Tryz.prog.underlying 198=some (.array (Tryz.prog.arrayLen 198) (Tryz.prog.elem 198)):=by kernel_rfl
theorem cells_cons {wr:World} {b m:Nat} {l:List UInt8} {c:UInt8} {x:Value} (hx:x = .int .u8 c.toNat) (h:CellsAt wr b (m + 1) (bys l)) (hs:(wr.cell? ⟨b,m,none⟩).isSome=true) :
  CellsAt (wr.setCell ⟨b,m,none⟩ x) b m (bys (c::l)):=by
 subst hx
 intro j u hj
 cases j with
 | zero=>
  simp [bys] at hj
  subst hj
  obtain ⟨v,hv⟩:=Option.isSome_iff_exists.1 hs
  exact cell_same hv
 | succ j=>
  have h2:=h j u (by simpa [bys] using hj)
  rw [cell_other (by simp)]
  rw [show m + (j + 1)=m + 1 + j by omega]
  exact h2
theorem free_set {wr:World} {b n:Nat} {a:Addr} {x:Value} (h:FreeAt wr b 0 n):FreeAt (wr.setCell a x) b 0 n:=by
 intro j hj
 obtain ⟨h1,h2⟩:=h j hj
 refine ⟨?_,?_⟩
 ·by_cases e:a=⟨b,0 + j,none⟩
  ·subst e
   obtain ⟨v,hv⟩:=Option.isSome_iff_exists.1 h1
   rw [cell_same hv]; rfl
  ·rw [cell_other e]; exact h1
 ·rw [World.frozen?_setCell]; exact h2
set_option maxRecDepth 100000 in
set_option maxHeartbeats 1600000 in
theorem fmtBits (n:Nat) (hn:n < 16 ^ 11) (w:World) (h:w.cell? ⟨7,15,none⟩=some (.int .u8 4)) :
  Calls Tryz.prog 109 #[.slice none 0 0,.int .u64 n,.int .i64 16,.bool false,.bool false] w
   fun e w'=>∃ m,1≤m∧m≤11∧n < 16 ^ m∧e = .returned (.tuple #[.slice none 0 0,.string ⟨(pad m n).toArray⟩])∧Only (fun _=>False) w w':=by
 have hlt:7 < w.heap.size:=World.block_lt_of_cell? w _ h
 go_enter Tryz.func109,Tryz.ntmps109
 go_wp2_with fail
 refine (pw2 _).mono ?_
 rintro e w1 ⟨rfl,rfl⟩
 go_wp2_with fail
 refine (tz _ (by rw [World.cell?_of_block (Below.heap_alloc w _ _ hlt)]; exact h)).mono ?_
 rintro e w1 ⟨rfl,rfl⟩
 go_wp2_with fail
 go_loopw [1,13] (fun u i wr=>∃ m j:Nat,m + j=65∧j≤10∧i = .int .i64 (m:Int)∧u = .int .u64 ((n / 16 ^ j:Nat):Int)∧Hid (CellsAt wr w.heap.size m (bys (pad j n)))∧Hid (FreeAt wr w.heap.size 0 65)∧Hid (Only (fun _=>False) w wr)∧w.heap.size < wr.heap.size) (fun _ i _=>(intOf i).toNat)
 case atStart=>
  refine ⟨65,0,rfl,by omega,rfl,by simp,Lib.hid (fun j u hu=>by simp [bys,pad] at hu),Lib.hid ?_,Lib.hid ((Only.refl _ _).alloc _),by simp⟩
  intro j hj
  rw [Nat.zero_add]
  refine ⟨?_,frozen_new _ _ _ _ _ rfl⟩
  rw [World.cell?_alloc_new]
  have:∀ j:Fin 65,(Tryz.zeroCells198[j.val]?).isSome=true:=by decide
  exact this ⟨j,hj⟩
 case round=>
  obtain ⟨m,j,hmj,hj,rfl,rfl,hc,hf,ho,hb⟩:=hrel
  have hu:n / 16 ^ j < 2 ^ 64:=Nat.lt_of_le_of_lt (Nat.div_le_self _ _) (by omega)
  have hnj:n / 16 ^ (j + 1)=n / 16 ^ j / 16:=by rw [Nat.pow_succ,Nat.div_div_eq_div_mul]
  have hpc:=pad_cons j n
  have hlast:n / 16 ^ j < 16→n < 16 ^ (j + 1):=fun hlt=>by
   rw [Nat.pow_succ,Nat.mul_comm]
   exact (Nat.div_lt_iff_lt_mul (Nat.pow_pos (by omega))).1 hlt
  have hmore:16≤n / 16 ^ j→j + 1≤10:=fun hge=>by
   refine Classical.byContradiction fun hcon => ?_
   have:j=10:=by omega
   subst this
   have:n / 16 ^ 10 < 16:=(Nat.div_lt_iff_lt_mul (Nat.pow_pos (by omega))).2 (by rw [← Nat.pow_succ']; exact hn)
   omega
  generalize huu:n / 16 ^ j=u at hu hnj hpc hlast hmore
  have Hnj:=Lib.hid hnj
  have Hpc:=Lib.hid hpc
  have Huu:=Lib.hid huu
  clear hnj hpc huu
  obtain ⟨m,rfl⟩:∃ k,m=k + 1:=⟨m - 1,by omega⟩
  have hand:bits BinOp.and IntKind.u64 (u:Int) 15=((u % 16:Nat):Int):=and15 u hu
  obtain ⟨hc0,hf0⟩:=hf.out m (by omega)
  rw [Nat.zero_add] at hc0 hf0
  have Hc0:=Lib.hid hc0
  obtain ⟨v0,hv0⟩:=Option.isSome_iff_exists.1 hc0
  clear hc0
  have hd1:(0:Int)≤((u % 16:Nat):Int):=by omega
  have hd2:((u % 16:Nat):Int) < 36:=by omega
  by_cases hge:16≤u
  ·have hge':(16:Int)≤(u:Int):=by omega
   have hix:=dig (u % 16) (by omega)
   go_wp2
   refine ⟨⟨m,j + 1,by omega,hmore hge,rfl,?_,Lib.hid ?_,Lib.hid (free_set hf.out),Lib.hid (ho.out.setCell _ (.inl (Nat.le_refl _)) _),by simpa using hb⟩,?_⟩
   ·rw [Hnj.out]
    simp
   ·rw [Hpc.out]
    exact cells_cons (by simp [hix]) hc.out Hc0.out
   ·simp [intOf]
  ·have hge':¬ (16:Int)≤(u:Int):=by omega
   have hix:=dig u (by omega)
   have hsl:∀ W,(Instr.sliceAt 198 (.pointer (some ⟨w.heap.size,0,none⟩)) (some (.int .i64 (m:Int))) none none).run Tryz.prog W = .ok (.slice (some ⟨w.heap.size,m,none⟩) (65 - m) (65 - m)) W:=fun W=>by
    rw [run_sliceAt_array_l W 198 ⟨w.heap.size,0,none⟩ arr65u .i64 (m:Int) (by omega) (by rw [arr65]; omega)]
    go_simp
    omega
   have hcs:CellsAt (wr.setCell ⟨w.heap.size,m,none⟩ (.int .u8 ((hd u).toNat:Int))) w.heap.size m (bys (pad (j + 1) n)):=by
    rw [Hpc.out,Nat.mod_eq_of_lt (by omega)]
    exact cells_cons rfl hc.out Hc0.out
   have hcv:(convert 28 9 (.slice (some ⟨w.heap.size,m,none⟩) (65 - m) (65 - m))).run Tryz.prog (wr.setCell ⟨w.heap.size,m,none⟩ (.int .u8 ((hd u).toNat:Int))) = .ok (.string ⟨(pad (j + 1) n).toArray⟩) (wr.setCell ⟨w.heap.size,m,none⟩ (.int .u8 ((hd u).toNat:Int))):=
    run_str 28 9 5 Tryz.underlying28 Tryz.underlying5 Tryz.underlying9 ⟨by rw [bys_length,pad_length]; omega,some ⟨w.heap.size,m,none⟩,65 - m,rfl,Nat.le_refl _,by simp [maxLen]; omega,fun _=>⟨_,_,rfl,by simpa using hb,hcs⟩⟩
   go_wp2
   go_ret2
   exact ⟨j + 1,by omega,by omega,hlast (by omega),rfl,ho.out.setCell _ (.inl (Nat.le_refl _)) _⟩
theorem fmt16 (n:Nat) (hn:n < 16 ^ 11) (w:World) (h:w.cell? ⟨7,15,none⟩=some (.int .u8 4)) :
  Calls Tryz.prog 61 #[.int .i64 n,.int .i64 16] w
   fun e w'=>∃ m,1≤m∧m≤11∧n < 16 ^ m∧e = .returned (.string ⟨(pad m n).toArray⟩)∧Only (fun _=>False) w w':=by
 have h0:¬ ((n:Int) < 0):=by omega
 have h1:IntKind.u64.wrap (n:Int)=n:=IntWalk.u64_in _ (by omega)
 have inner:Calls Tryz.prog 74 #[.int .i64 n,.int .i64 16] w
   fun e w'=>∃ m,1≤m∧m≤11∧n < 16 ^ m∧e = .returned (.string ⟨(pad m n).toArray⟩)∧Only (fun _=>False) w w':=by
  go_enter Tryz.func74,Tryz.ntmps74
  go_wp2_with fail
  refine (fmtBits n hn w h).mono ?_
  rintro e w1 ⟨m,m1,m2,m3,rfl,ho⟩
  have H1:=Lib.hid m3
  have H2:=Lib.hid ho
  clear m3 ho
  go_wp2_with fail
  go_ret
  exact ⟨m,m1,m2,H1.out,rfl,H2.out⟩
 go_enter Tryz.func61,Tryz.ntmps61
 go_wp2_with fail
 refine inner.mono ?_
 rintro e w1 ⟨m,m1,m2,m3,rfl,ho⟩
 have H1:=Lib.hid m3
 have H2:=Lib.hid ho
 clear m3 ho
 go_wp2_with fail
 go_ret
 exact ⟨m,m1,m2,H1.out,rfl,H2.out⟩
set_option maxRecDepth 100000 in
theorem name_in (n:Nat) (hn:n < 2 ^ 44) (w:World) (h:w.cell? ⟨7,15,none⟩=some (.int .u8 4)) :
  Calls Tryz.prog 46 #[.int .i64 n] w
   fun e w'=>e = .returned (.tuple #[.string ⟨(nm n).toArray⟩,.bool true])∧Only (fun _=>False) w w':=by
 have h0:¬ ((n:Int) < 0):=by omega
 have h1:¬ (17592186044415 < (n:Int)):=by omega
 go_enter Tryz.func46,Tryz.ntmps46
 go_wp2_with fail
 refine (fmt16 n (by omega) w h).mono ?_
 rintro e w1 ⟨m,m1,m2,m3,rfl,ho⟩
 have H1:=Lib.hid m3
 have H2:=Lib.hid ho
 clear m3 ho
 have hz:(ByteArray.mk (pad m n).toArray).size=m:=by show (pad m n).toArray.size=m; simp [pad_length]
 obtain ⟨k,hk⟩:∃ k,k + m=12:=⟨12 - m,by omega⟩
 have hsub:(12:Int) - (m:Int)=(k:Int):=by omega
 have hnm:nm n=[119,45]++(List.replicate k 48++pad m n):=by
  rw [← pad_more m k n H1.out,show m + k=12 by omega]
  rfl
 go_wp2_with fail
 refine (rep k (by omega) (by omega) _).mono ?_
 rintro e w2 ⟨rfl,rfl⟩
 go_wp2_with fail
 go_ret2
 refine ⟨?_,H2.out⟩
 have e:(ByteArray.mk #[119,45]++ByteArray.mk (Array.replicate k 48)++ByteArray.mk (pad m n).toArray)=⟨(nm n).toArray⟩:=by
  apply ByteArray.ext
  simp [hnm,ByteArray.data_append]
 show Ending.returned (Value.tuple #[Value.string (ByteArray.mk #[119,45]++ByteArray.mk (Array.replicate k 48)++ByteArray.mk (pad m n).toArray),Value.bool true])=_
 rw [e]
theorem name_out (a:Int) (ha:a < 0∨2 ^ 44≤a) (w:World) :
  Calls Tryz.prog 46 #[.int .i64 a] w
   fun e w'=>e = .returned (.tuple #[.string ⟨#[]⟩,.bool false])∧w'=w:=by
 by_cases h0:a < 0
 ·go_enter Tryz.func46,Tryz.ntmps46
  go_wp2_with fail
  go_ret2
  exact ⟨rfl,rfl⟩
 ·have h1:17592186044415 < a:=by omega
  go_enter Tryz.func46,Tryz.ntmps46
  go_wp2_with fail
  go_ret2
  exact ⟨rfl,rfl⟩
end Go.Proofs.YtbdlbhlhnpblpaaGreatDoor.SgW
set_option linter.unusedVariables false
set_option linter.unusedSimpArgs false
namespace Go.Proofs.YtbdlbhlhnpblpaaGreatDoor.SgW
open Go.RowKit Hp Sg
theorem or32:∀ c:Fin 256,bits BinOp.or IntKind.u8 (c.val:Int) 32=((c.val ||| 32:Nat):Int):=by decide +kernel
theorem low (c:UInt8) (w:World) :
  Calls Tryz.prog 149 #[.int .u8 (c.toNat:Int)] w fun e w'=>e = .returned (.int .u8 ((lo c:Nat):Int))∧w'=w:=by
 have h:bits BinOp.or IntKind.u8 (c.toNat:Int) 32=((lo c:Nat):Int):=or32 ⟨c.toNat,c.toNat_lt⟩
 generalize c.toNat=x at h
 generalize lo c=y at h
 go_enter Tryz.func149,Tryz.ntmps149
 go_wp2
 go_ret
 exact ⟨rfl,rfl⟩
theorem emp_tl:(ByteArray.mk #[]).toList=[]:=by kernel_rfl
def ev (c:Nat):Value:=if c=0 then .nilIface else .iface 178 (.int .i64 c)
def pu (l:List UInt8):Nat × Nat:=if l=[] then (0,2) else pug 0 l
set_option maxRecDepth 100000 in
set_option maxHeartbeats 1600000 in
theorem pUint (s:ByteArray) (hs:s.size≤281474976710656) (w:World) :
  Calls Tryz.prog 124 #[.string s,.int .i64 16,.int .i64 64] w
   fun e w'=>e = .returned (.tuple #[.int .u64 ((pu s.data.toList).1:Int),ev (pu s.data.toList).2])∧Only (fun _=>False) w w':=by
 by_cases he:s=⟨#[]⟩
 ·subst he
  go_enter Tryz.func124,Tryz.ntmps124
  go_wp2
  go_ret2
  exact ⟨rfl,Only.refl _ _⟩
 ·have hl:s.data.toList≠[]:=fun h=>he (by apply ByteArray.ext; simpa using h)
  have h0:s.toList.isEmpty=false:=by
   have h1:¬ s.toList=(ByteArray.mk #[]).toList:=fun h=>he ((str_tl_iff _ _).1 h)
   have h2:(ByteArray.mk #[]).toList=[]:=emp_tl
   rw [h2] at h1
   simpa using h1
  have hpu:pu s.data.toList=pug 0 s.data.toList:=if_neg hl
  have hcv:=Lib.run_convert_string_bytes (P:=Tryz.prog) w 9 28 5 s Tryz.underlying9 Tryz.underlying28 Tryz.underlying5
  have hcell:=Lib.bytesWorld_cell w 5 s
  have hbel:=Lib.bytesWorld_below w 5 s
  have hsz:=Lib.bytesWorld_size w 5 s
  generalize Lib.bytesWorld w 5 s=w1 at hcv hcell hbel hsz
  have hlen:s.data.toList.length=s.size:=by show s.data.toList.length=s.data.size; simp
  generalize grownCap w s.size 0 5=cap at hcv
  have Hpu:=Lib.hid hpu
  have Hcell:=Lib.hid hcell
  have Hbel:=Lib.hid hbel
  have Hsz:=Lib.hid hsz
  have Hlen:=Lib.hid hlen
  clear hpu hcell hbel hsz hlen hl he
  have hM:IntKind.u64.wrap (IntKind.u64.wrap 18446744073709551616 - 1)=18446744073709551615:=by kernel_rfl
  go_enter Tryz.func124,Tryz.ntmps124
  go_wp2
  go_loop [101,13,12] (fun i v z=>∃ (k m:Nat) (a:Int),k≤s.size∧i = .int .i64 (k:Int)∧v = .int .u64 a∧z = .bool false∧Hid (a=(m:Int)∧m < 2 ^ 64∧pug 0 s.data.toList=pug m (s.data.toList.drop k))) (fun i _ _=>s.size - (intOf i).toNat)
  case atStart=>exact ⟨0,0,0,Nat.zero_le _,rfl,rfl,rfl,Lib.hid ⟨rfl,by omega,rfl⟩⟩
  case round=>
   obtain ⟨k,m,a,hk,rfl,rfl,rfl,hm⟩:=hrel
   by_cases hlt:k < s.size
   ·have hlt':(k:Int) < (s.size:Int):=by omega
    have hc0:=Hcell.out k hlt
    have hdrop:s.data.toList.drop k=s.data.toList.getD k 0::s.data.toList.drop (k + 1):=by
     have hk2:k < s.data.toList.length:=by rw [Hlen.out]; exact hlt
     rw [List.drop_eq_getElem_cons hk2,List.getD_eq_getElem?_getD,List.getElem?_eq_getElem hk2]
     rfl
    generalize s.data.toList.getD k 0=c at hc0 hdrop
    have Hdrop:=Lib.hid hdrop
    clear hdrop
    have hq:lo c < 256:=Nat.or_lt_two_pow (n:=8) c.toNat_lt (by omega)
    have hdl:dl c=if 48≤c.toNat∧c.toNat≤57 then some (c.toNat - 48) else if 97≤lo c∧lo c≤122 then some (lo c - 87) else none:=rfl
    have hlow:=fun W=>low c W
    have hcn:=c.toNat_lt
    have hq95:c.toNat=95→lo c=127:=fun h=>by unfold lo; rw [h]; rfl
    generalize lo c=q at hq hdl hlow hq95
    generalize c.toNat=x at hc0 hdl hlow hcn hq95
    have hstep:∀ d,dl c=some d→¬ 16≤d→¬ 2 ^ 60≤m→pug m (s.data.toList.drop k)=pug (m * 16 + d) (s.data.toList.drop (k + 1)):=fun d h1 h2 h3=>by
     rw [Hdrop.out]; simp only [pug,h1]; rw [if_neg h2,if_neg h3]
    have hrange:∀ d,dl c=some d→¬ 16≤d→2 ^ 60≤m→pug m (s.data.toList.drop k)=(2 ^ 64 - 1,1):=fun d h1 h2 h3=>by
     rw [Hdrop.out]; simp only [pug,h1]; rw [if_neg h2,if_pos h3]
    have hsyn:(dl c=none∨∃ d,dl c=some d∧16≤d)→pug m (s.data.toList.drop k)=(0,2):=fun h=>by
     rw [Hdrop.out]
     rcases h with h | ⟨d,h,h2⟩
     ·simp only [pug,h]
     ·simp only [pug,h]; rw [if_pos h2]
    have Hstep:=Lib.hid hstep
    have Hrange:=Lib.hid hrange
    have Hsyn:=Lib.hid hsyn
    have Hdl:=Lib.hid hdl
    clear hstep hrange hsyn hdl
    obtain ⟨hma,hm64,hmp⟩:=hm.out
    have Hma:=Lib.hid hma
    have Hmp:=Lib.hid hmp
    clear hma hmp hm
    have hw64:wrap64 ((k:Int) + 1)=((k + 1:Nat):Int):=by unfold wrap64; omega
    have hnext:∀ d:Nat,dl c=some d→¬ 16≤d→¬ 2 ^ 60≤m→∀ y:Int,y=a * 16 + d→Hid (y=((m * 16 + d:Nat):Int)∧m * 16 + d < 2 ^ 64∧pug 0 s.data.toList=pug (m * 16 + d) (s.data.toList.drop (k + 1))):=fun d h1 h2 h3 y hy=>
     Lib.hid ⟨by rw [hy,Hma.out]; omega,by omega,by rw [Hmp.out,Hstep.out d h1 h2 h3]⟩
    have Hnext:=Lib.hid hnext
    clear hnext
    by_cases hx:48≤x∧x≤57
    ·obtain ⟨x1,x2⟩:=hx
     have y1:(48:Int)≤(x:Int):=by omega
     have y2:(x:Int)≤57:=by omega
     have hdd:dl c=some (x - 48):=by rw [Hdl.out,if_pos ⟨x1,x2⟩]
     have Hdd:=Lib.hid hdd
     clear hdd
     by_cases ha:2 ^ 60≤m
     ·have ha':(1152921504606846976:Int)≤a:=by have:=Hma.out; omega
      go_wp2_with fail
      go_ret2
      refine ⟨?_,Only.of_below Hbel.out _⟩
      rw [Hpu.out,Hmp.out,Hrange.out _ Hdd.out (by omega) ha]
      kernel_rfl
     ·have ha0:0≤a:=by have:=Hma.out; omega
      have ha':a < (1152921504606846976:Int):=by have:=Hma.out; omega
      obtain ⟨b16,hb16⟩:∃ b:Int,b=a * 16:=⟨_,rfl⟩
      obtain ⟨n1,hn1⟩:∃ b:Int,b=b16 + ((x:Int) - 48):=⟨_,rfl⟩
      have e1:IntKind.u64.wrap (a * 16)=b16:=by rw [hb16]; exact IntWalk.u64_in _ (by omega)
      have e2:IntKind.u64.wrap (b16 + ((x:Int) - 48))=n1:=by rw [hn1]; exact IntWalk.u64_in _ (by omega)
      have e3:b16≤n1:=by omega
      have e4:n1≤18446744073709551615:=by omega
      have hnn:=Hnext.out (x - 48) Hdd.out (by omega) ha n1 (by omega)
      clear hb16 hn1
      go_wp2_with fail
      exact ⟨⟨k + 1,m * 16 + (x - 48),_,by omega,by simp,rfl,rfl,hnn⟩,by simp [intOf]; omega⟩
    ·have Hx:=Lib.hid hx
     by_cases h95:x=95
     ·subst h95
      obtain rfl:=hq95 rfl
      have hdd:dl c=none:=by rw [Hdl.out,if_neg Hx.out]; rfl
      have Hdd:=Lib.hid hdd
      clear hdd
      have hlow':∀ W,Calls Tryz.prog 149 #[.int .u8 95] W fun e w'=>e = .returned (.int .u8 127)∧w'=W:=hlow
      go_wp2_with (go_at_call 149; refine (hlow' _).mono ?_; rintro e w' ⟨rfl,rfl⟩)
      all_goals
       go_ret2
       refine ⟨?_,Only.of_below Hbel.out _⟩
       rw [Hpu.out,Hmp.out,Hsyn.out (.inl Hdd.out)]
       kernel_rfl
     have y95:¬ ((x:Int)=95):=by omega
     obtain hx | hx:x < 48∨57 < x:=by omega
     all_goals
      first
      | (have y1:(x:Int) < 48:=by omega)
      | (have y1:(57:Int) < (x:Int):=by omega)
      have y0:(x:Int) < 256:=by omega
      by_cases hqq:97≤q∧q≤122
      ·have hdd:dl c=some (q - 87):=by rw [Hdl.out,if_neg Hx.out,if_pos hqq]
       have Hdd:=Lib.hid hdd
       clear hdd
       obtain ⟨q1,q2⟩:=hqq
       have z1:(97:Int)≤(q:Int):=by omega
       have z2:(q:Int)≤122:=by omega
       by_cases hq16:103≤q
       ·have z3:(103:Int)≤(q:Int):=by omega
        go_wp2_with (go_at_call 149; refine (hlow _).mono ?_; rintro e w' ⟨rfl,rfl⟩)
        all_goals
         go_ret2
         refine ⟨?_,Only.of_below Hbel.out _⟩
         rw [Hpu.out,Hmp.out,Hsyn.out (.inr ⟨_,Hdd.out,by omega⟩)]
         kernel_rfl
       ·have z3:(q:Int) < 103:=by omega
        by_cases ha:2 ^ 60≤m
        ·have ha':(1152921504606846976:Int)≤a:=by have:=Hma.out; omega
         go_wp2_with (go_at_call 149; refine (hlow _).mono ?_; rintro e w' ⟨rfl,rfl⟩)
         all_goals
          go_ret2
          refine ⟨?_,Only.of_below Hbel.out _⟩
          rw [Hpu.out,Hmp.out,Hrange.out _ Hdd.out (by omega) ha]
          kernel_rfl
        ·have ha0:0≤a:=by have:=Hma.out; omega
         have ha':a < (1152921504606846976:Int):=by have:=Hma.out; omega
         obtain ⟨b16,hb16⟩:∃ b:Int,b=a * 16:=⟨_,rfl⟩
         obtain ⟨n1,hn1⟩:∃ b:Int,b=b16 + ((q:Int) - 97 + 10):=⟨_,rfl⟩
         have e1:IntKind.u64.wrap (a * 16)=b16:=by rw [hb16]; exact IntWalk.u64_in _ (by omega)
         have e2:IntKind.u64.wrap (b16 + ((q:Int) - 97 + 10))=n1:=by rw [hn1]; exact IntWalk.u64_in _ (by omega)
         have e3:b16≤n1:=by omega
         have e4:n1≤18446744073709551615:=by omega
         have hnn:=Hnext.out (q - 87) Hdd.out (by omega) ha n1 (by omega)
         clear hb16 hn1
         go_wp2_with (go_at_call 149; refine (hlow _).mono ?_; rintro e w' ⟨rfl,rfl⟩)
         all_goals exact ⟨⟨k + 1,m * 16 + (q - 87),_,by omega,by simp,rfl,rfl,hnn⟩,by simp [intOf]; omega⟩
      ·have hdd:dl c=none:=by rw [Hdl.out,if_neg Hx.out,if_neg hqq]
       have Hdd:=Lib.hid hdd
       clear hdd
       obtain hqq | hqq:q < 97∨122 < q:=by omega
       all_goals
        first
        | (have z1:(q:Int) < 97:=by omega)
        | (have z1:(122:Int) < (q:Int):=by omega)
        go_wp2_with (go_at_call 149; refine (hlow _).mono ?_; rintro e w' ⟨rfl,rfl⟩)
        all_goals
         go_ret2
         refine ⟨?_,Only.of_below Hbel.out _⟩
         rw [Hpu.out,Hmp.out,Hsyn.out (.inl Hdd.out)]
         kernel_rfl
   ·have hlt':¬ (k:Int) < (s.size:Int):=by omega
    have hkk:k=s.size:=by omega
    subst hkk
    obtain ⟨hma,hm64,hmp⟩:=hm.out
    have hr:pug 0 s.data.toList=(m,0):=by
     rw [hmp,← Hlen.out,List.drop_length]; rfl
    have Hr:=Lib.hid hr
    have Hma:=Lib.hid hma
    clear hr hmp hma hm
    go_wp2_with fail
    go_ret2
    refine ⟨?_,Only.of_below Hbel.out _⟩
    rw [Hpu.out,Hr.out,← Hma.out]
    rfl
end Go.Proofs.YtbdlbhlhnpblpaaGreatDoor.SgW
set_option linter.unusedVariables false
set_option linter.unusedSimpArgs false
namespace Go.Proofs.YtbdlbhlhnpblpaaGreatDoor.SgW
open Go.RowKit Hp Sg
theorem err_neq (a b:Int) (w:World):(binOp .neq 125 (.iface 178 (.int .i64 a)) (.iface 178 (.int .i64 b))).run Tryz.prog w = .ok (.bool (!(a == b))) w:=by
 have hco:(Tryz.prog.info? 178).map (·.comparable)=some true:=by kernel_rfl
 cases hi:Tryz.prog.info? 178 with
 | none=>simp [hi] at hco
 | some i=>
  have hcc:i.comparable=true:=by simpa [hi] using hco
  have h:∀ d:Nat,(Op.equalIn (d + 2) 125 (.iface 178 (.int .i64 a)) (.iface 178 (.int .i64 b))).run Tryz.prog w = .ok (a == b) w:=fun d=>by
   simp [Op.equalIn,run_underlying Tryz.underlying125,run_underlying Tryz.underlying178,typeInfo,hi,hcc]
  simp only [binOp]
  simp [Op.equal,Op.maxDepth,h 9998]
def pin (neg:Bool) (u:Nat × Nat):Int × Nat:=
 if u.2=2 then (0,2)
 else if neg=false∧9223372036854775808≤u.1 then (9223372036854775807,1)
 else if neg=true∧9223372036854775808 < u.1 then (-9223372036854775808,1)
 else (if neg then -(u.1:Int) else u.1,0)
set_option maxRecDepth 100000 in
set_option maxHeartbeats 1600000 in
theorem pInt0 (s:ByteArray) (hs:s.size≤281474976710656) (h1:0 < s.size) (hp:((s[0]'h1).toNat:Int)≠43) (hm:((s[0]'h1).toNat:Int)≠45) (w:World) :
  Calls Tryz.prog 85 #[.string s,.int .i64 16,.int .i64 64] w
   fun e w'=>e = .returned (.tuple #[.int .i64 (pin false (pu s.data.toList)).1,ev (pin false (pu s.data.toList)).2])∧Only (fun _=>False) w w':=by
 have hc:=pUint s hs w
 have hcd:(pu s.data.toList).2=0∨pu s.data.toList=(2 ^ 64 - 1,1)∨pu s.data.toList=(0,2):=by
  unfold pu
  split
  ·exact .inr (.inr rfl)
  ·exact pug_code _ _
 have hlt:(pu s.data.toList).1 < 2 ^ 64:=by
  unfold pu
  split
  ·decide
  ·exact pug_lt _ _ (by decide)
 have h0:s.toList.isEmpty=false:=by
  have h2:¬ s.toList=(ByteArray.mk #[]).toList:=fun h=>by
   rw [(str_tl_iff _ _).1 h] at h1
   exact absurd h1 (by decide)
  rw [emp_tl] at h2
  simpa using h2
 generalize pu s.data.toList=u at hc hcd hlt
 obtain ⟨u,c⟩:=u
 simp only at hc hcd hlt
 have hM:IntKind.i64.wrap (9223372036854775808 - 1)=9223372036854775807:=by kernel_rfl
 rcases hcd with rfl | h | h
 ·obtain ⟨a,ha⟩:∃ a:Int,a=(u:Int):=⟨_,rfl⟩
  have Ha:=Lib.hid ha
  by_cases hr:9223372036854775808≤u
  ·have hr':(9223372036854775808:Int)≤a:=by omega
   have hres:pin false (u,0)=(9223372036854775807,1):=by unfold pin; rw [if_neg (by simp),if_pos ⟨rfl,hr⟩]
   rw [hres]
   rw [← ha] at hc
   clear hres ha hr hlt
   go_enter Tryz.func85,Tryz.ntmps85
   go_wp2_with fail
   refine hc.mono ?_
   rintro e w' ⟨rfl,ho⟩
   have Ho:=Lib.hid ho
   clear ho
   simp only [ev,if_pos]
   go_wp2
   go_ret2
   exact ⟨by kernel_rfl,Ho.out⟩
  ·have hr':a < (9223372036854775808:Int):=by omega
   have ha0:0≤a:=by omega
   have hres:pin false (u,0)=(a,0):=by unfold pin; rw [if_neg (by simp),if_neg (fun h=>hr h.2),if_neg (fun h=>by cases h.1)]; simp [ha]
   have hw:IntKind.i64.wrap a=a:=IntWalk.i64_in _ (by omega)
   rw [hres]
   rw [← ha] at hc
   clear hres ha hr hlt
   go_enter Tryz.func85,Tryz.ntmps85
   go_wp2_with fail
   refine hc.mono ?_
   rintro e w' ⟨rfl,ho⟩
   have Ho:=Lib.hid ho
   clear ho
   simp only [ev,if_pos]
   go_wp2
   go_ret2
   exact ⟨rfl,Ho.out⟩
 ·obtain ⟨rfl,rfl⟩:=Prod.mk.inj h
  have hc':Calls Tryz.prog 124 #[.string s,.int .i64 16,.int .i64 64] w fun e w'=>e = .returned (.tuple #[.int .u64 18446744073709551615,.iface 178 (.int .i64 1)])∧Only (fun _=>False) w w':=hc
  clear hc hlt h
  have hq1:=err_neq 1 1
  have hq2:=err_neq 2 1
  go_enter Tryz.func85,Tryz.ntmps85
  go_wp2_with fail
  refine hc'.mono ?_
  rintro e w' ⟨rfl,ho⟩
  have Ho:=Lib.hid ho
  clear ho
  go_wp2
  go_ret2
  exact ⟨by kernel_rfl,Ho.out⟩
 ·obtain ⟨rfl,rfl⟩:=Prod.mk.inj h
  have hc':Calls Tryz.prog 124 #[.string s,.int .i64 16,.int .i64 64] w fun e w'=>e = .returned (.tuple #[.int .u64 0,.iface 178 (.int .i64 2)])∧Only (fun _=>False) w w':=hc
  clear hc hlt h
  have hq1:=err_neq 1 1
  have hq2:=err_neq 2 1
  go_enter Tryz.func85,Tryz.ntmps85
  go_wp2_with fail
  refine hc'.mono ?_
  rintro e w' ⟨rfl,ho⟩
  have Ho:=Lib.hid ho
  clear ho
  go_wp2
  go_ret2
  exact ⟨by kernel_rfl,Ho.out⟩
end Go.Proofs.YtbdlbhlhnpblpaaGreatDoor.SgW
set_option linter.unusedVariables false
set_option linter.unusedSimpArgs false
namespace Go.Proofs.YtbdlbhlhnpblpaaGreatDoor.SgW
open Go.RowKit Hp Sg
set_option maxRecDepth 100000 in
theorem pInt_empty (w:World) :
  Calls Tryz.prog 85 #[.string ⟨#[]⟩,.int .i64 16,.int .i64 64] w
   fun e w'=>e = .returned (.tuple #[.int .i64 0,ev 2])∧Only (fun _=>False) w w':=by
 go_enter Tryz.func85,Tryz.ntmps85
 go_wp2
 go_ret2
 exact ⟨by kernel_rfl,Only.refl _ _⟩
theorem pu_code (l:List UInt8):(pu l).2=0∨pu l=(2 ^ 64 - 1,1)∨pu l=(0,2):=by
 unfold pu
 split
 ·exact .inr (.inr rfl)
 ·exact pug_code _ _
set_option maxRecDepth 100000 in
set_option maxHeartbeats 1600000 in
theorem pIntSign (s:ByteArray) (hs:s.size≤281474976710656) (h1:0 < s.size) (hx:((s[0]'h1).toNat:Int)=43∨((s[0]'h1).toNat:Int)=45) (w:World) :
  Calls Tryz.prog 85 #[.string s,.int .i64 16,.int .i64 64] w
   fun e w'=>∃ v c,c≤2∧e = .returned (.tuple #[.int .i64 v,ev c])∧Only (fun _=>False) w w':=by
 have hsz:(s.extract 1 s.size).size≤281474976710656:=by simp; omega
 have hc:=pUint (s.extract 1 s.size) hsz w
 have hcd:=pu_code (s.extract 1 s.size).data.toList
 have h0:s.toList.isEmpty=false:=by
  have h2:¬ s.toList=(ByteArray.mk #[]).toList:=fun h=>by
   rw [(str_tl_iff _ _).1 h] at h1
   exact absurd h1 (by decide)
  rw [emp_tl] at h2
  simpa using h2
 have g1:(1:Int)≤(s.size:Int):=by omega
 have hq1:=err_neq 1 1
 have hq2:=err_neq 2 1
 generalize pu (s.extract 1 s.size).data.toList=u at hc hcd
 obtain ⟨u,c⟩:=u
 simp only at hc hcd
 generalize ((u:Nat):Int)=a at hc
 have hcc:c=0∨c=1∨c=2:=by
  rcases hcd with h | h | h
  ·exact .inl h
  ·exact .inr (.inl (Prod.mk.inj h).2)
  ·exact .inr (.inr (Prod.mk.inj h).2)
 clear hcd
 rcases hcc with rfl | rfl | rfl
 all_goals
  rcases hx with hx | hx
  all_goals
   go_enter Tryz.func85,Tryz.ntmps85
   go_wp2_with fail
   refine hc.mono ?_
   rintro e w' ⟨rfl,ho⟩
   have Ho:=Lib.hid ho
   clear ho
   try simp only [ev,if_pos]
   try (rw [show ev 1 = .iface 178 (.int .i64 1) from rfl])
   try (rw [show ev 2 = .iface 178 (.int .i64 2) from rfl])
   go_wp2
   all_goals
    go_ret2
    first
    | exact ⟨_,0,by omega,rfl,Ho.out⟩
    | exact ⟨_,1,by omega,rfl,Ho.out⟩
    | exact ⟨_,2,by omega,rfl,Ho.out⟩
end Go.Proofs.YtbdlbhlhnpblpaaGreatDoor.SgW
set_option linter.unusedVariables false
set_option linter.unusedSimpArgs false
namespace Go.Proofs.YtbdlbhlhnpblpaaGreatDoor.SgW
open Go.RowKit Hp Sg Go.Shelf
theorem te_syntax (fn s:ByteArray) (base bits:Int) (ev:Value) (w:World) (hlim:s.size≤281474976710656) (hv:w.cell? ⟨1,0,none⟩=some ev) (hev:ev = .nilIface∨∃ te pe,ev = .iface te pe) :
  Calls Tryz.prog 86 #[.string fn,.string s,.int .i64 base,.int .i64 bits,.iface 178 (.int .i64 2)] w fun e w'=>∃ N,e = .returned (.iface 181 (.pointer (some ⟨N,0,none⟩)))∧w.heap.size≤N∧w'.heap[N]? = some (.cells #[.string fn,.string s,ev] 208 (0,0))∧Below w.heap.size w w':=Any.strconv_toError_syntax Tryz.laysC245 fn s base bits ev w hlim hv hev
theorem te_range (fn s:ByteArray) (base bits:Int) (ev:Value) (w:World) (hlim:s.size≤281474976710656) (hv:w.cell? ⟨2,0,none⟩=some ev) (hev:ev = .nilIface∨∃ te pe,ev = .iface te pe) :
  Calls Tryz.prog 86 #[.string fn,.string s,.int .i64 base,.int .i64 bits,.iface 178 (.int .i64 1)] w fun e w'=>∃ N,e = .returned (.iface 181 (.pointer (some ⟨N,0,none⟩)))∧w.heap.size≤N∧w'.heap[N]? = some (.cells #[.string fn,.string s,ev] 208 (0,0))∧Below w.heap.size w w':=Any.strconv_toError_range Tryz.laysC245 fn s base bits ev w hlim hv hev
theorem trim_prefix (s p:ByteArray) (w:World) :
  Calls Tryz.prog 70 #[.string s,.string p] w fun e w'=>e = .returned (.string ⟨(Lib.trimPrefix s.data.toList p.data.toList).toArray⟩)∧w'=w:=Any.strings_TrimPrefix Tryz.lays101 s p w
structure Vs (w:World):Prop where
 tab:w.cell? ⟨7,15,none⟩=some (.int .u8 4)
 syn:∃ t p,w.cell? ⟨1,0,none⟩=some (.iface t p)
 rng:∃ t p,w.cell? ⟨2,0,none⟩=some (.iface t p)
theorem Vs.only {w w':World} (h:Vs w) (ho:Only (fun _=>False) w w'):Vs w':=
 ⟨ho.cellv h.tab (fun h=>h),by obtain ⟨t,p,e⟩:=h.syn; exact ⟨t,p,ho.cellv e (fun h=>h)⟩,by obtain ⟨t,p,e⟩:=h.rng; exact ⟨t,p,ho.cellv e (fun h=>h)⟩⟩
theorem pu_pad (n:Nat) (h:n < 2 ^ 48):pu (pad 12 n)=(n,0):=by
 have h1:pad 12 n≠[]:=fun e=>by have:=pad_length 12 n; rw [e] at this; cases this
 have h2:=pug_pad 12 n 0 (by decide)
 have h3:n % 16 ^ 12=n:=Nat.mod_eq_of_lt (by omega)
 rw [pu,if_neg h1,h2,h3]
 simp
theorem pad_head (n:Nat) (b:UInt8) (l:List UInt8) (h:pad 12 n=b::l):b.toNat≠43∧b.toNat≠45:=by
 have h2:=pad_cons 11 n
 rw [h] at h2
 have h3:b=hd (n / 16 ^ 11 % 16):=(List.cons.inj h2).1
 have k:∀ d:Fin 16,(hd d).toNat≠43∧(hd d).toNat≠45:=by decide
 rw [h3]
 exact k ⟨n / 16 ^ 11 % 16,Nat.mod_lt _ (by omega)⟩
theorem pInt (s:ByteArray) (hs:s.size≤281474976710656) (w:World) :
  Calls Tryz.prog 85 #[.string s,.int .i64 16,.int .i64 64] w
   fun e w'=>∃ v c,c≤2∧e = .returned (.tuple #[.int .i64 v,ev c])∧(∀ n,n < 2 ^ 48→s.data.toList=pad 12 n→v=n∧c=0)∧Only (fun _=>False) w w':=by
 by_cases h1:0 < s.size
 ·have hl:s.data.toList=s[0]::s.data.toList.drop 1:=by
   have h2:0 < s.data.toList.length:=by rw [Array.length_toList]; exact h1
   cases hd:s.data.toList with
   | nil=>rw [hd] at h2; cases h2
   | cons b l=>
    have:s[0]=b:=by
     show s.data[0]=b
     rw [← Array.getElem_toList]
     simp [hd]
    simp [this]
  by_cases hx:((s[0]'h1).toNat:Int)=43∨((s[0]'h1).toNat:Int)=45
  ·refine (pIntSign s hs h1 hx w).mono ?_
   rintro e w' ⟨v,c,hc,rfl,ho⟩
   refine ⟨v,c,hc,rfl,fun n hn he => ?_,ho⟩
   have:=pad_head n _ _ (he.symm.trans hl)
   omega
  ·refine (pInt0 s hs h1 (fun h=>hx (.inl h)) (fun h=>hx (.inr h)) w).mono ?_
   rintro e w' ⟨rfl,ho⟩
   refine ⟨_,_,?_,rfl,fun n hn he => ?_,ho⟩
   ·unfold pin; split; · decide
    split; · decide
    split; · decide
    exact Nat.zero_le _
   ·rw [he,pu_pad n hn]
    unfold pin
    rw [if_neg (by simp),if_neg (by simp; omega),if_neg (by simp)]
    simp
 ·have:s=⟨#[]⟩:=by
   apply ByteArray.ext
   exact Array.eq_empty_of_size_eq_zero (by show s.size=0; omega)
  subst this
  refine (pInt_empty w).mono ?_
  rintro e w' ⟨rfl,ho⟩
  refine ⟨_,_,Nat.le_refl _,rfl,fun n hn he => ?_,ho⟩
  have:=pad_length 12 n
  rw [← he] at this
  cases this
end Go.Proofs.YtbdlbhlhnpblpaaGreatDoor.SgW
set_option linter.unusedVariables false
set_option linter.unusedSimpArgs false
namespace Go.Proofs.YtbdlbhlhnpblpaaGreatDoor.SgW
open Go.RowKit Hp Sg
set_option maxRecDepth 100000 in
theorem parseInt (s:ByteArray) (hs:s.size≤281474976710656) (w:World) (hv:Vs w) :
  Calls Tryz.prog 69 #[.string s,.int .i64 16,.int .i64 64] w
   fun e w'=>∃ v x,e = .returned (.tuple #[.int .i64 v,x])∧(x = .nilIface∨∃ t p,x = .iface t p)∧(∀ n,n < 2 ^ 48→s.data.toList=pad 12 n→v=n∧x = .nilIface)∧Only (fun _=>False) w w':=by
 go_enter Tryz.func69,Tryz.ntmps69
 go_wp2_with fail
 refine (pInt s hs w).mono ?_
 rintro e w1 ⟨v,c,hc,rfl,hn,ho⟩
 have Hn:=Lib.hid hn
 have Ho:=Lib.hid ho
 have hv1:=hv.only ho
 clear hn ho
 obtain rfl | rfl | rfl:c=0∨c=1∨c=2:=by omega
 ·simp only [ev,if_pos]
  go_wp2
  go_ret2
  exact ⟨v,_,rfl,.inl rfl,fun n h1 h2=>⟨(Hn.out n h1 h2).1,rfl⟩,Ho.out⟩
 ·rw [show ev 1 = .iface 178 (.int .i64 1) from rfl]
  obtain ⟨t,p,hr⟩:=hv1.rng
  have hte:=te_range ⟨#[80,97,114,115,101,73,110,116]⟩ s 16 64 _ w1 hs hr (.inr ⟨_,_,rfl⟩)
  go_wp2_with fail
  refine hte.mono ?_
  rintro e w2 ⟨N,rfl,h1,h2,h3⟩
  have H3:=Lib.hid h3
  clear h1 h2 h3
  go_wp2
  go_ret2
  exact ⟨v,_,rfl,.inr ⟨_,_,rfl⟩,fun n h1 h2=>absurd (Hn.out n h1 h2).2 (by decide),Ho.out.trans (Only.of_below H3.out _) (fun _ _ h=>h)⟩
 ·rw [show ev 2 = .iface 178 (.int .i64 2) from rfl]
  obtain ⟨t,p,hr⟩:=hv1.syn
  have hte:=te_syntax ⟨#[80,97,114,115,101,73,110,116]⟩ s 16 64 _ w1 hs hr (.inr ⟨_,_,rfl⟩)
  go_wp2_with fail
  refine hte.mono ?_
  rintro e w2 ⟨N,rfl,h1,h2,h3⟩
  have H3:=Lib.hid h3
  clear h1 h2 h3
  go_wp2
  go_ret2
  exact ⟨v,_,rfl,.inr ⟨_,_,rfl⟩,fun n h1 h2=>absurd (Hn.out n h1 h2).2 (by decide),Ho.out.trans (Only.of_below H3.out _) (fun _ _ h=>h)⟩
end Go.Proofs.YtbdlbhlhnpblpaaGreatDoor.SgW
set_option linter.unusedVariables false
set_option linter.unusedSimpArgs false
namespace Go.Proofs.YtbdlbhlhnpblpaaGreatDoor.SgW
open Go.RowKit Hp Sg
theorem name_any (v:Int) (w:World) (hv:Vs w) :
  Calls Tryz.prog 46 #[.int .i64 v] w
   fun e w'=>∃ s ok,e = .returned (.tuple #[.string s,.bool ok])∧(ok=true→∃ n:Nat,v=n∧n < 2 ^ 44∧s=⟨(nm n).toArray⟩)∧(∀ n:Nat,v=n→n < 2 ^ 44→ok=true)∧Only (fun _=>False) w w':=by
 by_cases h:0≤v∧v < 2 ^ 44
 ·obtain ⟨n,rfl⟩:∃ n:Nat,v=n:=⟨v.toNat,by omega⟩
  refine (name_in n (by omega) w hv.tab).mono ?_
  rintro e w' ⟨rfl,ho⟩
  exact ⟨_,_,rfl,fun _=>⟨n,rfl,by omega,rfl⟩,fun _ _ _=>rfl,ho⟩
 ·refine (name_out v (by omega) w).mono ?_
  rintro e w' ⟨rfl,rfl⟩
  exact ⟨_,_,rfl,(fun h=>by cases h),(fun n h1 h2=>by omega),Only.refl _ _⟩
set_option maxRecDepth 100000 in
theorem parse (s:ByteArray) (hs:s.size≤281474976710656) (w:World) (hv:Vs w) :
  Calls Tryz.prog 53 #[.string s] w
   fun e w'=>e = .returned (.tuple #[.int .i64 ((sp s.data.toList).1:Int),.bool (sp s.data.toList).2])∧Only (fun _=>False) w w':=by
 have htr:=trim_prefix s ⟨#[119,45]⟩ w
 have hle:(ByteArray.mk (Lib.trimPrefix s.data.toList [119,45]).toArray).size≤s.size:=by
  show (Lib.trimPrefix s.data.toList [119,45]).toArray.size≤s.data.size
  rw [List.size_toArray,← Array.length_toList]
  exact Lib.trimPrefix_le _ _
 have hnm:∀ n,s.data.toList=nm n→Lib.trimPrefix s.data.toList [119,45]=pad 12 n:=fun n h=>by
  rw [h]; simp [Lib.trimPrefix,Lib.hasPrefix,nm]
 have htl:(ByteArray.mk (Lib.trimPrefix s.data.toList [119,45]).toArray).data.toList=Lib.trimPrefix s.data.toList [119,45]:=by simp
 have htr':Calls Tryz.prog 70 #[.string s,.string ⟨#[119,45]⟩] w fun e w'=>e = .returned (.string ⟨(Lib.trimPrefix s.data.toList [119,45]).toArray⟩)∧w'=w:=htr
 clear htr
 generalize hT:(ByteArray.mk (Lib.trimPrefix s.data.toList [119,45]).toArray)=T at hle htl htr'
 clear hT
 go_enter Tryz.func53,Tryz.ntmps53
 go_wp2_with fail
 refine htr'.mono ?_
 rintro e w1 ⟨rfl,rfl⟩
 have Hhtl:=Lib.hid htl
 have Hnm:=Lib.hid hnm
 clear htl hnm htr'
 go_wp2_with fail
 refine (parseInt T (by omega) w1 hv).mono ?_
 rintro e w2 ⟨v,x,rfl,hx,hn,ho⟩
 have Hn:=Lib.hid hn
 have Ho:=Lib.hid ho
 have hv2:=hv.only ho
 clear hn ho
 go_wp2_with fail
 refine (name_any v w2 hv2).mono ?_
 rintro e w3 ⟨u,ok,rfl,hok,hall,ho3⟩
 have Hok:=Lib.hid hok
 have Hall:=Lib.hid hall
 have Hon:=Lib.hid (Ho.out.trans ho3 (fun _ _ h=>h))
 clear hok hall ho3 hv2
 have hbad:(x ≠ .nilIface∨ok=false∨u≠s)→sp s.data.toList=(0,false):=fun h=>sp_not _ fun n h1 h2=>by
  have h3:=Hn.out n (by omega) (by rw [Hhtl.out,Hnm.out n h2.symm])
  have h4:=Hall.out n h3.1 h1
  rcases h with h | h | h
  ·exact h h3.2
  ·rw [h] at h4; cases h4
  ·obtain ⟨m,e1,e2,e3⟩:=Hok.out h4
   have:m=n:=by have:=h3.1; omega
   subst this
   refine h ?_
   rw [e3]
   apply ByteArray.ext
   simp [h2]
 have Hbad:=Lib.hid hbad
 clear hbad
 rcases hx with rfl | ⟨t,p,rfl⟩
 ·cases ok with
  | false=>
   go_wp2
   go_ret2
   rw [Hbad.out (.inr (.inl (by simp)))]
   exact ⟨rfl,Hon.out⟩
  | true=>
   by_cases hus:u=s
   ·subst hus
    obtain ⟨n,rfl,h2,h3⟩:=Hok.out rfl
    have hres:sp u.data.toList=(n,true):=by rw [h3]; simpa using sp_nm n h2
    have Hres:=Lib.hid hres
    have ht:(u.toList == u.toList)=true:=by simp
    clear hres h3
    go_wp2
    go_ret2
    rw [Hres.out]
    exact ⟨rfl,Hon.out⟩
   ·have ht:(u.toList == s.toList)=false:=by rw [str_tl]; simp [hus]
    go_wp2
    go_ret2
    rw [Hbad.out (.inr (.inr hus))]
    exact ⟨rfl,Hon.out⟩
 ·go_wp2
  go_ret2
  rw [Hbad.out (.inl (by simp))]
  exact ⟨rfl,Hon.out⟩
end Go.Proofs.YtbdlbhlhnpblpaaGreatDoor.SgW
namespace Go.Proofs.YtbdlbhlhnpblpaaGreatDoor.SegPrim
open Go Go.RowKit Hp Sg SgW Am
set_option maxRecDepth 100000
set_option linter.unusedVariables false
theorem only_below {w w':World} (h:Only (fun _=>False) w w'):Below w.heap.size w w':=
 ⟨h.os,h.tape,h.output,h.size,fun k hk=>h.block k hk (fun h=>h)⟩
structure VsA (H:Am.Hp):Prop where
 tab:cellAt H 7 15=some (.int .u8 4)
 syn:∃ t p,cellAt H 1 0=some (.iface t p)
 rng:∃ t p,cellAt H 2 0=some (.iface t p)
theorem VsA.vs {F:Nat→Prop} {W:World} {e:Em} {H:Am.Hp} {w:World} (h:VsA H) (hR:RH Tryz.prog.globals.size F W e H w):Vs w:=by
 have hs1:7 < Tryz.prog.globals.size:=by rw [← Nat.blt_eq]; kernel_rfl
 have hs2:1 < Tryz.prog.globals.size:=by rw [← Nat.blt_eq]; kernel_rfl
 have hs3:2 < Tryz.prog.globals.size:=by rw [← Nat.blt_eq]; kernel_rfl
 have key:∀ g k v,g < Tryz.prog.globals.size→cellAt H g (k:Nat)=some v→∃ v',w.cell? ⟨g,k,none⟩=some v'∧VR e v v':=by
  intro g k v hg hc
  obtain ⟨_,o,ho,v',h1,h2⟩:=hR.load hc
  obtain ⟨_,hb,hd⟩:=hR.glob g hg
  rw [hb] at h1
  rw [hd] at ho
  obtain rfl:o=k:=by omega
  exact ⟨v',h1,h2⟩
 refine ⟨?_,?_,?_⟩
 ·obtain ⟨v',h1,h2⟩:=key _ 15 _ hs1 h.tab
  cases h2
  exact h1
 ·obtain ⟨t,p,hc⟩:=h.syn
  obtain ⟨v',h1,h2⟩:=key _ 0 _ hs2 hc
  cases h2
  exact ⟨_,_,h1⟩
 ·obtain ⟨t,p,hc⟩:=h.rng
  obtain ⟨v',h1,h2⟩:=key _ 0 _ hs3 hc
  cases h2
  exact ⟨_,_,h1⟩
def inN (a:Int):Bool:=decide (0≤a) && decide (a < 17592186044416)
def nms (a:Int):List Nat:=bif inN a then (nm a.toNat).map (·.toNat) else []
def sps (s:List Nat):Nat × Bool:=sp (s.map UInt8.ofNat)
noncomputable section
open Classical in
def nameP:Prim:=fun args H=>match args with
 | [.int .i64 a]=>if VsA H then some (.tuple [.str (nms a),.bool (inN a)],H) else none
 | _=>none
open Classical in
def parseP:Prim:=fun args H=>match args with
 | [.str s]=>if VsA H∧s.length≤281474976710656 then some (.tuple [.int .i64 (sps s).1,.bool (sps s).2],H) else none
 | _=>none
end
theorem namesOK0:Am.NamesOK Tryz.prog:=by unfold Am.NamesOK; kernel_rfl
theorem VR.two {e:Em} {a b:AV} {a' b':Value} (h:VR e a a') (k:VR e b b'):VR e (.tuple [a,b]) (.tuple #[a',b']):=by
 refine .tuple _ _ rfl ?_
 intro i v v' h1 h2
 match i,h1,h2 with
 | 0,h1,h2=>cases h1; cases h2; exact h
 | 1,h1,h2=>cases h1; cases h2; exact k
theorem nameOne:Am.PrimOne Tryz.prog 46 nameP:=by
 intro args H v H' hp F W e w as' hR ha
 unfold nameP at hp
 split at hp
 ·rename_i a
  split at hp
  ·rename_i hV
   cases hp
   obtain ⟨a',r1,e1,hv1,hr1⟩:=ha.cons_inv
   obtain rfl:=hr1.nil_inv
   cases hv1
   obtain rfl:as' = #[.int .i64 a]:=Array.toList_inj.1 e1
   refine ⟨Am.run_enter namesOK0 Tryz.func46 rfl _ w,?_⟩
   have hv:=hV.vs hR
   by_cases hi:0≤a∧a < 17592186044416
   ·obtain ⟨n,rfl⟩:∃ n:Nat,a=n:=⟨a.toNat,by omega⟩
    refine (name_in n (by omega) w hv.tab).mono ?_
    rintro en w' ⟨rfl,ho⟩
    refine ⟨e,_,rfl,e.le_refl,hR.below (only_below ho),?_⟩
    have h1:inN (n:Int)=true:=by unfold inN; simp [hi]
    have h2:nms (n:Int)=Am.bytes ⟨(nm n).toArray⟩:=by unfold nms Am.bytes; rw [h1]; simp
    rw [h1,h2]
    exact VR.two (.str _) (.bool _)
   ·refine (name_out a (by omega) w).mono ?_
    rintro en w' ⟨rfl,rfl⟩
    refine ⟨e,_,rfl,e.le_refl,hR,?_⟩
    have h1:inN a=false:=by unfold inN; simp; omega
    have h2:nms a=Am.bytes ⟨#[]⟩:=by unfold nms Am.bytes; rw [h1]; rfl
    rw [h1,h2]
    exact VR.two (.str _) (.bool _)
  ·cases hp
 ·cases hp
theorem parseOne:Am.PrimOne Tryz.prog 53 parseP:=by
 intro args H v H' hp F W e w as' hR ha
 unfold parseP at hp
 split at hp
 ·rename_i s
  split at hp
  ·rename_i hV
   cases hp
   obtain ⟨a',r1,e1,hv1,hr1⟩:=ha.cons_inv
   obtain rfl:=hr1.nil_inv
   obtain ⟨s',rfl,rfl⟩:=hv1.str_inv
   obtain rfl:as' = #[.string s']:=Array.toList_inj.1 e1
   refine ⟨Am.run_enter namesOK0 Tryz.func53 rfl _ w,?_⟩
   have hv:=hV.1.vs hR
   have hl:s'.size≤281474976710656:=by
    have:s'.size=(Am.bytes s').length:=by simp [Am.bytes]
    have:=hV.2
    omega
   refine (parse s' hl w hv).mono ?_
   rintro en w' ⟨rfl,ho⟩
   refine ⟨e,_,rfl,e.le_refl,hR.below (only_below ho),?_⟩
   have h2:sps (Am.bytes s')=sp s'.data.toList:=by
    unfold sps Am.bytes
    rw [List.map_map]
    congr 1
    rw [List.map_congr_left (g:=id) (fun x _=>by simp)]
    simp
   rw [h2]
   exact VR.two (.int _ _) (.bool _)
  ·cases hp
 ·cases hp
end Go.Proofs.YtbdlbhlhnpblpaaGreatDoor.SegPrim
set_option linter.unusedVariables false
set_option linter.unusedSimpArgs false
namespace Go.Proofs.YtbdlbhlhnpblpaaGreatDoor.SegSort
open Go Am Go.Sort Go.RowKit Go.Proofs
def zOf:AV→Option Int
 | .int .i64 z=>some z
 | _=>none
def zsOf:List AV→Option (List Int)
 | []=>some []
 | v::r=>match zOf v,zsOf r with
  | some z,some l=>some (z::l)
  | _,_=>none
def nums (l:List Int):List AV:=l.map (AV.int .i64)
def sortZ (l:List Int):List Int:=l.mergeSort fun x y=>decide (x≤y)
theorem zOf_some {v:AV} {z:Int} (h:zOf v=some z):v = .int .i64 z:=by
 unfold zOf at h
 split at h
 ·cases h; rfl
 ·cases h
theorem zsOf_some:∀ {l:List AV} {zs:List Int},zsOf l=some zs→l=nums zs
 | [],zs,h=>by cases h; rfl
 | v::r,zs,h=>by
  unfold zsOf at h
  split at h
  ·rename_i z l h1 h2
   cases h
   rw [zOf_some h1,zsOf_some h2]
   rfl
  ·cases h
theorem zsOf_nums:∀ (zs:List Int),zsOf (nums zs)=some zs
 | []=>rfl
 | z::zs=>by
  show (match zOf (AV.int .i64 z),zsOf (nums zs) with | some z,some l=>some (z::l) | _,_=>none)=_
  rw [zsOf_nums zs]
  rfl
theorem sortZ_len (l:List Int):(sortZ l).length=l.length:=(List.mergeSort_perm l _).length_eq
noncomputable section
def sort3 (H:Hp) (i off:Nat) (c:Tr AV) (lo hi el fl:Nat) (r:Option (List Int)):Option (AV × Hp):=match r with
 | some zs=>some (.tuple [],{ H with h:=H.h.upd i (.cells (c.puts off (nums (sortZ zs))) lo hi el fl) })
 | none=>none
open Classical in
def sort2 (H:Hp) (i off n:Nat) (o:AO):Option (AV × Hp):=match o with
 | .cells c lo hi el fl=>if lo≤off∧off + n≤hi∧fl≤1 then sort3 H i off c lo hi el fl ((cellsAt H i off n).bind zsOf) else none
 | _=>none
open Classical in
def sortP:Prim:=fun args H=>match args with
 | [.slice0]=>some (.tuple [],H)
 | [.slice i off n cap ex es]=>if n=0 then some (.tuple [],H) else if es=1∧n < 4611686018427387904 then (H.h.get i).bind (sort2 H i off n) else none
 | _=>none
end
theorem tup0 (e:Em):VR e (.tuple []) (.tuple #[]) := .tuple [] #[] rfl (fun i v v' h=>by simp at h)
theorem sort_ok {f:Nat} (hen:∀ as' w,(callFunc f as').run Tryz.prog w = .ok (.enter f as') w)
  (h0:∀ (p:Option Addr) (cap:Nat) (w:World),Calls Tryz.prog f #[.slice p 0 cap] w fun e w'=>e = .returned (.tuple #[])∧w'=w)
  (h1:∀ (blk off cap:Nat) (zs:List Int) (w:World),Holds (Value.int .i64) w blk off zs.toArray→blk < w.heap.size→zs.length < 4611686018427387904→
   Calls Tryz.prog f #[.slice (some ⟨blk,off,none⟩) zs.length cap] w fun e w'=>e = .returned (.tuple #[])∧∃ n os,w'=grow (putRow (Value.int .i64) (Sort.ahead w n) blk off (zs.mergeSort fun x y=>decide (x≤y)).toArray) os):PrimOne Tryz.prog f sortP:=by
 intro args H v H' hp Fr W e w as' hR ha
 unfold sortP at hp
 split at hp
 ·obtain ⟨a',r1,e1,hv1,hr1⟩:=ha.cons_inv
  have e3:=hr1.nil_inv
  subst e3
  cases hp
  cases hv1
  obtain rfl:as' = #[.slice none 0 0]:=Array.toList_inj.1 e1
  refine ⟨hen _ _,(h0 none 0 w).mono ?_⟩
  rintro en w' ⟨rfl,rfl⟩
  exact ⟨e,_,rfl,e.le_refl,hR,tup0 e⟩
 ·rename_i i off n cap ex es
  obtain ⟨a',r1,e1,hv1,hr1⟩:=ha.cons_inv
  have e3:=hr1.nil_inv
  subst e3
  split at hp
  ·rename_i hn0
   subst hn0
   cases hp
   rcases hv1.slice_inv with ⟨o,c,k1,k2,k3,k4,k5,k6,rfl⟩ | ⟨_,_,a,rfl⟩
   ·obtain rfl:as' = #[.slice (some ⟨e.b i,o,none⟩) 0 c]:=Array.toList_inj.1 e1
    refine ⟨hen _ _,(h0 _ c w).mono ?_⟩
    rintro en w' ⟨rfl,rfl⟩
    exact ⟨e,_,rfl,e.le_refl,hR,tup0 e⟩
   ·obtain rfl:as' = #[.slice (some a) 0 0]:=Array.toList_inj.1 e1
    refine ⟨hen _ _,(h0 _ 0 w).mono ?_⟩
    rintro en w' ⟨rfl,rfl⟩
    exact ⟨e,_,rfl,e.le_refl,hR,tup0 e⟩
  ·rename_i hn0
   split at hp
   ·rename_i hes
    obtain ⟨rfl,hbig⟩:=hes
    rcases hv1.slice_inv with ⟨o,cc,k1,k2,k3,k4,k5,k6,rfl⟩ | ⟨q,_,a,rfl⟩
    ·obtain ⟨ob0,hg,hp⟩:=Option.bind_eq_some_iff.1 hp
     unfold sort2 at hp
     split at hp
     ·rename_i c lo hi el fl
      split at hp
      ·rename_i hcond
       obtain ⟨g1,g2,g3⟩:=hcond
       cases hr:(cellsAt H i off n).bind zsOf with
       | none=>rw [hr] at hp; cases hp
       | some zs=>
        rw [hr] at hp
        cases hp
        obtain ⟨l,hl,hz⟩:=Option.bind_eq_some_iff.1 hr
        have hlz:=zsOf_some hz
        obtain ⟨cs,c1,c2,c3⟩:=hR.loads hl k2
        have hzn:zs.length=n:=by rw [← c2,c1.1,hlz]; simp [nums]
        have hcs:∀ j z,zs[j]? = some z→w.cell? ⟨e.b i,o + j,none⟩=some (.int .i64 z):=by
         intro j z hj
         obtain ⟨v',hv',hr'⟩:=c1.get (i:=j) (v := .int .i64 z) (by rw [hlz]; simp [nums,hj])
         have:=hr'.int_inv
         subst this
         exact c3 j _ hv'
        obtain ⟨hN,ob,hob,hor,hF⟩:=hR.obj i _ hg
        cases hor with
        | cells _ _ _ _ _ C fz hn hcc hf0 hf1 hd=>
         have hsz:o + n≤C.size:=by rw [hn]; omega
         have hH:Holds (Value.int .i64) w (e.b i) o zs.toArray:=by
          intro j hj
          have hj':j < zs.length:=by simpa using hj
          refine ⟨?_,?_⟩
          ·rw [hcs j zs[j] (List.getElem?_eq_getElem hj')]
           simp [hj']
          ·have:=hf1 g3 (o + j) (by omega)
           simp only [World.frozen?,hob]
           exact this
         obtain rfl:as' = #[.slice (some ⟨e.b i,o,none⟩) n cc]:=Array.toList_inj.1 e1
         have hcall:=h1 (e.b i) o cc zs w hH (Array.getElem?_eq_some_iff.1 hob).1 (by omega)
         rw [hzn] at hcall
         refine ⟨hen _ _,hcall.mono ?_⟩
         rintro en w' ⟨rfl,m,os,rfl⟩
         refine ⟨e,_,rfl,e.le_refl,?_,tup0 e⟩
         have hR1:=hR.drawn (w.drawn + m)
         have hst:(zs.mergeSort fun x y=>decide (x≤y))=sortZ zs:=rfl
         have hsl:=sortZ_len zs
         rw [hst]
         generalize sortZ zs=ss at *
         have hR2:RH Tryz.prog.globals.size Fr W e { H with h:=H.h.upd i (.cells (c.puts off (nums ss)) lo hi el fl) } (putRow (Value.int .i64) (Sort.ahead w m) (e.b i) o ss.toArray):=by
          refine hR1.put hg (by simp [wr,g3]) (ob' := .cells (putCells (Value.int .i64) o ss.toArray C) el fz) ?_ ?_ ?_ ?_ rfl rfl rfl
          ·simp [putRow,mapBlock,Sort.ahead]
          ·simp only [putRow,mapBlock,Sort.ahead]
           rw [get_modify_same _ _ _ hob]
           rfl
          ·intro k hk
           simp only [putRow,mapBlock,Sort.ahead]
           rw [get_modify_ne _ _ _ _ (fun q=>hk q.symm)]
          ·have hps:(putCells (Value.int .i64) o ss.toArray C).size=C.size:=by simp [putCells]
           refine .cells _ lo hi el fl _ fz (by rw [hps]; exact hn) ?_ hf0 (by rw [hps]; exact hf1) hd
           intro k u a b hk
           rw [Tr.get_putsA] at hk
           have hnl:(nums ss).length=n:=by simp [nums]; omega
           rw [hnl] at hk
           by_cases hin:off≤k∧k < off + n
           ·rw [if_pos hin] at hk
            have hjl:k - off < ss.length:=by omega
            have hu:u = .int .i64 ss[k - off]:=by
             have:(nums ss)[k - off]? = some (.int .i64 ss[k - off]):=by simp [nums,hjl]
             rw [this] at hk
             exact (Option.some.inj hk).symm
            subst hu
            refine ⟨o + (k - off),by omega,.int .i64 ss[k - off],?_,.int _ _⟩
            have hC:o + (k - off) < C.size:=by omega
            simp only [putCells]
            rw [Array.getElem?_mapIdx,Array.getElem?_eq_getElem hC]
            simp only [Option.map_some,List.size_toArray]
            rw [if_pos (by omega),Nat.add_sub_cancel_left]
            simp [hjl]
           ·rw [if_neg hin] at hk
            obtain ⟨k2',hk2',u',hu',hr'⟩:=hcc k u a b hk
            refine ⟨k2',hk2',u',?_,hr'⟩
            simp only [putCells]
            rw [Array.getElem?_mapIdx,hu']
            simp only [Option.map_some,List.size_toArray]
            rw [if_neg (by omega)]
         exact hR2.below ⟨rfl,rfl,rfl,by simp [grow],fun k hk=>by
          simp only [grow]
          rw [Array.getElem?_append_left hk]⟩
      ·cases hp
     ·cases hp
    ·omega
   ·cases hp
 ·cases hp
theorem sortOne:PrimOne Tryz.prog 54 sortP:=
 sort_ok (fun as' w=>run_enter (by unfold NamesOK; kernel_rfl) Tryz.func54 rfl as' w)
  (fun p cap w=>AnyM.slices_Sort_int_none Tryz.sortI p cap w) (fun blk off cap zs w hH hb hl=>AnyM.slices_Sort_int Tryz.sortI blk off cap zs w hH hb hl)
end Go.Proofs.YtbdlbhlhnpblpaaGreatDoor.SegSort
set_option linter.unusedVariables false
set_option linter.unusedSimpArgs false
namespace Go.Proofs.YtbdlbhlhnpblpaaGreatDoor.CloneWalk
open Go Go.RowKit Go.Lib
theorem info8:∃ i,Tryz.prog.info? 5=some i∧i.zero=some (.int .u8 0)∧i.size=1∧i.bytes=1:=by
 have h1:(Tryz.prog.info? 5).bind (·.zero)=some (.int .u8 0):=by kernel_rfl
 have h2:(Tryz.prog.info? 5).map (·.size)=some 1:=by kernel_rfl
 have h3:(Tryz.prog.info? 5).map (·.bytes)=some 1:=by kernel_rfl
 cases h:Tryz.prog.info? 5 with
 | none=>rw [h] at h1; cases h1
 | some i=>
  rw [h] at h1 h2 h3
  exact ⟨i,rfl,h1,by simpa using h2,by simpa using h3⟩
set_option maxHeartbeats 2000000 in
set_option maxRecDepth 100000 in
theorem walk (ad:Addr) (n c:Nat) (zs:List Int) (w:World) (hz:zs.length=n) (hbig:n≤140737488355328) (hc:∀ (j:Nat) (z:Int),zs[j]? = some z→w.cell? (ad.add j)=some (.int .u8 z)) :
  Calls Tryz.prog 25 #[.slice (some ad) n c] w fun e w'=>∃ v',e = .returned v'∧w'.ownsRow w.heap.size 5 1 v' n (zs.map (Value.int .u8))∧v' ≠ .slice none 0 0∧Below w.heap.size w w':=by
 obtain ⟨i0,hi,hz0,hz1,hz2⟩:=info8
 have q22:∀ (w:World) (a:Option Addr) (n c n' c':Nat),(binOp .eql 28 (.slice a n c) (.slice none n' c')).run Tryz.prog w = .ok (.bool a.isNone) w:=fun w a n c n' c'=>Lib.run_eql_slice_nil w _ _ a n c n' c' Tryz.underlying28
 have u22:∀ w,Sem.run Tryz.prog (underlying 28) w = .ok (TypeDesc.slice 5) w:=run_underlying Tryz.underlying28
 have A:Aside (∀ (j:Nat) (z:Int),zs[j]? = some z→w.cell? (ad.add j)=some (.int .u8 z)):=hc
 clear hc
 go_enter Tryz.func25,Tryz.ntmps25
 go_wp2_with (at_builtin; refine wpList_append_own _ rfl _ _ 28 rfl w.heap.size 5 i0 (.int .u8 0) 1 1 Tryz.underlying28 hi hz0 hz1 hz2 rfl (by decide) _ _ _ rfl (World.ownsRow_made w #[] 0 (Nat.le_refl _) (Nat.zero_le _) rfl) ad n c (zs.map (Value.int .u8)) rfl ?qc1 ?qc2 ?qc3 ?qc4 ?qc5 ?qc6 ?_)
 case qc1=>simp; omega
 case qc2=>
  intro j u hj
  rw [List.getElem?_map,Option.map_eq_some_iff] at hj
  obtain ⟨z,hz',rfl⟩:=hj
  exact Lib.cell?_alloc_some _ (A.out j z hz')
 case qc3=>intro u hu; obtain ⟨x,_,rfl⟩:=List.mem_map.1 hu; rfl
 case qc4=>unfold maxLen; omega
 case qc5=>omega
 case qc6=>simp
 intro v' w1 hown hgrow hnil
 go_wp2
 go_ret
 refine ⟨v',rfl,by simpa using hown,?_,?_⟩
 ·exact hnil
 ·exact ((Below.refl _ w).alloc (Nat.le_refl _) _).grown hgrow (by simp) (by intro k hk; simp [Value.ownBlock] at hk; omega)
set_option maxHeartbeats 1000000 in
theorem walk_nil (n c:Nat) (w:World):Calls Tryz.prog 25 #[.slice none n c] w fun e w'=>e = .returned (.slice none 0 0)∧w'=w:=by
 have q22:∀ (w:World) (a:Option Addr) (n c n' c':Nat),(binOp .eql 28 (.slice a n c) (.slice none n' c')).run Tryz.prog w = .ok (.bool a.isNone) w:=fun w a n c n' c'=>Lib.run_eql_slice_nil w _ _ a n c n' c' Tryz.underlying28
 go_enter Tryz.func25,Tryz.ntmps25
 go_wp2
 go_ret
 exact ⟨rfl,rfl⟩
open Go.Proofs.YtbdlbhlhnpblpaaGreatDoor.Am
theorem at_len {H:Hp} {i:Nat}:∀ (n o:Nat) (l:List AV),Am.cellsAt H i o n=some l→l.length=n∧∀ (j:Nat) (v:AV),l[j]? = some v→Am.cellAt H i (o + j)=some v
 | 0,o,l,h=>by cases h; exact ⟨rfl,fun j v q=>by simp at q⟩
 | n + 1,o,l,h=>by
  have h':((Am.cellAt H i o).bind fun v=>(Am.cellsAt H i (o + 1) n).bind fun r=>some (v::r))=some l:=h
  rw [Option.bind_eq_some_iff] at h'
  obtain ⟨v,h1,h2⟩:=h'
  rw [Option.bind_eq_some_iff] at h2
  obtain ⟨r,h3,h4⟩:=h2
  cases h4
  obtain ⟨i1,i2⟩:=at_len n (o + 1) r h3
  refine ⟨by simp [i1],fun j u q => ?_⟩
  cases j with
  | zero=>simp only [List.getElem?_cons_zero,Option.some.injEq] at q; subst q; exact h1
  | succ j=>
   simp only [List.getElem?_cons_succ] at q
   have:=i2 j u q
   rw [show o + (j + 1)=o + 1 + j by omega]
   exact this
open Classical in
noncomputable def cloneP:Am.Prim:=fun args H=>match args with
 | [.slice0]=>some (.slice0,H)
 | [.slice i o n c ex 1]=>match Am.cellsAt H i o n with
  | some l=>if n≤140737488355328∧∃ zs:List Int,l=zs.map (AV.int .u8) then (Am.alloc H (.cells (Tr.puts .nil 0 l) 0 l.length 5 0)).map fun r=>(.slice r.1 0 n n false 1,r.2) else none
  | none=>none
 | _=>none
theorem names0:Am.NamesOK Tryz.prog:=by unfold Am.NamesOK; kernel_rfl
theorem cloneOne:Am.PrimOne Tryz.prog 25 cloneP:=by
 intro args H v H' hp F W e w as' hR ha
 unfold cloneP at hp
 split at hp
 ·cases hp
  obtain ⟨a',r1,e1,hv1,hr1⟩:=ha.cons_inv
  have e3:=hr1.nil_inv
  subst e3
  have e4:a' = .slice none 0 0:=by cases hv1; rfl
  subst e4
  obtain rfl:as' = #[.slice none 0 0]:=Array.toList_inj.1 e1
  refine ⟨Am.run_enter names0 Tryz.func25 rfl _ w,(walk_nil 0 0 w).mono ?_⟩
  rintro en w' ⟨rfl,rfl⟩
  exact ⟨e,_,rfl,e.le_refl,hR,.slice0⟩
 ·rename_i i o n c ex
  split at hp
  ·rename_i l hl
   split at hp
   ·rename_i hc
    obtain ⟨hn,zs,rfl⟩:=hc
    obtain ⟨hlen,hget⟩:=at_len n o _ hl
    rw [Option.map_eq_some_iff] at hp
    obtain ⟨⟨ni,H2⟩,hal,hpe⟩:=hp
    cases hpe
    obtain ⟨a',r1,e1,hv1,hr1⟩:=ha.cons_inv
    have e3:=hr1.nil_inv
    subst e3
    have hzl:zs.length=n:=by simpa using hlen
    obtain ⟨ad,c',e4,hrd⟩:∃ (ad:Addr) (c':Nat),a' = .slice (some ad) n c'∧∀ (j:Nat) (z:Int),zs[j]? = some z→w.cell? (ad.add j)=some (.int .u8 z):=by
     cases hv1 with
     | slice _ _ _ _ _ _ o' c' hi ho hl' hc' hx hn'=>
      refine ⟨_,c',rfl,fun j z hz => ?_⟩
      have h1:=hget j (.int .u8 z) (by rw [List.getElem?_map,hz]; rfl)
      obtain ⟨_,o2,ho2,v2,hcell,hvr⟩:=hR.load h1
      have e5:o2=o' + j:=by omega
      subst e5
      rw [Addr.add_lit]
      cases hvr
      exact hcell
     | sliceE _ _ _ _ a=>
      refine ⟨a,0,rfl,fun j z hz => ?_⟩
      have:=(List.getElem?_eq_some_iff.1 hz).1
      omega
    subst e4
    obtain rfl:as' = #[.slice (some ad) n c']:=Array.toList_inj.1 e1
    refine ⟨Am.run_enter names0 Tryz.func25 rfl _ w,(walk ad n c' zs w hzl hn hrd).mono ?_⟩
    rintro en w' ⟨v',rfl,hrow,hnil,hbl⟩
    obtain ⟨hxl,hrow2⟩:=hrow
    rcases hrow2 with ⟨rfl,h0⟩ | ⟨g,cap,cur,rfl,hbg,hcur,hcap,hcapm,hcsz,htake⟩
    ·exact absurd rfl hnil
    have hi':ni=e.N:=(alloc_some hal).1.trans hR.N.symm
    have hle:=Em.le_ext e g 0 cur.size
    have hor:OR (e.ext g 0 cur.size) ni (.cells (Tr.puts .nil 0 (zs.map (AV.int .u8))) 0 (zs.map (AV.int .u8)).length 5 0) (.cells cur 5 (0,0)):=by
     subst hi'
     refine .cells _ _ _ _ _ _ (0,0) (by simp [Em.ext_n]) ?_ (fun _=>rfl) (by simp) (fun _=>Em.ext_d ..)
     intro k v _ hk hg
     rw [get_puts',if_pos ⟨Nat.zero_le _,by simpa using hk⟩,Nat.sub_zero] at hg
     rw [List.getElem?_map,Option.map_eq_some_iff] at hg
     obtain ⟨u,hu1,rfl⟩:=hg
     refine ⟨k,by rw [Em.ext_d]; omega,.int .u8 u,?_,.int _ _⟩
     have h1:(cur.toList.take (n * 1))[k]? = some (Value.int .u8 u):=by rw [htake,List.getElem?_map,hu1]; rfl
     rw [List.getElem?_take] at h1
     split at h1
     ·rw [← Array.getElem?_toList]; exact h1
     ·cases h1
    obtain ⟨hin,hR2⟩:=hR.adoptB hbl hbg hcur hal hor
    refine ⟨_,_,rfl,hle,hR2,?_⟩
    subst hin
    have hb0:(e.ext g 0 cur.size).b e.N=g:=Em.ext_b ..
    have hv:=VR.slice (e:=e.ext g 0 cur.size) e.N 0 n n false 1 0 cap (Nat.lt_succ_self e.N) (by rw [Em.ext_d]; rfl) hcap hcap (by simp) (by rw [Em.ext_n,hcsz]; omega)
    rw [hb0] at hv
    exact hv
   ·cases hp
  ·cases hp
 ·cases hp
end Go.Proofs.YtbdlbhlhnpblpaaGreatDoor.CloneWalk
namespace Go.Proofs.YtbdlbhlhnpblpaaGreatDoor.WlEnv
open Go Go.RowKit Am
set_option linter.unusedVariables false
set_option maxRecDepth 100000
def ext (g:Nat):Option Ext:=bif Nat.beq g 143 then some .same else bif Nat.beq g 144 then some (.noZero 28) else bif Nat.beq g 167 then some .idxByte else none
theorem extOK:ExtOK Tryz.prog ext:=by
 intro fid k h as' w
 unfold ext at h
 cases h1:Nat.beq fid 143 with
 | true=>
  rw [h1] at h
  cases h
  obtain rfl:=Nat.eq_of_beq_eq_true h1
  exact ext_of (e:=Extern.AbiNoEscape.same) Tryz.func143 (by kernel_rfl) (by kernel_rfl) (by kernel_rfl) (by kernel_rfl) rfl as' w
 | false=>
  rw [h1] at h
  clear h1
  cases h1:Nat.beq fid 144 with
  | true=>
   rw [h1] at h
   cases h
   obtain rfl:=Nat.eq_of_beq_eq_true h1
   exact ext_of (e:=Extern.BytealgMakeNoZero.makeNoZero #[] #[28]) Tryz.func144 (by kernel_rfl) (by kernel_rfl) (by kernel_rfl) (by kernel_rfl) rfl as' w
  | false=>
   rw [h1] at h
   clear h1
   cases h1:Nat.beq fid 167 with
   | true=>
    rw [h1] at h
    cases h
    obtain rfl:=Nat.eq_of_beq_eq_true h1
    exact ext_of (e:=Extern.BytealgIndexByte.indexByte) Tryz.func167 (by kernel_rfl) (by kernel_rfl) (by kernel_rfl) (by kernel_rfl) rfl as' w
   | false=>
    rw [h1] at h
    clear h1
    cases h
noncomputable def prim0 (g:Nat):Option Prim:=bif Nat.beq g 44 then some Am.freeP else bif Nat.beq g 35 then some (Am.namesP 9) else bif Nat.beq g 73 then some Am.trimP else none
theorem prim0OK:PrimOK Tryz.prog prim0:=by
 intro fid p h args H v H' hp
 unfold prim0 at h
 cases h1:Nat.beq fid 44 with
 | true=>
  rw [h1] at h
  cases h
  obtain rfl:=Nat.eq_of_beq_eq_true h1
  exact FreeWalk.freeOne args H v H' hp
 | false=>
  rw [h1] at h
  clear h1
  cases h1:Nat.beq fid 35 with
  | true=>
   rw [h1] at h
   cases h
   obtain rfl:=Nat.eq_of_beq_eq_true h1
   exact NamesWalk.namesOne args H v H' hp
  | false=>
   rw [h1] at h
   clear h1
   cases h1:Nat.beq fid 73 with
   | true=>
    rw [h1] at h
    cases h
    obtain rfl:=Nat.eq_of_beq_eq_true h1
    exact TrimWalk.trimOne args H v H' hp
   | false=>
    rw [h1] at h
    clear h1
    cases h
theorem namesOK:NamesOK Tryz.prog:=by unfold NamesOK; kernel_rfl
theorem mixed:Tryz.prog.follows .mixedOrders=true:=by kernel_rfl
def pow10:List Int:=[1,10,100,1000,10000,100000,1000000,10000000,100000000,1000000000,10000000000,100000000000,1000000000000,10000000000000,100000000000000,1000000000000000,10000000000000000,100000000000000000,1000000000000000000,10000000000000000000]
def tab32:List Int:=[0,1,28,2,29,14,24,3,30,22,20,15,25,17,4,8,31,27,13,23,21,19,16,7,26,12,18,6,11,5,10,9]
def tab64:List Int:=[0,1,56,2,57,49,28,3,61,58,42,50,38,29,17,4,62,47,59,36,45,43,51,22,53,39,33,30,24,18,12,5,63,55,48,27,60,41,37,16,46,35,44,21,52,32,23,11,54,26,40,15,34,20,31,10,25,14,19,9,13,8,7,6]
def begin0:List (Nat × List AV):=[(0,pow10.map (AV.int .u64)),(1,[.iface 215 (.ptr 10 0)]),(2,[.iface 215 (.ptr 9 0)]),(6,tab32.map (AV.int .u8)),(7,tab64.map (AV.int .u8))]
abbrev laid : List (String × DataW Unit) := [("math/bits.deBruijn32tab", Rows.laid_math_bits_deBruijn32tab), ("math/bits.deBruijn64tab", Rows.laid_math_bits_deBruijn64tab), ("internal/strconv.uint64pow10", Rows.laid_internal_strconv_uint64pow10), ("unicode/utf8.acceptRanges", Rows.laid_unicode_utf8_acceptRanges), ("strconv.ErrRange", Rows.laid_strconv_ErrRange), ("strconv.ErrSyntax", Rows.laid_strconv_ErrSyntax), ("unicode/utf8.first", Rows.laid_unicode_utf8_first)]
theorem star : "*" ++ "errors.errorString" = "*errors.errorString" := by decide
theorem rowErr (u : TypeId) (h : Tryz.prog.typeName? 3 u = some "*errors.errorString") : u = 215 :=
 typeName_ptr_named (nm := "errors.errorString") (by rw [star]; kernel_rfl) (by kernel_rfl) (by decide) u (by rw [star]; exact h)
theorem begins {W:World} (h:laidMet Tryz.prog laid W) (hsz:8≤W.heap.size) (bx:Nat→Nat) (dx:Nat→Int) (nx:Nat→Nat) {N:Nat} (hN:11≤N) {PO:List (Nat × AO)}
  (hP:∀ i o,(i,o)∈PO→11≤i∧i < N∧wr o=false∧∃ ob,W.heap[bx i]? = some ob∧∀ e:Em,e.N=N→(∀ j,11≤j→e.b j=bx j∧e.d j=dx j∧e.n j=nx j)→OR e i o ob) :
  ∃ e,RH Tryz.prog.globals.size (fun k=>k < W.heap.size) W e ⟨layP PO (layO (elAt W) begin0),N⟩ W∧e.N=N∧∀ j,11≤j→e.b j=bx j∧e.d j=dx j∧e.n j=nx j:=by
 have hs:Tryz.prog.globals.size=8:=by kernel_rfl
 rw [hs]
 obtain ⟨b0, o0, t0, w0⟩ := laid_err (n := "strconv.ErrRange") (nm := "*errors.errorString") (tp := 215) (te := 217) (ts := 9) h (.tail _ (.tail _ (.tail _ (.tail _ (.head _))))) (g := 2) (ti := 125) (by kernel_rfl) (by kernel_rfl) Tryz.underlying125 rowErr Tryz.underlying215 Tryz.underlying217 rfl rfl Tryz.underlying9 (by kernel_rfl) (by kernel_rfl)
 obtain ⟨b1, o1, t1, w1⟩ := laid_err (n := "strconv.ErrSyntax") (nm := "*errors.errorString") (tp := 215) (te := 217) (ts := 9) h (.tail _ (.tail _ (.tail _ (.tail _ (.tail _ (.head _)))))) (g := 1) (ti := 125) (by kernel_rfl) (by kernel_rfl) Tryz.underlying125 rowErr Tryz.underlying215 Tryz.underlying217 rfl rfl Tryz.underlying9 (by kernel_rfl) (by kernel_rfl)
 let bz:Nat→Nat:=fun i=>if i=9 then b0 else if i=10 then b1 else bx i
 let dz:Nat→Int:=fun i=>if i=9 then (o0:Int) else if i=10 then (o1:Int) else dx i
 have T0 := fun em : Em => laid_table (name := "internal/strconv.uint64pow10") (k := .u64) (zs := pow10) h (.tail _ (.tail _ (.head _))) (g := 0) (by kernel_rfl) (by kernel_rfl) Tryz.underlying197 Tryz.underlying29 (by kernel_rfl) (by kernel_rfl) (by decide) em
 have T6 := fun em : Em => laid_table (name := "math/bits.deBruijn32tab") (k := .u8) (zs := tab32) h (.head _) (g := 6) (by kernel_rfl) (by kernel_rfl) Tryz.underlying225 Tryz.underlying5 (by kernel_rfl) (by kernel_rfl) (by decide) em
 have T7 := fun em : Em => laid_table (name := "math/bits.deBruijn64tab") (k := .u8) (zs := tab64) h (.tail _ (.head _)) (g := 7) (by kernel_rfl) (by kernel_rfl) Tryz.underlying226 Tryz.underlying5 (by kernel_rfl) (by kernel_rfl) (by decide) em
 have hj:∀ j,11≤j→(Am.start W 8 N bz dz nx).b j=bx j∧(Am.start W 8 N bz dz nx).d j=dx j∧(Am.start W 8 N bz dz nx).n j=nx j:=by
  intro j hj
  refine ⟨?_,?_,?_⟩ <;> simp only [Am.start,bz,dz] <;> (repeat rw [if_neg (by omega)])
 refine ⟨Am.start W 8 N bz dz nx,RH.start bz dz nx (by omega) (by decide) hsz ?_ ?_,rfl,hj⟩
 ·intro g l hm
  simp only [begin0,List.mem_cons,Prod.mk.injEq,List.mem_nil_iff,or_false] at hm
  rcases hm with ⟨rfl,rfl⟩ | ⟨rfl,rfl⟩ | ⟨rfl,rfl⟩ | ⟨rfl,rfl⟩ | ⟨rfl,rfl⟩
  ·exact ⟨by decide,by decide,T0 _⟩
  ·refine ⟨by decide,by decide,_,t1,w1,fun k v hv => ?_⟩
   cases k with
   | zero=>
    simp only [List.getElem?_cons_zero,Option.some.injEq] at hv
    subst hv
    exact ⟨_,rfl,.iface _ _ _ (.ptr (e:=Am.start W 8 N bz dz nx) 10 0 o1 (show (10:Nat) < N by omega) (by simp [Am.start,dz]))⟩
   | succ k=>simp at hv
  ·refine ⟨by decide,by decide,_,t0,w0,fun k v hv => ?_⟩
   cases k with
   | zero=>
    simp only [List.getElem?_cons_zero,Option.some.injEq] at hv
    subst hv
    exact ⟨_,rfl,.iface _ _ _ (.ptr (e:=Am.start W 8 N bz dz nx) 9 0 o0 (show (9:Nat) < N by omega) (by simp [Am.start,dz]))⟩
   | succ k=>simp at hv
  ·exact ⟨by decide,by decide,T6 _⟩
  ·exact ⟨by decide,by decide,T7 _⟩
 ·intro i o hm
  obtain ⟨h1,h2,h3,ob,h4,h5⟩:=hP i o hm
  exact ⟨by omega,h2,h3,ob,by have:=(hj i h1).1; simp only [Am.start,if_neg (show ¬ i < 8 by omega)] at this; rw [this]; exact h4,h5 _ rfl hj⟩
theorem gsize:Tryz.prog.globals.size < 11:=by
 have hs:Tryz.prog.globals.size=8:=by kernel_rfl
 omega
theorem awakeF (el:Nat→TypeId):F.endTrue (F.runF Tryz.prog ext prim0 20000 6 [] ⟨layO el begin0,11⟩)=true:=by kernel_rfl
theorem awakeOne:PrimOne Tryz.prog 6 (oneP begin0 11):=
 one_ok mixed namesOK extOK prim0OK Tryz.func6 rfl gsize
  (by
   have hs:Tryz.prog.globals.size=8:=by kernel_rfl
   rw [hs]
   intro g l hm
   simp only [begin0,List.mem_cons,Prod.mk.injEq,List.mem_nil_iff,or_false] at hm; rcases hm with ⟨rfl,rfl⟩ | ⟨rfl,rfl⟩ | ⟨rfl,rfl⟩ | ⟨rfl,rfl⟩ | ⟨rfl,rfl⟩ <;> exact ⟨by decide,by decide,by decide,by decide⟩) fun el=>F.run_true (awakeF el)
noncomputable def prim1 (g:Nat):Option Prim:=bif Nat.beq g 46 then some SegPrim.nameP else bif Nat.beq g 53 then some SegPrim.parseP else bif Nat.beq g 54 then some SegSort.sortP else bif Nat.beq g 25 then some CloneWalk.cloneP else prim0 g
theorem prim1OK:PrimOK Tryz.prog prim1:=by
 intro fid p h args H v H' hp
 unfold prim1 at h
 cases h1:Nat.beq fid 46 with
 | true=>
  rw [h1] at h
  cases h
  obtain rfl:=Nat.eq_of_beq_eq_true h1
  exact SegPrim.nameOne args H v H' hp
 | false=>
  rw [h1] at h
  clear h1
  cases h1:Nat.beq fid 53 with
  | true=>
   rw [h1] at h
   cases h
   obtain rfl:=Nat.eq_of_beq_eq_true h1
   exact SegPrim.parseOne args H v H' hp
  | false=>
   rw [h1] at h
   clear h1
   cases h1:Nat.beq fid 54 with
   | true=>
    rw [h1] at h
    cases h
    obtain rfl:=Nat.eq_of_beq_eq_true h1
    exact SegSort.sortOne args H v H' hp
   | false=>
    rw [h1] at h
    clear h1
    cases h1:Nat.beq fid 25 with
    | true=>
     rw [h1] at h
     cases h
     obtain rfl:=Nat.eq_of_beq_eq_true h1
     exact CloneWalk.cloneOne args H v H' hp
    | false=>
     rw [h1] at h
     clear h1
     exact prim0OK fid p h args H v H' hp
noncomputable def prim (g:Nat):Option Prim:=bif Nat.beq g 6 then some (oneP begin0 11) else prim1 g
theorem primOK:PrimOK Tryz.prog prim:=by
 intro fid p h args H v H' hp
 unfold prim at h
 cases h1:Nat.beq fid 6 with
 | true=>
  rw [h1] at h
  cases h
  obtain rfl:=Nat.eq_of_beq_eq_true h1
  exact awakeOne args H v H' hp
 | false=>
  rw [h1] at h
  clear h1
  exact prim1OK fid p h args H v H' hp
theorem bytes8:∀ t,Tryz.prog.underlying t=some (.int .u8)→Tryz.prog.bytesOf t=1:=by
 have h:((List.range Tryz.prog.types.size).all fun t=>match Tryz.prog.underlying t with | some (.int .u8)=>Tryz.prog.bytesOf t == 1 | _=>true)=true:=by kernel_rfl
 intro t ht
 by_cases hlt:t < Tryz.prog.types.size
 ·have:=List.all_eq_true.1 h t (List.mem_range.2 hlt)
  rw [ht] at this
  simpa using this
 ·exfalso
  unfold Program.underlying at ht
  cases hi:Tryz.prog.info? t with
  | none=>rw [hi] at ht; cases ht
  | some i=>
   have hb:=Tables.info?_beyond hlt hi
   obtain ⟨desc,_⟩:=i
   cases desc
   all_goals try cases hb
   all_goals
    rw [hi] at ht
    cases ht
theorem lawRun {Q:Type} {enc:TypeId × Value→Q} {g:Nat} {fn:Func} {b:Code} (hf:Tryz.prog.funcs[g]? = some fn) (hb:fn.body=some b) (an:Nat→K.An) {W:World} (hL:laidMet Tryz.prog laid W) (hsz:8≤W.heap.size) {base:Nat} {spare:Nat→Bool} {held:Bool} (hsp:∀ b,spare b=true) {tys:List K.Ty} {vs:List Value}
  (ha:K.ArgsOf enc Tryz.prog W base spare held tys vs) (law:∀ H as' ds,K.ArgsIs H tys as' ds→hasT H begin0→11≤H.next→∃ H',K.CK Tryz.prog (K.regK Tryz.prog) ext prim an (.func (.func g) [] []) as' H=some (.bool true,H')) :
  Calls Tryz.prog g vs.toArray W fun en w'=>en = .returned (.bool true)∧Below W.heap.size W w':=by
 obtain ⟨as',os,ds,a1,a2,a3,a4⟩:=K.open_args bytes8 hsp ha 11
 have hs:Tryz.prog.globals.size=8:=by kernel_rfl
 obtain ⟨e,hR,hN,hj⟩:=begins hL hsz (fun i=>((os[i - 11]?).map (·.b)).getD 0) (fun _=>0) (fun i=>((os[i - 11]?).map (·.n)).getD 0) (N:=11 + os.length) (by omega) (PO:=K.poOf 11 os) (by
  intro i o hm
  obtain ⟨j,ob,h1,rfl,rfl⟩:=K.poOf_mem os 11 i o hm
  have hjl:=(List.getElem?_eq_some_iff.1 h1).1
  have hfits:∀ e:Em,e.N=11 + os.length→(∀ j,11≤j→e.b j=((os[j - 11]?).map (·.b)).getD 0∧e.d j=0∧e.n j=((os[j - 11]?).map (·.n)).getD 0)→K.Fits e 11 os:=by
   intro e he hj
   refine ⟨by omega,fun j o ho => ?_⟩
   obtain ⟨x,y,z⟩:=hj (11 + j) (by omega)
   rw [Nat.add_sub_cancel_left,ho] at x z
   exact ⟨x,y,z⟩
  have hex:∃ ow,W.heap[ob.b]? = some ow:=by
   let e0:Em:=⟨fun j=>((os[j - 11]?).map (·.b)).getD 0,fun _=>0,fun j=>((os[j - 11]?).map (·.n)).getD 0,11 + os.length⟩
   obtain ⟨ow,h,_⟩:=a2 e0 (hfits e0 rfl fun j _=>⟨rfl,rfl,rfl⟩) j ob h1
   exact ⟨ow,h⟩
  obtain ⟨ow,how⟩:=hex
  refine ⟨by omega,by omega,a3 ob (List.mem_of_getElem? h1),ow,?_,fun e he hj => ?_⟩
  ·rw [Nat.add_sub_cancel_left,h1]; exact how
  ·obtain ⟨ow2,h,h2⟩:=a2 e (hfits e he hj) j ob h1
   rw [how] at h; cases h
   exact h2)
 have hfit:K.Fits e 11 os:=by
  refine ⟨by omega,fun j o ho => ?_⟩
  obtain ⟨x,y,z⟩:=hj (11 + j) (by omega)
  rw [Nat.add_sub_cancel_left,ho] at x z
  exact ⟨x,y,z⟩
 have hhas:K.Has ⟨layP (K.poOf 11 os) (layO (elAt W) begin0),11 + os.length⟩ 11 os:=⟨Nat.le_refl _,fun j o ho=>K.layP_poOf os 11 _ j o ho⟩
 have hT:hasT ⟨layP (K.poOf 11 os) (layO (elAt W) begin0),11 + os.length⟩ begin0:=by
  refine ⟨elAt W,fun g l hm => ?_⟩
  have hg:g < 11:=by
   simp only [begin0,List.mem_cons,Prod.mk.injEq,List.mem_nil_iff,or_false] at hm; rcases hm with ⟨rfl,rfl⟩ | ⟨rfl,rfl⟩ | ⟨rfl,rfl⟩ | ⟨rfl,rfl⟩ | ⟨rfl,rfl⟩ <;> decide
  show (layP _ _).get g=_
  rw [K.layP_below os 11 _ g hg]
  exact K.layO_has _ _ (by decide) g l hm
 obtain ⟨H',hk⟩:=law _ as' ds (a4 _ hhas) hT (Nat.le_add_right _ _)
 refine (K.CK_calls mixed namesOK extOK primOK K.regK_sound hk hf hb hR (as':=vs.toArray) (by simpa using a1 e hfit)).mono fun en w' ⟨e',v',h1,_,hR',hv⟩ => ?_
 have:=hv.bool_inv
 subst this
 exact ⟨h1,⟨hR'.os,hR'.tape,hR'.output,hR'.size,fun k hk=>(hR'.frame k hk).2⟩⟩
theorem awake_c (an:Nat→K.An) {H:Hp} (hT:hasT H begin0) (hn:11≤H.next):K.CK Tryz.prog (K.regK Tryz.prog) ext prim an (.func (.func 6) [] []) [] H=some (.bool true,H):=by
 refine K.ck_prim (p:=oneP begin0 11) (by kernel_rfl) ?_
 unfold oneP
 rw [if_pos ⟨rfl,hT,hn⟩]
end Go.Proofs.YtbdlbhlhnpblpaaGreatDoor.WlEnv
